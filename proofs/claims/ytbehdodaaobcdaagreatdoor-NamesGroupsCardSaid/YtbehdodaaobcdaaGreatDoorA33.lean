import Derived.Test.YtbehdodaaobcdaaGreatDoorA32
import Derived.Test.YtbehdodaaobcdaaGreatDoorA27
import Derived.Test.YtbehdodaaobcdaaGreatDoorA24
set_option maxHeartbeats 4000000
open Go Go.AM Go.Proofs
namespace Go.AM
open Dist
def ddE (xs : List OpI) : Int := if mapsE xs ≠ 0 then mapsE xs else match closeD xs with
  | some _ => 0
  | none => 5
def ddR (xs : List OpI) : List OpI := if mapsE xs ≠ 0 then [] else dclR xs
end Go.AM
open Go Go.AM Go.Proofs
namespace Go.AM
open Dist
set_option maxRecDepth 100000
theorem nfdocclose (xs : List OpI) (c : Nat) : call P T3 (⟨1, fun _ _ _ => none, fun _ _ _ => []⟩ : Annos) 100000 Tryz.f43 [.v (.one (.rs 0 12 xs.length c))] [.ro 0 cOp xs] (fun v h => MatchTo 1 [v] h ([.tup [.one (.ow 1 12 0 (ddR xs).length false), .one (.sym .i64 (ddE xs))]], [.ro 0 cOp xs, .own 45 cOp (ddR xs)])) = ((decide ((192:Int)<(↑xs.length:Int))=true->(((0=0/\(ddR xs).length=0)/\ddE xs=2/\True)/\True)/\SameRows cOp xs cOp xs/\(ddR xs).length=0/\True)/\(decide ((192:Int)<(↑xs.length:Int))=false->∃ (z:List cOp.τ),SameRows cOp z cOp xs/\(xs.length=xs.length/\z.length.le 4611686018427387904)/\((!decide (mapsL z (0:Int)=0))=true->(((0=0/\(ddR xs).length=0)/\ddE xs=mapsL z (0:Int)/\True)/\True)/\SameRows cOp xs cOp xs/\(ddR xs).length=0/\True)/\((!decide (mapsL z (0:Int)=0))=false->∃ (z:List cOp.τ),SameRows cOp z cOp xs/\(xs.length=xs.length/\z.length.le 192)/\((!(closeD z).isSome)=true->(((0=0/\(ddR xs).length=0)/\ddE xs=5/\True)/\True)/\SameRows cOp xs cOp xs/\(ddR xs).length=0/\True)/\((!(closeD z).isSome)=false->(((0=0/\(ddR xs).length=(dclR z).length)/\ddE xs=0/\True)/\True)/\SameRows cOp xs cOp xs/\SameRows cOp (ddR xs) cOp (dclR z)/\True)))) := by kernel_rfl
theorem dd_bad {xs : List OpI} {m : Int} (h : mapsE xs = m) (hm : m ≠ 0) : ((((0 : Nat) = (0 : Nat) ∧ (ddR xs).length = (0 : Nat)) ∧ ddE xs = m ∧ True) ∧ True) ∧ SameRows cOp xs cOp xs ∧ (ddR xs).length = (0 : Nat) ∧ True := by
  have e : ddR xs = [] := by unfold ddR; rw [if_pos (by rw [h]; exact hm)]
  exact ⟨⟨⟨⟨rfl, by rw [e]; rfl⟩, by unfold ddE; rw [if_pos (by rw [h]; exact hm)]; exact h, trivial⟩, trivial⟩, sameR _ _, by rw [e]; rfl, trivial⟩
theorem callDocClose (xs : List OpI) (c : Nat) : CallR P T3 (⟨1, fun _ _ _ => none, fun _ _ _ => []⟩ : Annos) 100000 Tryz.f43 [.v (.one (.rs 0 12 xs.length c))] [.ro 0 cOp xs] (fun v h => MatchTo 1 [v] h ([.tup [.one (.ow 1 12 0 (ddR xs).length false), .one (.sym .i64 (ddE xs))]], [.ro 0 cOp xs, .own 45 cOp (ddR xs)])) := by
  refine ⟨?_⟩
  rw [nfdocclose]
  refine ⟨fun hl => ?_, fun hl => ?_⟩
  · have hl : (192 : Int) < xs.length := of_decide_eq_true hl
    exact dd_bad (m := 2) (by unfold mapsE; rw [if_pos hl]) (by decide)
  · have hl : ¬ (192 : Int) < xs.length := of_decide_eq_false hl
    have em : mapsE xs = mapsL xs 0 := by unfold mapsE; rw [if_neg hl]
    refine ⟨xs, sameR _ _, ⟨rfl, by show xs.length ≤ _; omega⟩, fun hm => ?_, fun hm => ?_⟩
    · exact dd_bad em (by simpa using hm)
    · have hm : mapsE xs = 0 := by rw [em]; simpa using hm
      refine ⟨xs, sameR _ _, ⟨rfl, by show xs.length ≤ _; omega⟩, fun hc => ?_, fun hc => ?_⟩
      · have hc : closeD xs = none := by simpa using hc
        have e : ddR xs = [] := by unfold ddR dclR; rw [if_neg (by simpa using hm), hc]
        exact ⟨⟨⟨⟨rfl, by rw [e]; rfl⟩, by unfold ddE; rw [if_neg (by simpa using hm), hc]; rfl, trivial⟩, trivial⟩, sameR _ _, by rw [e]; rfl, trivial⟩
      · have e : ddR xs = dclR xs := by unfold ddR; rw [if_neg (by simpa using hm)]
        obtain ⟨l, hc⟩ : ∃ l, closeD xs = some l := by
          cases h : closeD xs with
          | none => rw [h] at hc; cases hc
          | some l => exact ⟨l, rfl⟩
        exact ⟨⟨⟨⟨rfl, by rw [e]⟩, by unfold ddE; rw [if_neg (by simpa using hm), hc], trivial⟩, trivial⟩, sameR _ _, by rw [e]; exact sameR _ _, trivial⟩
def qDocClose : RSpec cOp := fun os xs => match os with
  | [] => some (True, .tup [.one (.ow 0 12 0 (ddR xs).length false), .one (.sym .i64 (ddE xs))], [.own 45 cOp (ddR xs)])
  | _ => none
theorem hrDocClose : HoldsR P 43 0 cOp qDocClose := by
  refine ⟨_, Tryz.func43, by kernel_rfl, fun os xs p v hs hq hp hno c => ?_⟩
  unfold qDocClose at hq
  split at hq
  · cases hq
    exact ⟨100000, (⟨1, fun _ _ _ => none, fun _ _ _ => []⟩ : Annos), T3, rfl, pT3, callDocClose xs c⟩
  · cases hq
end Go.AM
open Go Go.AM Go.Proofs
namespace Go.AM
open Dist
end Go.AM
open Go Go.AM Go.Proofs
namespace Go.AM
def blkOf (v : AV) : List Nat := match v with
  | .v (.one (.ptr b _)) => [b]
  | .v (.one (.ow b _ _ _ _)) => [b]
  | _ => []
def keepBs (ks : List Nat) : Nat → Heap → Heap
  | _, [] => []
  | i, x :: l => (if ks.contains i then x else .gone) :: keepBs ks (i + 1) l
end Go.AM
open Go Go.AM Go.Proofs
namespace Go.AM
open Dist
set_option maxRecDepth 100000
def qDigit : PSpec
  | [.v (.one (.sym .u8 n))] => .ok (.v (.one (.sb (digR n))))
  | _ => .fail
theorem nfdig (n : Int) (K : KV) : call P (Y0 stdOn) noAnn 1000 Tryz.f99 [.v (.one (.sym .u8 n))] [] K = ((decide ((48 : Int) ≤ n) = true → K (AV.v (PV.one (SV.sb (decide (n ≤ (57 : Int)))))) []) ∧ (decide ((48 : Int) ≤ n) = false → K (AV.v (PV.one (SV.cb false))) [])) := by kernel_rfl
theorem leafSB {b c : Bool} (h : b = c) : (AV.v (PV.one (SV.sb b))).valOf = some (.bool c) ∧ ([] : Heap) = [] := by subst h; exact ⟨rfl, rfl⟩
theorem leafCB {b c : Bool} (h : b = c) : (AV.v (PV.one (SV.cb b))).valOf = some (.bool c) ∧ ([] : Heap) = [] := by subst h; exact ⟨rfl, rfl⟩
theorem hDigit : Holds P (Y0 stdOn) 99 qDigit := by
  refine holdsA (fn := Tryz.f99) noAnn 1000 rfl (by kernel_rfl) (by kernel_rfl) fun args av hg => ?_
  unfold qDigit at hg
  split at hg
  · rename_i n
    rw [gives_ok hg]
    refine ⟨rfl, .bool (digR n), rfl, ?_⟩
    rw [nfdig]
    refine ⟨fun y => leafSB ?_, fun y => leafCB ?_⟩
    · unfold digR; rw [y]; rfl
    · unfold digR; rw [y]; rfl
  · exact (gives_fail hg).elim
def Z1 (o : OnB) : Sums := (Y0 o).add 99 qDigit
theorem pZ1 (o : OnB) : OkS P (Z1 o) := (pY0 o).add1 fine (pY0 stdOn) hDigit
def bt (s : List UInt8) (i : Nat) : Int := ((s.getD i 0).toNat : Int)
def dEnd (s : List UInt8) : Nat → Nat → Nat
  | 0, j => j
  | n + 1, j => if j < s.length ∧ digR (bt s j) = true then dEnd s n (j + 1) else j
def symR (r : Int) : Bool := decide (r = 120) || (decide (r = 121) || (decide (r = 122) || (decide (r = 43) || (decide (r = 45) || (decide (r = 44) || decide (r = 47))))))
def dtP (s : List UInt8) : Nat → Nat → List DTok
  | 0, _ => []
  | n + 1, i => if i < s.length then
      (if bt s i = 32 then dtP s n (i + 1)
      else if digR (bt s i) = true then ⟨48, i, dEnd s s.length i⟩ :: dtP s n (dEnd s s.length i)
      else if symR (bt s i) = true then ⟨bt s i, i, i + 1⟩ :: dtP s n (i + 1)
      else [⟨0, i, i⟩])
    else [⟨101, s.length, s.length⟩]
def dtoks (s : List UInt8) : List DTok := dtP s (s.length + 1) 0
structure DS where
  n : Nat
  i : Nat
  l : List DTok
def DSok (s : List UInt8) (x : DS) : Prop := x.l ++ dtP s x.n x.i = dtoks s ∧ s.length - x.i < x.n ∧ x.i ≤ s.length ∧ x.l.length ≤ x.i
def annDT (s : List UInt8) : Annos := ⟨0, fun id env h =>
  if id = 3 then forceE (keepT [0] 0 env) fun env => some ⟨{ x : DS // DSok s x }, fun x => (set (set env 3 (.v (.one (.ow 0 3 0 x.1.l.length false)))) 4 (.v (.one (.sym .i64 x.1.i))), [.own 158 dtkC x.1.l]), fun x => x.1.n⟩
  else if id = 10 then (match getD env 4 AV.any with
    | .v (.one (.sym _ k)) => forceH (keepBs (blkOf (getD env 3 AV.any)) 0 h) fun h => forceE (keepT [0, 3, 4, 5] 0 env) fun env => some ⟨{ j : Nat // k.toNat ≤ j ∧ j ≤ s.length ∧ dEnd s (s.length - (j - k.toNat)) j = dEnd s s.length k.toNat }, fun j => (set env 6 (.v (.one (.sym .i64 j.1))), h), fun j => s.length - j.1⟩
    | _ => none)
  else none, fun _ _ _ => []⟩
end Go.AM
open Go Go.AM Go.Proofs
namespace Go.AM
open Dist
set_option maxRecDepth 100000
open IntKind in
theorem nfdtk (s : List UInt8) (ws : List DTok) (m : Nat) : call P (Z1 stdOn) (annDT s) 1000 Tryz.f66 [.v (.one (.str s))] [] (fun v' h' => MatchTo 0 [v'] h' ([.v (.one (.ow 0 3 0 m false))], [.own 158 dtkC ws])) = ((∃ (z : { x:DS//DSok s x }),(s=s/\(0=0/\z.1.l.length=0)/\(↑z.1.i:Int)=0/\True)/\z.1.l.length=0/\True)/\∀ (x : { x:DS//DSok s x }),(decide ((↑x.1.i:Int)<(↑s.length:Int))=true->((0:Int)<=(↑x.1.i:Int)/\(↑x.1.i:Int)<(↑s.length:Int))/\(decide ((↑(s.getD (↑x.1.i:Int).toNat (0:UInt8)).toNat:Int)=32)=true->∃ (z : { x:DS//DSok s x }),z.1.n.succ.le x.1.n/\(s=s/\(0=0/\z.1.l.length=x.1.l.length)/\(↑z.1.i:Int)=i64.wrap ((↑x.1.i:Int)+1)/\True)/\SameRows dtkC z.1.l dtkC x.1.l/\True)/\(decide ((↑(s.getD (↑x.1.i:Int).toNat (0:UInt8)).toNat:Int)=32)=false->(digR (↑(s.getD (↑x.1.i:Int).toNat (0:UInt8)).toNat:Int)=true->(∃ (z : { j:Nat//(↑x.1.i:Int).toNat<=j/\j<=s.length/\dEnd s (s.length-(j-(↑x.1.i:Int).toNat)) j=dEnd s s.length (↑x.1.i:Int).toNat }),(s=s/\(0=0/\x.1.l.length=x.1.l.length)/\(↑x.1.i:Int)=(↑x.1.i:Int)/\(↑(s.getD (↑x.1.i:Int).toNat (0:UInt8)).toNat:Int)=(↑(s.getD (↑x.1.i:Int).toNat (0:UInt8)).toNat:Int)/\(↑z.1:Int)=(↑x.1.i:Int)/\True)/\SameRows dtkC x.1.l dtkC x.1.l/\True)/\∀ (x_1 : { j:Nat//(↑x.1.i:Int).toNat<=j/\j<=s.length/\dEnd s (s.length-(j-(↑x.1.i:Int).toNat)) j=dEnd s s.length (↑x.1.i:Int).toNat }),(decide ((↑x_1.1:Int)<(↑s.length:Int))=true->((0:Int)<=(↑x_1.1:Int)/\(↑x_1.1:Int)<(↑s.length:Int))/\(digR (↑(s.getD (↑x_1.1:Int).toNat (0:UInt8)).toNat:Int)=true->∃ (z : { j:Nat//(↑x.1.i:Int).toNat<=j/\j<=s.length/\dEnd s (s.length-(j-(↑x.1.i:Int).toNat)) j=dEnd s s.length (↑x.1.i:Int).toNat }),(s.length-z.1).succ.le (s.length-x_1.1)/\(s=s/\(0=0/\x.1.l.length=x.1.l.length)/\(↑x.1.i:Int)=(↑x.1.i:Int)/\(↑(s.getD (↑x.1.i:Int).toNat (0:UInt8)).toNat:Int)=(↑(s.getD (↑x.1.i:Int).toNat (0:UInt8)).toNat:Int)/\(↑z.1:Int)=i64.wrap ((↑x_1.1:Int)+1)/\True)/\SameRows dtkC x.1.l dtkC x.1.l/\True)/\(digR (↑(s.getD (↑x_1.1:Int).toNat (0:UInt8)).toNat:Int)=false->(x.1.l.length=x.1.l.length/\((x.1.l.length+1)*24).le 140737488355328/\(x.1.l.length+1).le 4611686018427387904)/\∃ (z : { x:DS//DSok s x }),z.1.n.succ.le x.1.n/\(s=s/\(0=0/\z.1.l.length=x.1.l.length+1)/\(↑z.1.i:Int)=(↑x_1.1:Int)/\True)/\SameRows dtkC z.1.l dtkC (x.1.l++[{ kind := (48:Int),pos := (↑x.1.i:Int),next := (↑x_1.1:Int) }])/\True))/\(decide ((↑x_1.1:Int)<(↑s.length:Int))=false->(x.1.l.length=x.1.l.length/\((x.1.l.length+1)*24).le 140737488355328/\(x.1.l.length+1).le 4611686018427387904)/\∃ (z : { x:DS//DSok s x }),z.1.n.succ.le x.1.n/\(s=s/\(0=0/\z.1.l.length=x.1.l.length+1)/\(↑z.1.i:Int)=(↑x_1.1:Int)/\True)/\SameRows dtkC z.1.l dtkC (x.1.l++[{ kind := (48:Int),pos := (↑x.1.i:Int),next := (↑x_1.1:Int) }])/\True))/\(digR (↑(s.getD (↑x.1.i:Int).toNat (0:UInt8)).toNat:Int)=false->(decide ((↑(s.getD (↑x.1.i:Int).toNat (0:UInt8)).toNat:Int)=120)=true->(x.1.l.length=x.1.l.length/\((x.1.l.length+1)*24).le 140737488355328/\(x.1.l.length+1).le 4611686018427387904)/\∃ (z : { x:DS//DSok s x }),z.1.n.succ.le x.1.n/\(s=s/\(0=0/\z.1.l.length=x.1.l.length+1)/\(↑z.1.i:Int)=i64.wrap ((↑x.1.i:Int)+1)/\True)/\SameRows dtkC z.1.l dtkC (x.1.l++[{ kind := (↑(s.getD (↑x.1.i:Int).toNat (0:UInt8)).toNat:Int),pos := (↑x.1.i:Int),next := i64.wrap ((↑x.1.i:Int)+1) }])/\True)/\(decide ((↑(s.getD (↑x.1.i:Int).toNat (0:UInt8)).toNat:Int)=120)=false->(decide ((↑(s.getD (↑x.1.i:Int).toNat (0:UInt8)).toNat:Int)=121)=true->(x.1.l.length=x.1.l.length/\((x.1.l.length+1)*24).le 140737488355328/\(x.1.l.length+1).le 4611686018427387904)/\∃ (z : { x:DS//DSok s x }),z.1.n.succ.le x.1.n/\(s=s/\(0=0/\z.1.l.length=x.1.l.length+1)/\(↑z.1.i:Int)=i64.wrap ((↑x.1.i:Int)+1)/\True)/\SameRows dtkC z.1.l dtkC (x.1.l++[{ kind := (↑(s.getD (↑x.1.i:Int).toNat (0:UInt8)).toNat:Int),pos := (↑x.1.i:Int),next := i64.wrap ((↑x.1.i:Int)+1) }])/\True)/\(decide ((↑(s.getD (↑x.1.i:Int).toNat (0:UInt8)).toNat:Int)=121)=false->(decide ((↑(s.getD (↑x.1.i:Int).toNat (0:UInt8)).toNat:Int)=122)=true->(x.1.l.length=x.1.l.length/\((x.1.l.length+1)*24).le 140737488355328/\(x.1.l.length+1).le 4611686018427387904)/\∃ (z : { x:DS//DSok s x }),z.1.n.succ.le x.1.n/\(s=s/\(0=0/\z.1.l.length=x.1.l.length+1)/\(↑z.1.i:Int)=i64.wrap ((↑x.1.i:Int)+1)/\True)/\SameRows dtkC z.1.l dtkC (x.1.l++[{ kind := (↑(s.getD (↑x.1.i:Int).toNat (0:UInt8)).toNat:Int),pos := (↑x.1.i:Int),next := i64.wrap ((↑x.1.i:Int)+1) }])/\True)/\(decide ((↑(s.getD (↑x.1.i:Int).toNat (0:UInt8)).toNat:Int)=122)=false->(decide ((↑(s.getD (↑x.1.i:Int).toNat (0:UInt8)).toNat:Int)=43)=true->(x.1.l.length=x.1.l.length/\((x.1.l.length+1)*24).le 140737488355328/\(x.1.l.length+1).le 4611686018427387904)/\∃ (z : { x:DS//DSok s x }),z.1.n.succ.le x.1.n/\(s=s/\(0=0/\z.1.l.length=x.1.l.length+1)/\(↑z.1.i:Int)=i64.wrap ((↑x.1.i:Int)+1)/\True)/\SameRows dtkC z.1.l dtkC (x.1.l++[{ kind := (↑(s.getD (↑x.1.i:Int).toNat (0:UInt8)).toNat:Int),pos := (↑x.1.i:Int),next := i64.wrap ((↑x.1.i:Int)+1) }])/\True)/\(decide ((↑(s.getD (↑x.1.i:Int).toNat (0:UInt8)).toNat:Int)=43)=false->(decide ((↑(s.getD (↑x.1.i:Int).toNat (0:UInt8)).toNat:Int)=45)=true->(x.1.l.length=x.1.l.length/\((x.1.l.length+1)*24).le 140737488355328/\(x.1.l.length+1).le 4611686018427387904)/\∃ (z : { x:DS//DSok s x }),z.1.n.succ.le x.1.n/\(s=s/\(0=0/\z.1.l.length=x.1.l.length+1)/\(↑z.1.i:Int)=i64.wrap ((↑x.1.i:Int)+1)/\True)/\SameRows dtkC z.1.l dtkC (x.1.l++[{ kind := (↑(s.getD (↑x.1.i:Int).toNat (0:UInt8)).toNat:Int),pos := (↑x.1.i:Int),next := i64.wrap ((↑x.1.i:Int)+1) }])/\True)/\(decide ((↑(s.getD (↑x.1.i:Int).toNat (0:UInt8)).toNat:Int)=45)=false->(decide ((↑(s.getD (↑x.1.i:Int).toNat (0:UInt8)).toNat:Int)=44)=true->(x.1.l.length=x.1.l.length/\((x.1.l.length+1)*24).le 140737488355328/\(x.1.l.length+1).le 4611686018427387904)/\∃ (z : { x:DS//DSok s x }),z.1.n.succ.le x.1.n/\(s=s/\(0=0/\z.1.l.length=x.1.l.length+1)/\(↑z.1.i:Int)=i64.wrap ((↑x.1.i:Int)+1)/\True)/\SameRows dtkC z.1.l dtkC (x.1.l++[{ kind := (↑(s.getD (↑x.1.i:Int).toNat (0:UInt8)).toNat:Int),pos := (↑x.1.i:Int),next := i64.wrap ((↑x.1.i:Int)+1) }])/\True)/\(decide ((↑(s.getD (↑x.1.i:Int).toNat (0:UInt8)).toNat:Int)=44)=false->(decide ((↑(s.getD (↑x.1.i:Int).toNat (0:UInt8)).toNat:Int)=47)=true->(x.1.l.length=x.1.l.length/\((x.1.l.length+1)*24).le 140737488355328/\(x.1.l.length+1).le 4611686018427387904)/\∃ (z : { x:DS//DSok s x }),z.1.n.succ.le x.1.n/\(s=s/\(0=0/\z.1.l.length=x.1.l.length+1)/\(↑z.1.i:Int)=i64.wrap ((↑x.1.i:Int)+1)/\True)/\SameRows dtkC z.1.l dtkC (x.1.l++[{ kind := (↑(s.getD (↑x.1.i:Int).toNat (0:UInt8)).toNat:Int),pos := (↑x.1.i:Int),next := i64.wrap ((↑x.1.i:Int)+1) }])/\True)/\(decide ((↑(s.getD (↑x.1.i:Int).toNat (0:UInt8)).toNat:Int)=47)=false->(x.1.l.length=x.1.l.length/\((x.1.l.length+1)*24).le 140737488355328/\(x.1.l.length+1).le 4611686018427387904)/\((0=0/\m=x.1.l.length+1)/\True)/\SameRows dtkC ws dtkC (x.1.l++[{ kind := (0:Int),pos := (↑x.1.i:Int),next := (↑x.1.i:Int) }])/\True))))))))))/\(decide ((↑x.1.i:Int)<(↑s.length:Int))=false->(x.1.l.length=x.1.l.length/\((x.1.l.length+1)*24).le 140737488355328/\(x.1.l.length+1).le 4611686018427387904)/\((0=0/\m=x.1.l.length+1)/\True)/\SameRows dtkC ws dtkC (x.1.l++[{ kind := (101:Int),pos := (↑s.length:Int),next := (↑s.length:Int) }])/\True)) := by kernel_rfl
theorem dEnd_step {s : List UInt8} {n j : Nat} (hj : j < s.length) (hd : digR (bt s j) = true) : dEnd s (n + 1) j = dEnd s n (j + 1) := by rw [dEnd, if_pos ⟨hj, hd⟩]
theorem dEnd_stop {s : List UInt8} {n j : Nat} (h : s.length ≤ j ∨ digR (bt s j) = false) : dEnd s n j = j := by
  cases n with
  | zero => rfl
  | succ n =>
    rw [dEnd, if_neg]
    rintro ⟨h1, h2⟩
    rcases h with h | h
    · omega
    · rw [h] at h2; cases h2
theorem sameD {xs ys : List DTok} (h : xs = ys) : SameRows dtkC xs dtkC ys := by subst h; exact ⟨rfl, rfl⟩
theorem lenD (xs : List DTok) (t : DTok) : (xs ++ [t]).length = xs.length + 1 := by simp
theorem dtok_run {s : List UInt8} (hs : s.length ≤ 65536) : call P (Z1 stdOn) (annDT s) 1000 Tryz.f66 [.v (.one (.str s))] [] (fun v' h' => MatchTo 0 [v'] h' ([.v (.one (.ow 0 3 0 (dtoks s).length false))], [.own 158 dtkC (dtoks s)])) := by
  refine Eq.mpr (nfdtk s (dtoks s) (dtoks s).length) ⟨⟨⟨⟨s.length + 1, 0, []⟩, ⟨rfl, by simp, by simp, by simp⟩⟩, ⟨rfl, ⟨rfl, rfl⟩, rfl, trivial⟩, rfl, trivial⟩, fun ⟨⟨n, i, l⟩, e1, e2, e3, e4⟩ => ?_⟩
  simp only at e1 e2 e3 e4
  have wi : ∀ j : Nat, j ≤ 70000 → ((j + 1 : Nat) : Int) = IntKind.i64.wrap ((j : Int) + 1) := fun j h => by rw [wr_id (by omega) (by omega)]; omega
  have bd : l.length = l.length ∧ ((l.length + 1) * 24).le 140737488355328 ∧ (l.length + 1).le 4611686018427387904 := ⟨rfl, by show (l.length + 1) * 24 ≤ 140737488355328; omega, by show l.length + 1 ≤ 4611686018427387904; omega⟩
  obtain ⟨n, rfl⟩ : ∃ k, n = k + 1 := ⟨n - 1, by omega⟩
  refine ⟨fun hi => ?_, fun hi => ?_⟩
  · have hi : i < s.length := by have := of_decide_eq_true hi; simp only at this; omega
    rw [dtP, if_pos hi] at e1
    refine ⟨⟨by show (0 : Int) ≤ (i : Int); omega, by show (i : Int) < (s.length : Int); omega⟩, fun h32 => ?_, fun h32 => ?_⟩
    · have h32 : bt s i = 32 := of_decide_eq_true h32
      rw [if_pos h32] at e1
      exact ⟨⟨⟨n, i + 1, l⟩, ⟨e1, by simp only; omega, by simp only; omega, by simp only; omega⟩⟩, Nat.le_refl _, ⟨rfl, ⟨rfl, rfl⟩, wi i (by omega), trivial⟩, sameD rfl, trivial⟩
    · have h32 : ¬ bt s i = 32 := of_decide_eq_false h32
      rw [if_neg h32] at e1
      refine ⟨fun hd => ?_, fun hd => ?_⟩
      · have hd : digR (bt s i) = true := hd
        rw [if_pos hd] at e1
        have fin : ∀ j : Nat, i ≤ j → j ≤ s.length → dEnd s (s.length - (j - i)) j = dEnd s s.length i → (s.length ≤ j ∨ digR (bt s j) = false) → DSok s ⟨n, j, l ++ [⟨48, i, j⟩]⟩ := fun j k1 k2 k3 k4 => by
          rw [dEnd_stop k4] at k3
          have hne : i < j := by
            rcases Nat.lt_or_ge i j with h | h
            · exact h
            · have : j = i := by omega
              subst this
              rcases k4 with h | h
              · omega
              · rw [hd] at h; cases h
          rw [← k3] at e1
          exact ⟨by simp only; rw [← e1, List.append_assoc]; rfl, by simp only; omega, k2, by simp only [lenD]; omega⟩
        refine ⟨⟨⟨i, Nat.le_refl _, Nat.le_of_lt hi, by show dEnd s (s.length - (i - i)) i = dEnd s s.length i; rw [Nat.sub_self]; rfl⟩, ⟨rfl, ⟨rfl, rfl⟩, rfl, rfl, rfl, trivial⟩, sameD rfl, trivial⟩, fun ⟨j, k1, k2, k3⟩ => ?_⟩
        have k1 : i ≤ j := k1
        have k3 : dEnd s (s.length - (j - i)) j = dEnd s s.length i := k3
        refine ⟨fun hj => ?_, fun hj => ?_⟩
        · have hj : j < s.length := by have := of_decide_eq_true hj; simp only at this; omega
          refine ⟨⟨by show (0 : Int) ≤ (j : Int); omega, by show (j : Int) < (s.length : Int); omega⟩, fun hdj => ?_, fun hdj => ?_⟩
          · have hdj : digR (bt s j) = true := hdj
            refine ⟨⟨j + 1, by show i ≤ j + 1; omega, hj, ?_⟩, by show (s.length - (j + 1)) + 1 ≤ s.length - j; omega, ⟨rfl, ⟨rfl, rfl⟩, rfl, rfl, wi j (by omega), trivial⟩, sameD rfl, trivial⟩
            show dEnd s (s.length - (j + 1 - i)) (j + 1) = dEnd s s.length i
            rw [← k3, show s.length - (j - i) = (s.length - (j + 1 - i)) + 1 by omega, dEnd_step hj hdj]
          · have hdj : digR (bt s j) = false := hdj
            exact ⟨bd, ⟨⟨n, j, l ++ [⟨48, i, j⟩]⟩, fin j k1 k2 k3 (.inr hdj)⟩, Nat.le_refl _, ⟨rfl, ⟨rfl, lenD _ _⟩, rfl, trivial⟩, sameD rfl, trivial⟩
        · have hj : s.length ≤ j := by have := of_decide_eq_false hj; simp only at this; omega
          exact ⟨bd, ⟨⟨n, j, l ++ [⟨48, i, j⟩]⟩, fin j k1 k2 k3 (.inl hj)⟩, Nat.le_refl _, ⟨rfl, ⟨rfl, lenD _ _⟩, rfl, trivial⟩, sameD rfl, trivial⟩
      · have hd : digR (bt s i) = false := hd
        rw [if_neg (by rw [hd]; decide)] at e1
        have sy : symR (bt s i) = true → DSok s ⟨n, i + 1, l ++ [⟨bt s i, i, IntKind.i64.wrap ((i : Int) + 1)⟩]⟩ := fun h => by
          rw [if_pos h] at e1
          have e : IntKind.i64.wrap ((i : Int) + 1) = (i : Int) + 1 := by rw [wr_id (by omega) (by omega)]
          exact ⟨by simp only; rw [e, ← e1, List.append_assoc]; rfl, by simp only; omega, hi, by simp only [lenD]; omega⟩
        have fin : symR (bt s i) = true → ∃ (z : { x : DS // DSok s x }), z.val.n.succ.le (n + 1) ∧ (s = s ∧ ((0 : Nat) = (0 : Nat) ∧ z.val.l.length = l.length + (1 : Nat)) ∧ (z.val.i : Int) = IntKind.i64.wrap ((i : Int) + (1 : Int)) ∧ True) ∧ SameRows dtkC z.val.l dtkC (l ++ [{ kind := bt s i, pos := (i : Int), next := IntKind.i64.wrap ((i : Int) + (1 : Int)) }]) ∧ True := fun h =>
          ⟨⟨⟨n, i + 1, l ++ [⟨bt s i, i, IntKind.i64.wrap ((i : Int) + 1)⟩]⟩, sy h⟩, Nat.le_refl _, ⟨rfl, ⟨rfl, lenD _ _⟩, wi i (by omega), trivial⟩, sameD rfl, trivial⟩
        have q1 : decide (bt s i = 120) = true → symR (bt s i) = true := fun a1 => by unfold symR; rw [a1]; rfl
        refine ⟨fun a1 => ⟨bd, fin (by unfold symR; rw [show decide (bt s i = 120) = true from a1]; rfl)⟩, fun a1 => ⟨fun a2 => ⟨bd, fin (by unfold symR; rw [show decide (bt s i = 121) = true from a2]; simp)⟩, fun a2 => ⟨fun a3 => ⟨bd, fin (by unfold symR; rw [show decide (bt s i = 122) = true from a3]; simp)⟩, fun a3 => ⟨fun a4 => ⟨bd, fin (by unfold symR; rw [show decide (bt s i = 43) = true from a4]; simp)⟩, fun a4 => ⟨fun a5 => ⟨bd, fin (by unfold symR; rw [show decide (bt s i = 45) = true from a5]; simp)⟩, fun a5 => ⟨fun a6 => ⟨bd, fin (by unfold symR; rw [show decide (bt s i = 44) = true from a6]; simp)⟩, fun a6 => ⟨fun a7 => ⟨bd, fin (by unfold symR; rw [show decide (bt s i = 47) = true from a7]; simp)⟩, fun a7 => ?_⟩⟩⟩⟩⟩⟩⟩
        have hsy : symR (bt s i) = false := by
          unfold symR
          rw [show decide (bt s i = 120) = false from a1, show decide (bt s i = 121) = false from a2, show decide (bt s i = 122) = false from a3, show decide (bt s i = 43) = false from a4, show decide (bt s i = 45) = false from a5, show decide (bt s i = 44) = false from a6, show decide (bt s i = 47) = false from a7]
          rfl
        rw [if_neg (by rw [hsy]; decide)] at e1
        exact ⟨bd, ⟨⟨rfl, by show (dtoks s).length = l.length + 1; rw [← e1]; exact lenD _ _⟩, trivial⟩, sameD e1.symm, trivial⟩
  · have hi : i = s.length := by have := of_decide_eq_false hi; simp only at this; omega
    rw [dtP, if_neg (by omega)] at e1
    exact ⟨bd, ⟨⟨rfl, by show (dtoks s).length = l.length + 1; rw [← e1]; exact lenD _ _⟩, trivial⟩, sameD e1.symm, trivial⟩
def qDToks : FSpec := fun args => match args with
  | [.v (.one (.str s))] => some (s.length ≤ 65536, .v (.one (.ow 0 3 0 (dtoks s).length false)), [.own 158 dtkC (dtoks s)])
  | _ => none
theorem hDToks : HoldsFm P 66 qDToks := by
  refine ⟨Tryz.f66, by kernel_rfl, by kernel_rfl, fun args p v hs hq hp => ?_⟩
  unfold qDToks at hq
  split at hq
  · rename_i s
    simp only [Option.some.injEq, Prod.mk.injEq] at hq
    obtain ⟨rfl, rfl, rfl⟩ := hq
    exact ⟨rfl, rfl, 1000, _, Z1 stdOn, rfl, pZ1 stdOn, ⟨dtok_run hp⟩⟩
  · cases hq
end Go.AM
open Go Go.AM Go.Proofs
namespace Go.AM
open Dist
def dk (ys : List DTok) (i : Int) : DTok := ys.getD i.toNat dtkC.d
def Pd (ys : List DTok) (i : Int) (len : Nat) : Prop := len = ys.length ∧ (0 ≤ i ∧ i < (ys.length : Int)) ∧ ys.length ≤ 4611686018427387904
def dH (ys : List DTok) (s : List UInt8) (i p : Int) (len : Nat) : Heap := [.row 120 [.str s, .ow 1 3 0 len false, .sym .i64 i, .sym .i64 p], .own 158 dtkC ys]
def dK (ys : List DTok) (s : List UInt8) (v : AV) (i p : Int) : KV := fun v' h' => MatchTo 2 [v'] h' ([v], dH ys s i p ys.length)
def dtS (t : DTok) : AV := .v (.agg [.sym .u8 t.kind, .sym .i64 t.pos, .sym .i64 t.next])
def dFail (p at' : Int) : Int := if p < 0 then at' else p
def dSkip (ys : List DTok) (i : Int) : Int := if i < (ys.length : Int) - 1 then i + 1 else i
def qNow : MSpec dtkC := fun os cs ys => match os, cs with
  | [], [.str s, .ow 1 3 0 len false, .sym .i64 i, .sym .i64 p] => some (Pd ys i len, dtS (dk ys i), [.str s, .ow 1 3 0 (@List.length DTok ys) false, .sym .i64 i, .sym .i64 p])
  | _, _ => none
end Go.AM
open Go Go.AM Go.Proofs
namespace Go.AM
open Dist
set_option maxRecDepth 100000
theorem nfdnow (ys : List DTok) (s : List UInt8) (i p : Int) (len : Nat) (a b c : Int) : call P (Z1 stdOn) ann2 1000 Tryz.f100 [.v (.one (.ptr 0 0))] (dH ys s i p len) (dK ys s (.v (.agg [.sym .u8 a, .sym .i64 b, .sym .i64 c])) i p) = (((0:Int)<=i/\i<(↑len:Int))/\(0+i.toNat).succ.le ys.length/\((a=(ys.getD (0+i.toNat) dtkC.d).kind/\b=(ys.getD (0+i.toNat) dtkC.d).pos/\c=(ys.getD (0+i.toNat) dtkC.d).next/\True)/\True)/\(s=s/\(0=0/\ys.length=len)/\i=i/\p=p/\True)/\SameRows dtkC ys dtkC ys/\True) := by kernel_rfl
theorem nfdfail (ys : List DTok) (s : List UInt8) (i p at' : Int) (len : Nat) (p' : Int) : call P (Z1 stdOn) ann2 1000 Tryz.f101 [.v (.one (.ptr 0 0)), .v (.one (.sym .i64 at'))] (dH ys s i p len) (dK ys s (.tup []) i p') = ((decide (p<0)=true->True/\(s=s/\(0=0/\ys.length=len)/\i=i/\p'=at'/\True)/\SameRows dtkC ys dtkC ys/\True)/\(decide (p<0)=false->True/\(s=s/\(0=0/\ys.length=len)/\i=i/\p'=p/\True)/\SameRows dtkC ys dtkC ys/\True)) := by kernel_rfl
theorem nfdskip (ys : List DTok) (s : List UInt8) (i p i' : Int) (len : Nat) : call P (Z1 stdOn) ann2 1000 Tryz.f102 [.v (.one (.ptr 0 0))] (dH ys s i p len) (dK ys s (.tup []) i' p) = ((decide (i<IntKind.i64.wrap ((↑len:Int)-1))=true->True/\(s=s/\(0=0/\ys.length=len)/\i'=IntKind.i64.wrap (i+1)/\p=p/\True)/\SameRows dtkC ys dtkC ys/\True)/\(decide (i<IntKind.i64.wrap ((↑len:Int)-1))=false->True/\(s=s/\(0=0/\ys.length=len)/\i'=i/\p=p/\True)/\SameRows dtkC ys dtkC ys/\True)) := by kernel_rfl
def dC (ys : List DTok) (s : List UInt8) (i p : Int) : List SV := [.str s, .ow 1 3 0 (@List.length DTok ys) false, .sym .i64 i, .sym .i64 p]
def qFail : MSpec dtkC := fun os cs ys => match os, cs with
  | [.v (.one (.sym .i64 a))], [.str s, .ow 1 3 0 len false, .sym .i64 i, .sym .i64 p] => some (len = @List.length DTok ys, .tup [], dC ys s i (dFail p a))
  | _, _ => none
def qSkip : MSpec dtkC := fun os cs ys => match os, cs with
  | [], [.str s, .ow 1 3 0 len false, .sym .i64 i, .sym .i64 p] => some (Pd ys i len, .tup [], dC ys s (dSkip ys i) p)
  | _, _ => none
theorem hNow : HoldsS P 100 120 158 dtkC qNow := by
  refine ⟨Tryz.f100, by kernel_rfl, by kernel_rfl, fun os cs ys p v cs2 hq hp hno => ?_⟩
  unfold qNow at hq
  split at hq
  · rename_i s len i pp
    simp only [Option.some.injEq, Prod.mk.injEq] at hq
    obtain ⟨rfl, rfl, rfl⟩ := hq
    refine ⟨1000, ann2, Z1 stdOn, _, rfl, pZ1 stdOn, hno, fun _ _ h => h, ⟨?_⟩⟩
    obtain ⟨h1, h2, h3⟩ := hp
    have h1 : len = @List.length DTok ys := h1
    have h2 : 0 ≤ i ∧ i < (@List.length DTok ys : Int) := h2
    subst h1
    refine Eq.mpr (nfdnow ys s i pp _ _ _ _) ⟨h2, ?_, ⟨⟨?_, ?_, ?_, trivial⟩, trivial⟩, ⟨rfl, ⟨rfl, rfl⟩, rfl, rfl, trivial⟩, sameT (C := dtkC) ys, trivial⟩
    · show 0 + i.toNat + 1 ≤ @List.length DTok ys; omega
    · rw [Nat.zero_add]; rfl
    · rw [Nat.zero_add]; rfl
    · rw [Nat.zero_add]; rfl
  · cases hq
theorem hFail : HoldsS P 101 120 158 dtkC qFail := by
  refine ⟨Tryz.f101, by kernel_rfl, by kernel_rfl, fun os cs ys p v cs2 hq hp hno => ?_⟩
  unfold qFail at hq
  split at hq
  · rename_i a s len i pp
    simp only [Option.some.injEq, Prod.mk.injEq] at hq
    obtain ⟨rfl, rfl, rfl⟩ := hq
    refine ⟨1000, ann2, Z1 stdOn, _, rfl, pZ1 stdOn, hno, fun _ _ h => h, ⟨?_⟩⟩
    have h1 : len = @List.length DTok ys := hp
    subst h1
    refine Eq.mpr (nfdfail ys s i pp a _ (dFail pp a)) ⟨fun y => ⟨trivial, ⟨rfl, ⟨rfl, rfl⟩, rfl, if_pos (of_decide_eq_true y), trivial⟩, sameT (C := dtkC) ys, trivial⟩, fun y => ⟨trivial, ⟨rfl, ⟨rfl, rfl⟩, rfl, if_neg (of_decide_eq_false y), trivial⟩, sameT (C := dtkC) ys, trivial⟩⟩
  · cases hq
theorem hSkip : HoldsS P 102 120 158 dtkC qSkip := by
  refine ⟨Tryz.f102, by kernel_rfl, by kernel_rfl, fun os cs ys p v cs2 hq hp hno => ?_⟩
  unfold qSkip at hq
  split at hq
  · rename_i s len i pp
    simp only [Option.some.injEq, Prod.mk.injEq] at hq
    obtain ⟨rfl, rfl, rfl⟩ := hq
    refine ⟨1000, ann2, Z1 stdOn, _, rfl, pZ1 stdOn, hno, fun _ _ h => h, ⟨?_⟩⟩
    obtain ⟨h1, h2, h3⟩ := hp
    have h1 : len = @List.length DTok ys := h1
    have h2 : 0 ≤ i ∧ i < (@List.length DTok ys : Int) := h2
    have h3 : @List.length DTok ys ≤ 4611686018427387904 := h3
    subst h1
    have w1 : IntKind.i64.wrap ((@List.length DTok ys : Int) - 1) = (@List.length DTok ys : Int) - 1 := wr_id (by omega) (by omega)
    have w2 : IntKind.i64.wrap (i + 1) = i + 1 := wr_id (by omega) (by omega)
    refine Eq.mpr (nfdskip ys s i pp (dSkip ys i) _) ⟨fun y => ⟨trivial, ⟨rfl, ⟨rfl, rfl⟩, ?_, rfl, trivial⟩, sameT (C := dtkC) ys, trivial⟩, fun y => ⟨trivial, ⟨rfl, ⟨rfl, rfl⟩, ?_, rfl, trivial⟩, sameT (C := dtkC) ys, trivial⟩⟩
    · rw [w1] at y
      rw [w2]
      exact if_pos (of_decide_eq_true y)
    · rw [w1] at y
      exact if_neg (of_decide_eq_false y)
  · cases hq
def Z2 (o : OnB) : Sums := (((Z1 o).addSp 100 (stSpec 120 158 dtkC qNow)).addSp 101 (stSpec 120 158 dtkC qFail)).addSp 102 (stSpec 120 158 dtkC qSkip)
theorem pZ2 (o : OnB) : OkS P (Z2 o) := (((pZ1 o).addSt fine hNow).addSt fine hFail).addSt fine hSkip
end Go.AM
