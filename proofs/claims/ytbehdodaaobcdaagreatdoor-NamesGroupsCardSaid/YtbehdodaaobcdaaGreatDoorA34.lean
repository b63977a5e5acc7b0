import Derived.Test.YtbehdodaaobcdaaGreatDoorA33
set_option maxHeartbeats 4000000
open Go Go.AM Go.Proofs
namespace Go.AM
open Dist
def numL (l : List UInt8) : Int := l.foldl (fun a b => 10 * a + ((b.toNat : Int) - 48)) 0
def subI (s : List UInt8) (a : Int) (j : Nat) : List UInt8 := (s.drop a.toNat).take (j - a.toNat)
def annNum (s : List UInt8) (a b : Int) : Annos := ⟨2, fun id env h =>
  if id = 5 then forceE (keepT [0, 4] 0 env) fun env => forceH h fun h => some ⟨{ j : Nat // a.toNat ≤ j ∧ j ≤ b.toNat }, fun j => (set (set env 7 (.v (.one (.sym .i64 (numL (subI s a j.1)))))) 8 (.v (.one (.sym .i64 j.1))), h), fun j => b.toNat - j.1⟩
  else none, fun _ _ _ => []⟩
def dTi (ys : List DTok) (i k : Int) : Int := if (dk ys i).kind = k then dSkip ys i else i
def dTp (ys : List DTok) (i p k : Int) : Int := if (dk ys i).kind = k then p else dFail p (dk ys i).pos
def dSv (ys : List DTok) (i : Int) : Int := if (dk ys i).kind = 45 then -1 else 1
def dSi (ys : List DTok) (i : Int) : Int := if (dk ys i).kind = 45 then dSkip ys i else if (dk ys i).kind = 43 then dSkip ys i else i
def dLet (n : Int) : Int := if n < 120 then -1 else if 122 < n then -1 else n - 120
def dNum (s : List UInt8) (a b m : Int) : Int := if m < b - a then -1 else if 1 < b - a ∧ bt s a.toNat = 48 then -1 else numL (subI s a b.toNat)
end Go.AM
open Go Go.AM Go.Proofs
namespace Go.AM
open Dist
set_option maxRecDepth 100000
theorem nfdtake (ys : List DTok) (s : List UInt8) (i p k i' p' : Int) (len : Nat) : call P (Z2 stdOn) ann2 1000 Tryz.f67 [.v (.one (.ptr 0 0)), .v (.one (.sym .u8 k))] (dH ys s i p len) (dK ys s (.tup []) i' p') = (∃ (z:List dtkC.τ),SameRows dtkC z dtkC ys/\(len=z.length/\((0:Int)<=i/\i<(↑z.length:Int))/\z.length.le 4611686018427387904)/\((!decide ((dk z i).kind=k))=true->∃ (z_1:List dtkC.τ),SameRows dtkC z_1 dtkC ys/\(z.length=z_1.length/\((0:Int)<=i/\i<(↑z_1.length:Int))/\z_1.length.le 4611686018427387904)/\∃ (z:List dtkC.τ),SameRows dtkC z dtkC ys/\z_1.length=z.length/\True/\(s=s/\(0=0/\ys.length=z.length)/\i'=i/\p'=dFail p (dk z_1 i).pos/\True)/\SameRows dtkC ys dtkC ys/\True)/\((!decide ((dk z i).kind=k))=false->∃ (z_1:List dtkC.τ),SameRows dtkC z_1 dtkC ys/\(z.length=z_1.length/\((0:Int)<=i/\i<(↑z_1.length:Int))/\z_1.length.le 4611686018427387904)/\True/\(s=s/\(0=0/\ys.length=z_1.length)/\i'=dSkip z_1 i/\p'=p/\True)/\SameRows dtkC ys dtkC ys/\True)) := by kernel_rfl
theorem nfdsign (ys : List DTok) (s : List UInt8) (i p i' v : Int) (len : Nat) : call P (Z2 stdOn) ann2 1000 Tryz.f104 [.v (.one (.ptr 0 0))] (dH ys s i p len) (dK ys s (.v (.one (.sym .i64 v))) i' p) = (∃ (z:List dtkC.τ),SameRows dtkC z dtkC ys/\(len=z.length/\((0:Int)<=i/\i<(↑z.length:Int))/\z.length.le 4611686018427387904)/\(decide ((dk z i).kind=45)=true->∃ (z_1:List dtkC.τ),SameRows dtkC z_1 dtkC ys/\(z.length=z_1.length/\((0:Int)<=i/\i<(↑z_1.length:Int))/\z_1.length.le 4611686018427387904)/\(v=(-1:Int)/\True)/\(s=s/\(0=0/\ys.length=z_1.length)/\i'=dSkip z_1 i/\p=p/\True)/\SameRows dtkC ys dtkC ys/\True)/\(decide ((dk z i).kind=45)=false->(decide ((dk z i).kind=43)=true->∃ (z_1:List dtkC.τ),SameRows dtkC z_1 dtkC ys/\(z.length=z_1.length/\((0:Int)<=i/\i<(↑z_1.length:Int))/\z_1.length.le 4611686018427387904)/\(v=1/\True)/\(s=s/\(0=0/\ys.length=z_1.length)/\i'=dSkip z_1 i/\p=p/\True)/\SameRows dtkC ys dtkC ys/\True)/\(decide ((dk z i).kind=43)=false->(v=1/\True)/\(s=s/\(0=0/\ys.length=z.length)/\i'=i/\p=p/\True)/\SameRows dtkC ys dtkC ys/\True))) := by kernel_rfl
open IntKind in
theorem nfdnum (ys : List DTok) (s : List UInt8) (i p k a b m v : Int) (len : Nat) : call P (Z2 stdOn) (annNum s a b) 1000 Tryz.f131 [.v (.one (.ptr 0 0)), .v (.agg [.sym .u8 k, .sym .i64 a, .sym .i64 b]), .v (.one (.sym .i64 m))] (dH ys s i p len) (dK ys s (.v (.one (.sym .i64 v))) i p) = ((decide (m<i64.wrap (b-a))=true->(v=(-1:Int)/\True)/\(s=s/\(0=0/\ys.length=len)/\i=i/\p=p/\True)/\SameRows dtkC ys dtkC ys/\True)/\(decide (m<i64.wrap (b-a))=false->(decide ((1:Int)<i64.wrap (b-a))=true->((0:Int)<=a/\a<(↑s.length:Int))/\(decide ((↑(s.getD a.toNat (0:UInt8)).toNat:Int)=48)=true->(v=(-1:Int)/\True)/\(s=s/\(0=0/\ys.length=len)/\i=i/\p=p/\True)/\SameRows dtkC ys dtkC ys/\True)/\(decide ((↑(s.getD a.toNat (0:UInt8)).toNat:Int)=48)=false->(∃ (z : { j:Nat//a.toNat<=j/\j<=b.toNat }),(numL (subI s a z.1)=0/\(↑z.1:Int)=a/\True)/\(s=s/\(0=0/\len=len)/\i=i/\p=p/\True)/\SameRows dtkC ys dtkC ys/\(k=k/\a=a/\b=b/\True)/\True)/\∀ (x : { j:Nat//a.toNat<=j/\j<=b.toNat }),(decide ((↑x.1:Int)<b)=true->((0:Int)<=(↑x.1:Int)/\(↑x.1:Int)<(↑s.length:Int))/\∃ (z : { j:Nat//a.toNat<=j/\j<=b.toNat }),(b.toNat-z.1).succ.le (b.toNat-x.1)/\(numL (subI s a z.1)=i64.wrap (i64.wrap ((10:Int)*numL (subI s a x.1))+i64.wrap (IntKind.u8.wrap ((↑(s.getD (↑x.1:Int).toNat (0:UInt8)).toNat:Int)-48)))/\(↑z.1:Int)=i64.wrap ((↑x.1:Int)+1)/\True)/\(s=s/\(0=0/\len=len)/\i=i/\p=p/\True)/\SameRows dtkC ys dtkC ys/\(k=k/\a=a/\b=b/\True)/\True)/\(decide ((↑x.1:Int)<b)=false->(v=numL (subI s a x.1)/\True)/\(s=s/\(0=0/\ys.length=len)/\i=i/\p=p/\True)/\SameRows dtkC ys dtkC ys/\True)))/\(decide ((1:Int)<i64.wrap (b-a))=false->(∃ (z : { j:Nat//a.toNat<=j/\j<=b.toNat }),(numL (subI s a z.1)=0/\(↑z.1:Int)=a/\True)/\(s=s/\(0=0/\len=len)/\i=i/\p=p/\True)/\SameRows dtkC ys dtkC ys/\(k=k/\a=a/\b=b/\True)/\True)/\∀ (x : { j:Nat//a.toNat<=j/\j<=b.toNat }),(decide ((↑x.1:Int)<b)=true->((0:Int)<=(↑x.1:Int)/\(↑x.1:Int)<(↑s.length:Int))/\∃ (z : { j:Nat//a.toNat<=j/\j<=b.toNat }),(b.toNat-z.1).succ.le (b.toNat-x.1)/\(numL (subI s a z.1)=i64.wrap (i64.wrap ((10:Int)*numL (subI s a x.1))+i64.wrap (IntKind.u8.wrap ((↑(s.getD (↑x.1:Int).toNat (0:UInt8)).toNat:Int)-48)))/\(↑z.1:Int)=i64.wrap ((↑x.1:Int)+1)/\True)/\(s=s/\(0=0/\len=len)/\i=i/\p=p/\True)/\SameRows dtkC ys dtkC ys/\(k=k/\a=a/\b=b/\True)/\True)/\(decide ((↑x.1:Int)<b)=false->(v=numL (subI s a x.1)/\True)/\(s=s/\(0=0/\ys.length=len)/\i=i/\p=p/\True)/\SameRows dtkC ys dtkC ys/\True)))) := by kernel_rfl
def qTakeD : MSpec dtkC := fun os cs ys => match os, cs with
  | [.v (.one (.sym .u8 k))], [.str s, .ow 1 3 0 len false, .sym .i64 i, .sym .i64 p] => some (Pd ys i len, .tup [], dC ys s (dTi ys i k) (dTp ys i p k))
  | [.v (.one (.con .u8 k))], [.str s, .ow 1 3 0 len false, .sym .i64 i, .sym .i64 p] => some (Pd ys i len, .tup [], dC ys s (dTi ys i k) (dTp ys i p k))
  | _, _ => none
def qSignD : MSpec dtkC := fun os cs ys => match os, cs with
  | [], [.str s, .ow 1 3 0 len false, .sym .i64 i, .sym .i64 p] => some (Pd ys i len, .v (.one (.sym .i64 (dSv ys i))), dC ys s (dSi ys i) p)
  | _, _ => none
def DigAt (s : List UInt8) (a b : Int) : Prop := 0 ≤ a ∧ a ≤ b ∧ b ≤ (s.length : Int) ∧ ∀ j : Nat, a.toNat ≤ j → j < b.toNat → digR (bt s j) = true
def qNumD : MSpec dtkC := fun os cs ys => match os, cs with
  | [.v (.agg [.sym .u8 _, .sym .i64 a, .sym .i64 b]), .v (.one (.con .i64 m))], [.str s, .ow 1 3 0 len false, .sym .i64 i, .sym .i64 p] => some (len = @List.length DTok ys ∧ m ≤ 4 ∧ s.length ≤ 65536 ∧ DigAt s a b, .v (.one (.sym .i64 (dNum s a b m))), dC ys s i p)
  | _, _ => none
theorem take_run {ys : List DTok} {s : List UInt8} {i p k : Int} {len : Nat} (h : Pd ys i len) : call P (Z2 stdOn) ann2 1000 Tryz.f67 [.v (.one (.ptr 0 0)), .v (.one (.sym .u8 k))] (dH ys s i p len) (dK ys s (.tup []) (dTi ys i k) (dTp ys i p k)) := by
  obtain ⟨h1, h2, h3⟩ := h
  refine Eq.mpr (nfdtake ys s i p k _ _ len) ⟨ys, sameT (C := dtkC) ys, ⟨h1, h2, h3⟩, fun y => ⟨ys, sameT (C := dtkC) ys, ⟨rfl, h2, h3⟩, ys, sameT (C := dtkC) ys, rfl, trivial, ⟨rfl, ⟨rfl, rfl⟩, ?_, ?_, trivial⟩, sameT (C := dtkC) ys, trivial⟩, fun y => ⟨ys, sameT (C := dtkC) ys, ⟨rfl, h2, h3⟩, trivial, ⟨rfl, ⟨rfl, rfl⟩, ?_, ?_, trivial⟩, sameT (C := dtkC) ys, trivial⟩⟩
  · exact if_neg (by simpa using y)
  · exact if_neg (by simpa using y)
  · exact if_pos (by simpa using y)
  · exact if_pos (by simpa using y)
theorem hTakeD : HoldsS P 67 120 158 dtkC qTakeD := by
  refine ⟨Tryz.f67, by kernel_rfl, by kernel_rfl, fun os cs ys p v cs2 hq hp hno => ?_⟩
  unfold qTakeD at hq
  split at hq
  · rename_i k s len i pp
    simp only [Option.some.injEq, Prod.mk.injEq] at hq
    obtain ⟨rfl, rfl, rfl⟩ := hq
    exact ⟨1000, ann2, Z2 stdOn, _, rfl, pZ2 stdOn, hno, fun _ _ h => h, ⟨take_run hp⟩⟩
  · rename_i k s len i pp
    simp only [Option.some.injEq, Prod.mk.injEq] at hq
    obtain ⟨rfl, rfl, rfl⟩ := hq
    refine ⟨1000, ann2, Z2 stdOn, [.v (.one (.sym .u8 k))], rfl, pZ2 stdOn, rfl, fun pl vs h => ?_, ⟨take_run hp⟩⟩
    match vs, h with
    | [v], h => exact ⟨h.1.imp (fun h => by cases h) id, trivial⟩
    | [], h => exact h.elim
    | _ :: _ :: _, h => exact h.2.elim
  · cases hq
theorem hSignD : HoldsS P 104 120 158 dtkC qSignD := by
  refine ⟨Tryz.f104, by kernel_rfl, by kernel_rfl, fun os cs ys p v cs2 hq hp hno => ?_⟩
  unfold qSignD at hq
  split at hq
  · rename_i s len i pp
    simp only [Option.some.injEq, Prod.mk.injEq] at hq
    obtain ⟨rfl, rfl, rfl⟩ := hq
    refine ⟨1000, ann2, Z2 stdOn, _, rfl, pZ2 stdOn, hno, fun _ _ h => h, ⟨?_⟩⟩
    obtain ⟨h1, h2, h3⟩ := hp
    refine Eq.mpr (nfdsign ys s i pp _ _ len) ⟨ys, sameT (C := dtkC) ys, ⟨h1, h2, h3⟩, fun y => ⟨ys, sameT (C := dtkC) ys, ⟨rfl, h2, h3⟩, ⟨?_, trivial⟩, ⟨rfl, ⟨rfl, rfl⟩, ?_, rfl, trivial⟩, sameT (C := dtkC) ys, trivial⟩, fun y => ⟨fun z => ⟨ys, sameT (C := dtkC) ys, ⟨rfl, h2, h3⟩, ⟨?_, trivial⟩, ⟨rfl, ⟨rfl, rfl⟩, ?_, rfl, trivial⟩, sameT (C := dtkC) ys, trivial⟩, fun z => ⟨⟨?_, trivial⟩, ⟨rfl, ⟨rfl, rfl⟩, ?_, rfl, trivial⟩, sameT (C := dtkC) ys, trivial⟩⟩⟩
    · exact if_pos (of_decide_eq_true y)
    · exact if_pos (of_decide_eq_true y)
    · exact if_neg (of_decide_eq_false y)
    · exact (if_neg (of_decide_eq_false y)).trans (if_pos (of_decide_eq_true z))
    · exact if_neg (of_decide_eq_false y)
    · exact (if_neg (of_decide_eq_false y)).trans (if_neg (of_decide_eq_false z))
  · cases hq
theorem wr8 {n : Int} (h0 : 0 ≤ n) (h1 : n ≤ 255) : IntKind.u8.wrap n = n := by
  have : IntKind.u8.wrap n = n % 256 := by simp [IntKind.wrap, IntKind.bits, IntKind.signed]
  rw [this]
  omega
theorem numL_app (l : List UInt8) (b : UInt8) : numL (l ++ [b]) = 10 * numL l + ((b.toNat : Int) - 48) := by simp [numL]
theorem subI_succ {s : List UInt8} {a : Int} {j : Nat} (h0 : a.toNat ≤ j) (h1 : j < s.length) : subI s a (j + 1) = subI s a j ++ [s.getD j 0] := by
  unfold subI
  rw [show j + 1 - a.toNat = (j - a.toNat) + 1 by omega, List.take_add_one, List.getElem?_drop, show a.toNat + (j - a.toNat) = j by omega, List.getD_eq_getElem?_getD, List.getElem?_eq_getElem h1]
  rfl
theorem subI_nil (s : List UInt8) (a : Int) : subI s a a.toNat = [] := by simp [subI]
theorem numL_bd {s : List UInt8} {a : Int} {b : Nat} (hd : ∀ j : Nat, a.toNat ≤ j → j < b → digR (bt s j) = true) (hb : b ≤ s.length) : ∀ d : Nat, a.toNat + d ≤ b → 0 ≤ numL (subI s a (a.toNat + d)) ∧ numL (subI s a (a.toNat + d)) < ((10 ^ d : Nat) : Int)
  | 0, _ => by rw [Nat.add_zero, subI_nil]; exact ⟨Int.le_refl _, by decide⟩
  | d + 1, h => by
    obtain ⟨h1, h2⟩ := numL_bd hd hb d (by omega)
    have h3 := digR_iff.1 (hd (a.toNat + d) (by omega) (by omega))
    unfold bt at h3
    rw [← Nat.add_assoc, subI_succ (by omega) (by omega), numL_app, Nat.pow_succ]
    omega
theorem num_run {ys : List DTok} {s : List UInt8} {i p k a b m : Int} {len : Nat} (hl : len = @List.length DTok ys) (hm : m ≤ 4) (hs : s.length ≤ 65536) (hd : DigAt s a b) : call P (Z2 stdOn) (annNum s a b) 1000 Tryz.f131 [.v (.one (.ptr 0 0)), .v (.agg [.sym .u8 k, .sym .i64 a, .sym .i64 b]), .v (.one (.sym .i64 m))] (dH ys s i p len) (dK ys s (.v (.one (.sym .i64 (dNum s a b m)))) i p) := by
  obtain ⟨d1, d2, d3, d4⟩ := hd
  have w0 : IntKind.i64.wrap (b - a) = b - a := wr_id (by omega) (by omega)
  refine Eq.mpr (nfdnum ys s i p k a b m _ len) ?_
  rw [w0]
  have tail : ¬ m < b - a → ¬ (1 < b - a ∧ bt s a.toNat = 48) → _ := fun c1 c2 => (show (∃ (z : { j : Nat // a.toNat ≤ j ∧ j ≤ b.toNat }), (numL (subI s a z.val) = (0 : Int) ∧ (↑z.val : Int) = a ∧ True) ∧ (s = s ∧ ((0 : Nat) = (0 : Nat) ∧ len = len) ∧ i = i ∧ p = p ∧ True) ∧ SameRows dtkC ys dtkC ys ∧ (k = k ∧ a = a ∧ b = b ∧ True) ∧ True) ∧ ∀ (x : { j : Nat // a.toNat ≤ j ∧ j ≤ b.toNat }), (decide ((↑x.val : Int) < b) = true → ((0 : Int) ≤ (↑x.val : Int) ∧ (↑x.val : Int) < (↑s.length : Int)) ∧ ∃ (z : { j : Nat // a.toNat ≤ j ∧ j ≤ b.toNat }), (b.toNat - z.val).succ.le (b.toNat - x.val) ∧ (numL (subI s a z.val) = IntKind.i64.wrap (IntKind.i64.wrap ((10 : Int) * numL (subI s a x.val)) + IntKind.i64.wrap (IntKind.u8.wrap ((↑(s.getD (↑x.val : Int).toNat (0 : UInt8)).toNat : Int) - (48 : Int)))) ∧ (↑z.val : Int) = IntKind.i64.wrap ((↑x.val : Int) + (1 : Int)) ∧ True) ∧ (s = s ∧ ((0 : Nat) = (0 : Nat) ∧ len = len) ∧ i = i ∧ p = p ∧ True) ∧ SameRows dtkC ys dtkC ys ∧ (k = k ∧ a = a ∧ b = b ∧ True) ∧ True) ∧ (decide ((↑x.val : Int) < b) = false → (dNum s a b m = numL (subI s a x.val) ∧ True) ∧ (s = s ∧ ((0 : Nat) = (0 : Nat) ∧ ys.length = len) ∧ i = i ∧ p = p ∧ True) ∧ SameRows dtkC ys dtkC ys ∧ True) from by
    refine ⟨⟨⟨a.toNat, Nat.le_refl _, by omega⟩, ⟨by rw [subI_nil]; rfl, by simp only; omega, trivial⟩, ⟨rfl, ⟨rfl, rfl⟩, rfl, rfl, trivial⟩, sameT (C := dtkC) ys, ⟨rfl, rfl, rfl, trivial⟩, trivial⟩, fun ⟨j, j1, j2⟩ => ⟨fun y => ?_, fun y => ?_⟩⟩
    · have y : (j : Int) < b := of_decide_eq_true y
      have hjs : j < s.length := by omega
      obtain ⟨q1, q2⟩ := numL_bd (a := a) (b := b.toNat) d4 (by omega) (j - a.toNat) (by omega)
      rw [show a.toNat + (j - a.toNat) = j by omega] at q1 q2
      have q3 : ((10 ^ (j - a.toNat) : Nat) : Int) ≤ 10000 := by
        have : 10 ^ (j - a.toNat) ≤ 10 ^ 4 := Nat.pow_le_pow_right (by omega) (by omega)
        omega
      have q4 := digR_iff.1 (d4 j j1 (by omega))
      refine ⟨⟨by show (0 : Int) ≤ (j : Int); omega, by show (j : Int) < (s.length : Int); omega⟩, ⟨j + 1, by omega, by omega⟩, show b.toNat - (j + 1) + 1 ≤ b.toNat - j by omega, ⟨?_, ?_, trivial⟩, ⟨rfl, ⟨rfl, rfl⟩, rfl, rfl, trivial⟩, sameT (C := dtkC) ys, ⟨rfl, rfl, rfl, trivial⟩, trivial⟩
      · show numL (subI s a (j + 1)) = IntKind.i64.wrap (IntKind.i64.wrap (10 * numL (subI s a j)) + IntKind.i64.wrap (IntKind.u8.wrap (bt s j - 48)))
        rw [subI_succ j1 hjs, numL_app, wr8 (by omega) (by omega), wr_id (n := bt s j - 48) (by omega) (by omega), wr_id (n := 10 * numL (subI s a j)) (by omega) (by omega), wr_id (by omega) (by omega)]
        rfl
      · show ((j + 1 : Nat) : Int) = IntKind.i64.wrap ((j : Int) + 1)
        rw [wr_id (by omega) (by omega)]
        omega
    · have y : ¬ (j : Int) < b := of_decide_eq_false y
      have j2 : j ≤ b.toNat := j2
      have e : j = b.toNat := by omega
      refine ⟨⟨?_, trivial⟩, ⟨rfl, ⟨rfl, hl.symm⟩, rfl, rfl, trivial⟩, sameT (C := dtkC) ys, trivial⟩
      rw [dNum, if_neg c1, if_neg c2]
      show numL (subI s a b.toNat) = numL (subI s a j)
      rw [e])
  refine ⟨fun y => ⟨⟨?_, trivial⟩, ⟨rfl, ⟨rfl, hl.symm⟩, rfl, rfl, trivial⟩, sameT (C := dtkC) ys, trivial⟩, fun y => ⟨fun z => ⟨⟨d1, ?_⟩, fun u => ⟨⟨?_, trivial⟩, ⟨rfl, ⟨rfl, hl.symm⟩, rfl, rfl, trivial⟩, sameT (C := dtkC) ys, trivial⟩, fun u => tail (of_decide_eq_false y) (fun h => of_decide_eq_false u h.2)⟩, fun z => tail (of_decide_eq_false y) (fun h => of_decide_eq_false z h.1)⟩⟩
  · exact if_pos (of_decide_eq_true y)
  · have z := of_decide_eq_true z
    omega
  · rw [dNum, if_neg (of_decide_eq_false y), if_pos ⟨of_decide_eq_true z, of_decide_eq_true u⟩]
theorem hNumD : HoldsS P 131 120 158 dtkC qNumD := by
  refine ⟨Tryz.f131, by kernel_rfl, by kernel_rfl, fun os cs ys p v cs2 hq hp hno => ?_⟩
  unfold qNumD at hq
  split at hq
  · rename_i k a b m s len i pp
    simp only [Option.some.injEq, Prod.mk.injEq] at hq
    obtain ⟨rfl, rfl, rfl⟩ := hq
    obtain ⟨h1, h2, h3, h4⟩ := hp
    refine ⟨1000, annNum s a b, Z2 stdOn, [.v (.agg [.sym .u8 k, .sym .i64 a, .sym .i64 b]), .v (.one (.sym .i64 m))], rfl, pZ2 stdOn, rfl, fun pl vs h => ?_, ⟨num_run h1 h2 h3 h4⟩⟩
    match vs, h with
    | [u, v], h => exact ⟨h.1, h.2.1.imp (fun h => by cases h) id, trivial⟩
    | [], h => exact h.elim
    | [_], h => exact h.2.elim
    | _ :: _ :: _ :: _, h => exact h.2.2.elim
  · cases hq
def Z3 (o : OnB) : Sums := (((Z2 o).addSp 67 (stSpec 120 158 dtkC qTakeD)).addSp 104 (stSpec 120 158 dtkC qSignD)).addSp 131 (stSpec 120 158 dtkC qNumD)
theorem pZ3 (o : OnB) : OkS P (Z3 o) := (((pZ2 o).addSt fine hTakeD).addSt fine hSignD).addSt fine hNumD
end Go.AM
open Go Go.AM Go.Proofs
namespace Go.AM
open Dist
set_option maxRecDepth 100000
def casesK (h : Heap) (K : KV) : List (Prop × AV) → Prop
  | [] => True
  | [(p, v)] => p → K v h
  | (p, v) :: c :: l => (p → K v h) ∧ casesK h K (c :: l)
def caseSpec (c : List AV → Option (List (Prop × AV))) : ASpec := fun args h K => match c args with
  | some l => casesK h K l
  | none => False
theorem casesK_get {h : Heap} {K : KV} : ∀ {l : List (Prop × AV)}, casesK h K l → ∀ p v, (p, v) ∈ l → p → K v h
  | [], _, p, v, hm, _ => by cases hm
  | [(q, u)], hk, p, v, hm, hp => by
    rw [List.mem_singleton] at hm
    cases hm
    exact hk hp
  | (q, u) :: c :: l, hk, p, v, hm, hp => by
    rcases List.mem_cons.1 hm with e | hm
    · cases e
      exact hk.1 hp
    · exact casesK_get hk.2 p v hm hp
theorem casesK_mono {h : Heap} {K K' : KV} (hK : ∀ v h, K v h → K' v h) : ∀ {l : List (Prop × AV)}, casesK h K l → casesK h K' l
  | [], _ => trivial
  | [(_, _)], hk => fun hp => hK _ _ (hk hp)
  | (_, _) :: _ :: _, hk => ⟨fun hp => hK _ _ (hk.1 hp), casesK_mono hK hk.2⟩
theorem OkS.addCases [Glob] {P : Program} (hF : Fine P) {S : Sums} (h : OkS P S) {f : Nat} {c : List AV → Option (List (Prop × AV))} {q : PSpec} (hq : HoldsE P f q) (hc : ∀ args l, c args = some l → ∃ p v, (p, v) ∈ l ∧ p ∧ (q args).gives v) : OkS P (S.addSp f (caseSpec c)) := by
  have hP := (h.add hF hq (m := [])).pure
  refine ⟨h.pure, ⟨fun g sp hg => ?_, h.spec.2⟩, fun g sp hg => ?_⟩
  · by_cases e : g = f
    · subst e
      simp only [Sums.addSp, if_true] at hg
      cases hg
      obtain ⟨fn, hf, hfb, hp⟩ := hq
      refine ⟨⟨fn, hf, hfb⟩, fun args hh K hsp w0 Sx pl w vals hR hargs => ?_⟩
      unfold caseSpec at hsp
      split at hsp
      · rename_i l hl
        obtain ⟨p, v, hm, hpp, hgv⟩ := hc args l hl
        obtain ⟨h1, u, n, A, S0, hq0, hS0, h2, h3⟩ := hp args v hgv
        obtain ⟨k1, k2⟩ := pure_sound hF hS0.pure hS0.spec hS0.mono hf h1 h2 h3 hq0 hargs w hR
        refine k2.mono ?_
        rintro e w' ⟨rfl, hR'⟩
        exact ⟨u, v, hh, pl, rfl, k1, PExt.refl pl, hR', casesK_get hsp p v hm hpp⟩
      · exact hsp.elim
    · simp only [Sums.addSp, if_neg e] at hg
      exact h.spec.1 g sp hg
  · by_cases e : g = f
    · subst e
      simp only [Sums.addSp, if_true] at hg
      cases hg
      intro args hh K K' hK hx
      unfold caseSpec at hx ⊢
      split at hx
      · exact casesK_mono hK hx
      · exact hx.elim
    · simp only [Sums.addSp, if_neg e] at hg
      exact h.mono g sp hg
def qLetD : PSpec
  | [.v (.one (.sym .u8 n))] => .iff True (.v (.one (.con .i64 (dLet n))))
  | _ => .fail
def cLetD : List AV → Option (List (Prop × AV))
  | [.v (.one (.sym .u8 n))] => some [(n = 120, .v (.one (.con .i64 0))), (n = 121, .v (.one (.con .i64 1))), (n = 122, .v (.one (.con .i64 2))), (n < 120 ∨ 122 < n, .v (.one (.con .i64 (-1))))]
  | _ => none
theorem nfdletter (n : Int) (K : KV) : call P (Z2 stdOn) noAnn 1000 Tryz.f129 [.v (.one (.sym .u8 n))] [] K = ((decide (n<120)=true->K (.v (.one (.con .i64 (-1:Int)))) [])/\(decide (n<120)=false->(decide ((122:Int)<n)=true->K (.v (.one (.con .i64 (-1:Int)))) [])/\(decide ((122:Int)<n)=false->K (.v (.one (.sym .i64 (IntKind.i64.wrap (IntKind.u8.wrap (n-120)))))) []))) := by kernel_rfl
open IntKind in
theorem nfdfrac (ys : List DTok) (s : List UInt8) (i p k a b i' p' v : Int) (g : Bool) (len : Nat) : call P (Z3 stdOn) ann2 1000 Tryz.f130 [.v (.one (.ptr 0 0)), .v (.agg [.sym .u8 k, .sym .i64 a, .sym .i64 b]), .v (.one (.sb g))] (dH ys s i p len) (dK ys s (.v (.one (.sym .i64 v))) i' p') = (∃ (z:List dtkC.τ),SameRows dtkC z dtkC ys/\(len=z.length/\(3:Int)<=4/\s.length.le 65536/\(0:Int)<=a/\a<=b/\b<=(↑s.length:Int)/\∀ (j:Nat),a.toNat<=j->j<b.toNat->digR (bt s j)=true)/\(decide (dNum s a b (3:Int)<0)=true->∃ (z_1:List dtkC.τ),SameRows dtkC z_1 dtkC ys/\z.length=z_1.length/\(v=0/\True)/\(s=s/\(0=0/\ys.length=z_1.length)/\i'=i/\p'=dFail p a/\True)/\SameRows dtkC ys dtkC ys/\True)/\(decide (dNum s a b (3:Int)<0)=false->(g=true->∃ (z_1:List dtkC.τ),SameRows dtkC z_1 dtkC ys/\z.length=z_1.length/\(v=0/\True)/\(s=s/\(0=0/\ys.length=z_1.length)/\i'=i/\p'=dFail p a/\True)/\SameRows dtkC ys dtkC ys/\True)/\(g=false->∃ (z_1:List dtkC.τ),SameRows dtkC z_1 dtkC ys/\(z.length=z_1.length/\((0:Int)<=i/\i<(↑z_1.length:Int))/\z_1.length.le 4611686018427387904)/\((!decide ((dk z_1 i).kind=47))=true->(v=i64.wrap ((24:Int)*dNum s a b 3)/\True)/\(s=s/\(0=0/\ys.length=z_1.length)/\i'=i/\p'=p/\True)/\SameRows dtkC ys dtkC ys/\True)/\((!decide ((dk z_1 i).kind=47))=false->∃ (z:List dtkC.τ),SameRows dtkC z dtkC ys/\(z_1.length=z.length/\((0:Int)<=i/\i<(↑z.length:Int))/\z.length.le 4611686018427387904)/\∃ (z_2:List dtkC.τ),SameRows dtkC z_2 dtkC ys/\(z.length=z_2.length/\((0:Int)<=dSkip z i/\dSkip z i<(↑z_2.length:Int))/\z_2.length.le 4611686018427387904)/\∃ (z_3:List dtkC.τ),SameRows dtkC z_3 dtkC ys/\(z_2.length=z_3.length/\((0:Int)<=dSkip z i/\dSkip z i<(↑z_3.length:Int))/\z_3.length.le 4611686018427387904)/\(decide ((0:Int)<=dTp z_3 (dSkip z i) p 48)=true->(v=0/\True)/\(s=s/\(0=0/\ys.length=z_3.length)/\i'=dTi z_3 (dSkip z i) (48:Int)/\p'=dTp z_3 (dSkip z i) p (48:Int)/\True)/\SameRows dtkC ys dtkC ys/\True)/\(decide ((0:Int)<=dTp z_3 (dSkip z i) p 48)=false->∃ (z_4:List dtkC.τ),SameRows dtkC z_4 dtkC ys/\(z_3.length=z_4.length/\(3:Int)<=4/\s.length.le 65536/\(0:Int)<=(dk z_2 (dSkip z i)).pos/\(dk z_2 (dSkip z i)).pos<=(dk z_2 (dSkip z i)).next/\(dk z_2 (dSkip z i)).next<=(↑s.length:Int)/\∀ (j:Nat),(dk z_2 (dSkip z i)).pos.toNat<=j->j<(dk z_2 (dSkip z i)).next.toNat->digR (bt s j)=true)/\(decide (dNum s (dk z_2 (dSkip z i)).pos (dk z_2 (dSkip z i)).next (3:Int)<1)=true->∃ (z_5:List dtkC.τ),SameRows dtkC z_5 dtkC ys/\z_4.length=z_5.length/\(v=0/\True)/\(s=s/\(0=0/\ys.length=z_5.length)/\i'=dTi z_3 (dSkip z i) (48:Int)/\p'=dFail (dTp z_3 (dSkip z i) p 48) a/\True)/\SameRows dtkC ys dtkC ys/\True)/\(decide (dNum s (dk z_2 (dSkip z i)).pos (dk z_2 (dSkip z i)).next (3:Int)<1)=false->(dNum s (dk z_2 (dSkip z i)).pos (dk z_2 (dSkip z i)).next (3:Int)=0->False)/\((!decide ((i64.wrap ((24:Int)*dNum s a b 3)).tmod (dNum s (dk z_2 (dSkip z i)).pos (dk z_2 (dSkip z i)).next 3)=0))=true->∃ (z_5:List dtkC.τ),SameRows dtkC z_5 dtkC ys/\z_4.length=z_5.length/\(v=0/\True)/\(s=s/\(0=0/\ys.length=z_5.length)/\i'=dTi z_3 (dSkip z i) (48:Int)/\p'=dFail (dTp z_3 (dSkip z i) p 48) a/\True)/\SameRows dtkC ys dtkC ys/\True)/\((!decide ((i64.wrap ((24:Int)*dNum s a b 3)).tmod (dNum s (dk z_2 (dSkip z i)).pos (dk z_2 (dSkip z i)).next 3)=0))=false->(dNum s (dk z_2 (dSkip z i)).pos (dk z_2 (dSkip z i)).next (3:Int)=0->False)/\(v=i64.wrap ((i64.wrap ((24:Int)*dNum s a b 3)).tdiv (dNum s (dk z_2 (dSkip z i)).pos (dk z_2 (dSkip z i)).next 3))/\True)/\(s=s/\(0=0/\ys.length=z_4.length)/\i'=dTi z_3 (dSkip z i) (48:Int)/\p'=dTp z_3 (dSkip z i) p (48:Int)/\True)/\SameRows dtkC ys dtkC ys/\True))))))) := by kernel_rfl
theorem hLetD : Holds P (Z2 stdOn) 129 qLetD := by
  refine holdsA (fn := Tryz.f129) noAnn 1000 rfl (by kernel_rfl) (by kernel_rfl) fun args av hg => ?_
  unfold qLetD at hg
  split at hg
  · rename_i n
    obtain ⟨_, rfl⟩ := givesIff hg
    refine ⟨rfl, .int .i64 (dLet n), rfl, ?_⟩
    rw [nfdletter]
    refine ⟨fun y => leafC ?_, fun y => ⟨fun z => leafC ?_, fun z => leafQ ?_⟩⟩
    · rw [dLet, if_pos (of_decide_eq_true y)]
    · rw [dLet, if_neg (of_decide_eq_false y), if_pos (of_decide_eq_true z)]
    · have y := of_decide_eq_false y
      have z := of_decide_eq_false z
      rw [dLet, if_neg y, if_neg z, wr8 (by omega) (by omega), wr_id (by omega) (by omega)]
  · exact (gives_fail hg).elim
theorem cLet_q : ∀ args l, cLetD args = some l → ∃ p v, (p, v) ∈ l ∧ p ∧ (qLetD args).gives v := by
  intro args l h
  unfold cLetD at h
  split at h
  · rename_i n
    cases h
    have g : ∀ m : Int, dLet n = m → (qLetD [.v (.one (.sym .u8 n))]).gives (.v (.one (.con .i64 m))) := fun m e => .inr ⟨True, by subst e; rfl, trivial⟩
    by_cases h0 : n = 120
    · exact ⟨_, _, .head _, h0, g 0 (by subst h0; rfl)⟩
    · by_cases h1 : n = 121
      · exact ⟨_, _, .tail _ (.head _), h1, g 1 (by subst h1; rfl)⟩
      · by_cases h2 : n = 122
        · exact ⟨_, _, .tail _ (.tail _ (.head _)), h2, g 2 (by subst h2; rfl)⟩
        · refine ⟨_, _, .tail _ (.tail _ (.tail _ (.head _))), by omega, g (-1) ?_⟩
          unfold dLet
          by_cases h3 : n < 120
          · rw [if_pos h3]
          · rw [if_neg h3, if_pos (by omega)]
  · cases h
def DOk (s : List UInt8) (ys : List DTok) : Prop := s.length ≤ 65536 ∧ @List.length DTok ys ≤ 4611686018427387904 ∧ ∀ i : Int, 0 ≤ (dk ys i).pos ∧ ((dk ys i).kind = 48 → DigAt s (dk ys i).pos (dk ys i).next)
def dFr (s : List UInt8) (ys : List DTok) (i a b : Int) (g : Bool) : Int × Int × Int :=
  if dNum s a b 3 < 0 ∨ g = true then (0, i, a)
  else if ¬ (dk ys i).kind = 47 then (24 * dNum s a b 3, i, -1)
  else if ¬ (dk ys (dSkip ys i)).kind = 48 then (0, dSkip ys i, (dk ys (dSkip ys i)).pos)
  else if dNum s (dk ys (dSkip ys i)).pos (dk ys (dSkip ys i)).next 3 < 1 ∨ ¬ (24 * dNum s a b 3).tmod (dNum s (dk ys (dSkip ys i)).pos (dk ys (dSkip ys i)).next 3) = 0 then (0, dSkip ys (dSkip ys i), a)
  else ((24 * dNum s a b 3).tdiv (dNum s (dk ys (dSkip ys i)).pos (dk ys (dSkip ys i)).next 3), dSkip ys (dSkip ys i), -1)
def qFracD : MSpec dtkC := fun os cs ys => match os, cs with
  | [.v (.agg [.sym .u8 _, .sym .i64 a, .sym .i64 b]), .v (.one (.sb g))], [.str s, .ow 1 3 0 len false, .sym .i64 i, .sym .i64 p] => some ((len = @List.length DTok ys ∧ 0 ≤ i ∧ i < (@List.length DTok ys : Int)) ∧ p = -1 ∧ DOk s ys ∧ DigAt s a b, .v (.one (.sym .i64 (dFr s ys i a b g).1)), dC ys s (dFr s ys i a b g).2.1 (dFr s ys i a b g).2.2)
  | [.v (.agg [.sym .u8 _, .sym .i64 a, .sym .i64 b]), .v (.one (.cb g))], [.str s, .ow 1 3 0 len false, .sym .i64 i, .sym .i64 p] => some ((len = @List.length DTok ys ∧ 0 ≤ i ∧ i < (@List.length DTok ys : Int)) ∧ p = -1 ∧ DOk s ys ∧ DigAt s a b, .v (.one (.sym .i64 (dFr s ys i a b g).1)), dC ys s (dFr s ys i a b g).2.1 (dFr s ys i a b g).2.2)
  | _, _ => none
theorem dSkip_lt {ys : List DTok} {i : Int} (h : 0 ≤ i ∧ i < (@List.length DTok ys : Int)) : 0 ≤ dSkip ys i ∧ dSkip ys i < (@List.length DTok ys : Int) := by
  unfold dSkip
  split <;> omega
theorem dNum_bd {s : List UInt8} {a b m : Int} (hm : m ≤ 4) (hd : DigAt s a b) : -1 ≤ dNum s a b m ∧ dNum s a b m ≤ 9999 := by
  obtain ⟨d1, d2, d3, d4⟩ := hd
  unfold dNum
  by_cases c1 : m < b - a
  · rw [if_pos c1]; omega
  · rw [if_neg c1]
    by_cases c2 : 1 < b - a ∧ bt s a.toNat = 48
    · rw [if_pos c2]; omega
    · rw [if_neg c2]
      obtain ⟨q1, q2⟩ := numL_bd (a := a) (b := b.toNat) d4 (by omega) (b.toNat - a.toNat) (by omega)
      rw [show a.toNat + (b.toNat - a.toNat) = b.toNat by omega] at q1 q2
      have q3 : ((10 ^ (b.toNat - a.toNat) : Nat) : Int) ≤ 10000 := by
        have : 10 ^ (b.toNat - a.toNat) ≤ 10 ^ 4 := Nat.pow_le_pow_right (by omega) (by omega)
        omega
      omega
theorem dfrac_run {ys : List DTok} {s : List UInt8} {i k a b : Int} {len : Nat} (g : Bool) (h1 : len = @List.length DTok ys) (h2 : 0 ≤ i ∧ i < (@List.length DTok ys : Int)) (ok : DOk s ys) (hd : DigAt s a b) :
    call P (Z3 stdOn) ann2 1000 Tryz.f130 [.v (.one (.ptr 0 0)), .v (.agg [.sym .u8 k, .sym .i64 a, .sym .i64 b]), .v (.one (.sb g))] (dH ys s i (-1) len) (dK ys s (.v (.one (.sym .i64 (dFr s ys i a b g).1))) (dFr s ys i a b g).2.1 (dFr s ys i a b g).2.2) := by
  obtain ⟨k1, k2, k3⟩ := ok
  have j1 := dSkip_lt h2
  have ha : 0 ≤ a := hd.1
  have nb := dNum_bd (m := 3) (by omega) hd
  have hw : IntKind.i64.wrap (24 * dNum s a b 3) = 24 * dNum s a b 3 := wr_id (by omega) (by omega)
  have fa : dFail (-1) a = a := if_pos (by omega)
  refine Eq.mpr (nfdfrac ys s i (-1) k a b _ _ _ g len) ⟨ys, sameT (C := dtkC) ys, ⟨h1, by omega, k1, hd⟩, fun y => ⟨ys, sameT (C := dtkC) ys, rfl, ?_⟩, fun y => ⟨fun z => ⟨ys, sameT (C := dtkC) ys, rfl, ?_⟩, fun z => ⟨ys, sameT (C := dtkC) ys, ⟨rfl, h2, k2⟩, fun u => ?_, fun u => ⟨ys, sameT (C := dtkC) ys, ⟨rfl, h2, k2⟩, ys, sameT (C := dtkC) ys, ⟨rfl, j1, k2⟩, ys, sameT (C := dtkC) ys, ⟨rfl, j1, k2⟩, fun t => ?_, fun t => ?_⟩⟩⟩⟩
  · have e : dFr s ys i a b g = (0, i, a) := if_pos (.inl (of_decide_eq_true y))
    rw [e, fa]
    exact ⟨⟨rfl, trivial⟩, ⟨rfl, ⟨rfl, rfl⟩, rfl, rfl, trivial⟩, sameT (C := dtkC) ys, trivial⟩
  · have e : dFr s ys i a b g = (0, i, a) := if_pos (.inr z)
    rw [e, fa]
    exact ⟨⟨rfl, trivial⟩, ⟨rfl, ⟨rfl, rfl⟩, rfl, rfl, trivial⟩, sameT (C := dtkC) ys, trivial⟩
  · have c1 : ¬ (dNum s a b 3 < 0 ∨ g = true) := fun h => h.elim (of_decide_eq_false y) (fun h => by rw [h] at z; cases z)
    have e : dFr s ys i a b g = (24 * dNum s a b 3, i, -1) := (if_neg c1).trans (if_pos (by simpa using u))
    rw [e, hw]
    exact ⟨⟨rfl, trivial⟩, ⟨rfl, ⟨rfl, rfl⟩, rfl, rfl, trivial⟩, sameT (C := dtkC) ys, trivial⟩
  · have c1 : ¬ (dNum s a b 3 < 0 ∨ g = true) := fun h => h.elim (of_decide_eq_false y) (fun h => by rw [h] at z; cases z)
    have c2 : ¬ ¬ (dk ys i).kind = 47 := by simpa using u
    have t := of_decide_eq_true t
    have c3 : ¬ (dk ys (dSkip ys i)).kind = 48 := fun h => by rw [dTp, if_pos h] at t; omega
    have e : dFr s ys i a b g = (0, dSkip ys i, (dk ys (dSkip ys i)).pos) := (if_neg c1).trans ((if_neg c2).trans (if_pos c3))
    rw [e]
    exact ⟨⟨rfl, trivial⟩, ⟨rfl, ⟨rfl, rfl⟩, (if_neg c3).symm, ((if_neg c3).trans (if_pos (by omega))).symm, trivial⟩, sameT (C := dtkC) ys, trivial⟩
  · have c1 : ¬ (dNum s a b 3 < 0 ∨ g = true) := fun h => h.elim (of_decide_eq_false y) (fun h => by rw [h] at z; cases z)
    have c2 : ¬ ¬ (dk ys i).kind = 47 := by simpa using u
    have t := of_decide_eq_false t
    have c3 : (dk ys (dSkip ys i)).kind = 48 := by
      by_cases h : (dk ys (dSkip ys i)).kind = 48
      · exact h
      · have := (k3 (dSkip ys i)).1
        rw [dTp, if_neg h, dFail, if_pos (by omega)] at t
        omega
    have eTi : dTi ys (dSkip ys i) 48 = dSkip ys (dSkip ys i) := if_pos c3
    have eTp : dTp ys (dSkip ys i) (-1) 48 = -1 := if_pos c3
    have dd := (k3 (dSkip ys i)).2 c3
    have nb2 := dNum_bd (m := 3) (by omega) dd
    rw [eTi, eTp, hw, fa]
    refine ⟨ys, sameT (C := dtkC) ys, ⟨rfl, by omega, k1, dd⟩, fun q => ⟨ys, sameT (C := dtkC) ys, rfl, ?_⟩, fun q => ⟨fun h => ?_, fun r => ⟨ys, sameT (C := dtkC) ys, rfl, ?_⟩, fun r => ⟨fun h => ?_, ?_⟩⟩⟩
    · have e : dFr s ys i a b g = (0, dSkip ys (dSkip ys i), a) := (if_neg c1).trans ((if_neg c2).trans ((if_neg (fun h => h c3)).trans (if_pos (.inl (of_decide_eq_true q)))))
      rw [e]
      exact ⟨⟨rfl, trivial⟩, ⟨rfl, ⟨rfl, rfl⟩, rfl, rfl, trivial⟩, sameT (C := dtkC) ys, trivial⟩
    · have := of_decide_eq_false q
      rw [h] at this
      omega
    · have e : dFr s ys i a b g = (0, dSkip ys (dSkip ys i), a) := (if_neg c1).trans ((if_neg c2).trans ((if_neg (fun h => h c3)).trans (if_pos (.inr (by simpa using r)))))
      rw [e]
      exact ⟨⟨rfl, trivial⟩, ⟨rfl, ⟨rfl, rfl⟩, rfl, rfl, trivial⟩, sameT (C := dtkC) ys, trivial⟩
    · have := of_decide_eq_false q
      rw [h] at this
      omega
    · have q := of_decide_eq_false q
      have r : (24 * dNum s a b 3).tmod (dNum s (dk ys (dSkip ys i)).pos (dk ys (dSkip ys i)).next 3) = 0 := by simpa using r
      have e : dFr s ys i a b g = ((24 * dNum s a b 3).tdiv (dNum s (dk ys (dSkip ys i)).pos (dk ys (dSkip ys i)).next 3), dSkip ys (dSkip ys i), -1) := (if_neg c1).trans ((if_neg c2).trans ((if_neg (fun h => h c3)).trans (if_neg (fun h => h.elim q (fun h => h r)))))
      have c4 : 0 ≤ dNum s a b 3 := by
        have := of_decide_eq_false y
        omega
      have hw2 : IntKind.i64.wrap ((24 * dNum s a b 3).tdiv (dNum s (dk ys (dSkip ys i)).pos (dk ys (dSkip ys i)).next 3)) = (24 * dNum s a b 3).tdiv (dNum s (dk ys (dSkip ys i)).pos (dk ys (dSkip ys i)).next 3) := by
        rw [Int.tdiv_eq_ediv_of_nonneg (by omega)]
        have b1 : 0 ≤ 24 * dNum s a b 3 / dNum s (dk ys (dSkip ys i)).pos (dk ys (dSkip ys i)).next 3 := Int.ediv_nonneg (by omega) (by omega)
        have b2 : 24 * dNum s a b 3 / dNum s (dk ys (dSkip ys i)).pos (dk ys (dSkip ys i)).next 3 ≤ 24 * dNum s a b 3 := Int.ediv_le_self _ (by omega)
        exact wr_id (by omega) (by omega)
      rw [e, hw2]
      exact ⟨⟨rfl, trivial⟩, ⟨rfl, ⟨rfl, rfl⟩, rfl, rfl, trivial⟩, sameT (C := dtkC) ys, trivial⟩
theorem hFracD : HoldsS P 130 120 158 dtkC qFracD := by
  refine ⟨Tryz.f130, by kernel_rfl, by kernel_rfl, fun os cs ys p v cs2 hq hp hno => ?_⟩
  unfold qFracD at hq
  split at hq
  · rename_i k a b g s len i pp
    simp only [Option.some.injEq, Prod.mk.injEq] at hq
    obtain ⟨rfl, rfl, rfl⟩ := hq
    obtain ⟨⟨h1, h2⟩, rfl, h4, h5⟩ := hp
    exact ⟨1000, ann2, Z3 stdOn, _, rfl, pZ3 stdOn, hno, fun _ _ h => h, ⟨dfrac_run g h1 h2 h4 h5⟩⟩
  · rename_i k a b g s len i pp
    simp only [Option.some.injEq, Prod.mk.injEq] at hq
    obtain ⟨rfl, rfl, rfl⟩ := hq
    obtain ⟨⟨h1, h2⟩, rfl, h4, h5⟩ := hp
    refine ⟨1000, ann2, Z3 stdOn, [.v (.agg [.sym .u8 k, .sym .i64 a, .sym .i64 b]), .v (.one (.sb g))], rfl, pZ3 stdOn, rfl, fun pl vs h => ?_, ⟨dfrac_run g h1 h2 h4 h5⟩⟩
    match vs, h with
    | [u, v], h => exact ⟨h.1, h.2.1.imp (fun h => by cases h) id, trivial⟩
    | [], h => exact h.elim
    | [_], h => exact h.2.elim
    | _ :: _ :: _ :: _, h => exact h.2.2.elim
  · cases hq
def Z4 (o : OnB) : Sums := ((Z3 o).addSp 130 (stSpec 120 158 dtkC qFracD)).addSp 129 (caseSpec cLetD)
theorem pZ4 (o : OnB) : OkS P (Z4 o) := ((pZ3 o).addSt fine hFracD).addCases fine (hLetD.toE (pZ2 stdOn)) cLet_q
end Go.AM
