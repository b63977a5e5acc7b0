import Derived.Test.YtbehdodaaobcdaaGreatDoorA25
import Derived.Laws.RangeAny
set_option maxHeartbeats 4000000
open Go Go.AM Go.Proofs
namespace Go.AM
set_option maxRecDepth 100000
def qRow : MSpec tokC := fun os cs ys => match os, cs with
  | [], [.ow 1 3 st len false] => some ((len = @List.length Tok ys - st ∧ st < @List.length Tok ys) ∧ TokOk ys, .tup [.agg [.sym .i64 (rowF ys st).e0, .sym .i64 (rowF ys st).e1, .sym .i64 (rowF ys st).e2], .one (.sym .i64 (rowF ys st).parts), .one (.sym .i64 (rowF ys st).fault)], [.ow 1 3 (rowF ys st).st (@List.length Tok ys - (rowF ys st).st) false])
  | _, _ => none
theorem hRow : HoldsS P 35 76 80 tokC qRow := by
  refine ⟨Tryz.f35, by kernel_rfl, by kernel_rfl, fun os cs ys p v cs2 hq hp hno => ?_⟩
  unfold qRow at hq
  split at hq
  · rename_i st len
    simp only [Option.some.injEq, Prod.mk.injEq] at hq
    obtain ⟨rfl, rfl, rfl⟩ := hq
    exact ⟨1000, annRow ys (rowF ys st), Y3 stdOn, _, rfl, pY3 stdOn, hno, fun _ _ h => h, ⟨row_run hp.1.1 hp.1.2 hp.2⟩⟩
  · cases hq
def Y4 (o : OnB) : Sums := (Y3 o).addSp 35 (stSpec 76 80 tokC qRow)
theorem pY4 (o : OnB) : OkS P (Y4 o) := (pY3 o).addSt fine hRow
def encL (r : Int) : List UInt8 := (Utf8.encode r).data.toList
def digR (r : Int) : Bool := decide (48 ≤ r) && decide (r ≤ 57)
def kindR (r : Int) : Int := if digR r = true then 110 else if r = 120 ∨ r = 121 ∨ r = 122 then 120 else if r = 43 ∨ r = 45 then 43 else if r = 44 ∨ r = 47 then r else 63
def addLast (l : List Tok) (u : List UInt8) : List Tok := l.set (l.length - 1) ⟨(tk l (l.length - 1)).kind, (tk l (l.length - 1)).text ++ u, (tk l (l.length - 1)).pos⟩
def stepT (l : List Tok) (op : Bool) (i : Int) (r : Int) : List Tok × Bool :=
  if digR r = true ∧ op = true then (addLast l (encL r), op)
  else if r = 32 then (l, digR r)
  else (l ++ [⟨kindR r, encL r, i⟩], digR r)
def toksP (s : List UInt8) : Nat → Nat → List Tok → Bool → List Tok
  | 0, _, l, _ => l
  | n + 1, pos, l, op => if pos < s.length then toksP s n (pos + (runeL s pos).2) (stepT l op pos (runeL s pos).1).1 (stepT l op pos (runeL s pos).1).2 else l
def toks (s : List UInt8) : List Tok := toksP s (s.length + 1) 0 [] false ++ [⟨46, [], s.length⟩]
structure TS where
  n : Nat
  pos : Nat
  l : List Tok
  op : Bool
def TSok (s : List UInt8) (R : List Tok) (x : TS) : Prop := toksP s x.n x.pos x.l x.op = R ∧ s.length - x.pos < x.n ∧ x.l.length ≤ x.pos ∧ (∀ t ∈ x.l, t.text.length ≤ x.pos + 4) ∧ (x.op = true → 0 < x.l.length) ∧ x.pos ≤ s.length + 4
def annTok (s : List UInt8) (R : List Tok) : Annos := ⟨0, fun id env h => if id = 4 then forceE (keepT [0, 2] 0 env) fun env => some ⟨{ x : TS // TSok s R x },
  fun x => (set (set (set env 3 (.v (.one (.ow 1 3 0 x.1.l.length false)))) 4 (.v (.one (.sb x.1.op)))) 10 (.v (.one (.ptr 0 0))), [.sit false s x.1.pos, .own 80 tokC x.1.l]),
  fun x => x.1.n⟩ else none, fun _ _ _ => []⟩
end Go.AM
open Go Go.AM Go.Proofs
namespace Go.AM
open Dist
set_option maxRecDepth 100000
open IntKind in
theorem nftok (s : List UInt8) (R ws : List Tok) (m : Nat) : call P (Y4 stdOn) (annTok s R) 1000 Tryz.f34 [.v (.one (.str s))] [] (fun v' h' => MatchTo 0 [v'] h' ([.v (.one (.ow 0 3 0 m false))], [.own 80 tokC ws])) = ((∃ (z : { x:TS//TSok s R x }),(s=s/\(0=0/\z.1.l.length=0)/\z.1.op=false/\True)/\(s=s/\z.1.pos=0)/\z.1.l.length=0/\True)/\∀ (x : { x:TS//TSok s R x }),(x.1.pos<s.length->(decide ((48:Int)<=(↑(runeL s x.1.pos).1:Int))=true->(decide ((↑(runeL s x.1.pos).1:Int)<=57)=true->(x.1.op=true->((0:Int)<=i64.wrap ((↑x.1.l.length:Int)-1)/\i64.wrap ((↑x.1.l.length:Int)-1)<(↑x.1.l.length:Int))/\(0+(i64.wrap ((↑x.1.l.length:Int)-1)).toNat).succ.le x.1.l.length/\(↑((x.1.l.getD (0+(i64.wrap ((↑x.1.l.length:Int)-1)).toNat) tokC.d).text.length+(Utf8.encode (↑(runeL s x.1.pos).1:Int)).data.toList.length):Int)<=IntKind.i64.max/\((0:Int)<=i64.wrap ((↑x.1.l.length:Int)-1)/\i64.wrap ((↑x.1.l.length:Int)-1)<(↑x.1.l.length:Int))/\(0+(i64.wrap ((↑x.1.l.length:Int)-1)).toNat).succ.le x.1.l.length/\∃ (z : { x:TS//TSok s R x }),z.1.n.succ.le x.1.n/\(s=s/\(0=0/\z.1.l.length=x.1.l.length)/\z.1.op=x.1.op/\True)/\(s=s/\z.1.pos=x.1.pos+(runeL s x.1.pos).2)/\SameRows tokC z.1.l tokC (x.1.l.set (0+(i64.wrap ((↑x.1.l.length:Int)-1)).toNat) { kind := (x.1.l.getD (0+(i64.wrap ((↑x.1.l.length:Int)-1)).toNat) tokC.d).kind,text := (x.1.l.getD (0+(i64.wrap ((↑x.1.l.length:Int)-1)).toNat) tokC.d).text++(Utf8.encode (↑(runeL s x.1.pos).1:Int)).data.toList,pos := (x.1.l.getD (0+(i64.wrap ((↑x.1.l.length:Int)-1)).toNat) tokC.d).pos })/\True)/\(x.1.op=false->(decide ((↑(runeL s x.1.pos).1:Int)=32)=true->∃ (z : { x:TS//TSok s R x }),z.1.n.succ.le x.1.n/\(s=s/\(0=0/\z.1.l.length=x.1.l.length)/\z.1.op=decide ((↑(runeL s x.1.pos).1:Int)<=57)/\True)/\(s=s/\z.1.pos=x.1.pos+(runeL s x.1.pos).2)/\SameRows tokC z.1.l tokC x.1.l/\True)/\(decide ((↑(runeL s x.1.pos).1:Int)=32)=false->(decide ((↑(runeL s x.1.pos).1:Int)<=57)=true->(x.1.l.length=x.1.l.length/\((x.1.l.length+1)*32).le 140737488355328/\(x.1.l.length+1).le 4611686018427387904)/\∃ (z : { x:TS//TSok s R x }),z.1.n.succ.le x.1.n/\(s=s/\(0=0/\z.1.l.length=x.1.l.length+1)/\z.1.op=decide ((↑(runeL s x.1.pos).1:Int)<=57)/\True)/\(s=s/\z.1.pos=x.1.pos+(runeL s x.1.pos).2)/\SameRows tokC z.1.l tokC (x.1.l++[{ kind := Int.ofNat 110,text := (Utf8.encode (↑(runeL s x.1.pos).1:Int)).data.toList,pos := (↑x.1.pos:Int) }])/\True)/\(decide ((↑(runeL s x.1.pos).1:Int)<=57)=false->(decide ((↑(runeL s x.1.pos).1:Int)=120)=true->(x.1.l.length=x.1.l.length/\((x.1.l.length+1)*32).le 140737488355328/\(x.1.l.length+1).le 4611686018427387904)/\∃ (z : { x:TS//TSok s R x }),z.1.n.succ.le x.1.n/\(s=s/\(0=0/\z.1.l.length=x.1.l.length+1)/\z.1.op=decide ((↑(runeL s x.1.pos).1:Int)<=57)/\True)/\(s=s/\z.1.pos=x.1.pos+(runeL s x.1.pos).2)/\SameRows tokC z.1.l tokC (x.1.l++[{ kind := Int.ofNat 120,text := (Utf8.encode (↑(runeL s x.1.pos).1:Int)).data.toList,pos := (↑x.1.pos:Int) }])/\True)/\(decide ((↑(runeL s x.1.pos).1:Int)=120)=false->(decide ((↑(runeL s x.1.pos).1:Int)=121)=true->(x.1.l.length=x.1.l.length/\((x.1.l.length+1)*32).le 140737488355328/\(x.1.l.length+1).le 4611686018427387904)/\∃ (z : { x:TS//TSok s R x }),z.1.n.succ.le x.1.n/\(s=s/\(0=0/\z.1.l.length=x.1.l.length+1)/\z.1.op=decide ((↑(runeL s x.1.pos).1:Int)<=57)/\True)/\(s=s/\z.1.pos=x.1.pos+(runeL s x.1.pos).2)/\SameRows tokC z.1.l tokC (x.1.l++[{ kind := Int.ofNat 120,text := (Utf8.encode (↑(runeL s x.1.pos).1:Int)).data.toList,pos := (↑x.1.pos:Int) }])/\True)/\(decide ((↑(runeL s x.1.pos).1:Int)=121)=false->(decide ((↑(runeL s x.1.pos).1:Int)=122)=true->(x.1.l.length=x.1.l.length/\((x.1.l.length+1)*32).le 140737488355328/\(x.1.l.length+1).le 4611686018427387904)/\∃ (z : { x:TS//TSok s R x }),z.1.n.succ.le x.1.n/\(s=s/\(0=0/\z.1.l.length=x.1.l.length+1)/\z.1.op=decide ((↑(runeL s x.1.pos).1:Int)<=57)/\True)/\(s=s/\z.1.pos=x.1.pos+(runeL s x.1.pos).2)/\SameRows tokC z.1.l tokC (x.1.l++[{ kind := Int.ofNat 120,text := (Utf8.encode (↑(runeL s x.1.pos).1:Int)).data.toList,pos := (↑x.1.pos:Int) }])/\True)/\(decide ((↑(runeL s x.1.pos).1:Int)=122)=false->(decide ((↑(runeL s x.1.pos).1:Int)=43)=true->(x.1.l.length=x.1.l.length/\((x.1.l.length+1)*32).le 140737488355328/\(x.1.l.length+1).le 4611686018427387904)/\∃ (z : { x:TS//TSok s R x }),z.1.n.succ.le x.1.n/\(s=s/\(0=0/\z.1.l.length=x.1.l.length+1)/\z.1.op=decide ((↑(runeL s x.1.pos).1:Int)<=57)/\True)/\(s=s/\z.1.pos=x.1.pos+(runeL s x.1.pos).2)/\SameRows tokC z.1.l tokC (x.1.l++[{ kind := Int.ofNat 43,text := (Utf8.encode (↑(runeL s x.1.pos).1:Int)).data.toList,pos := (↑x.1.pos:Int) }])/\True)/\(decide ((↑(runeL s x.1.pos).1:Int)=43)=false->(decide ((↑(runeL s x.1.pos).1:Int)=45)=true->(x.1.l.length=x.1.l.length/\((x.1.l.length+1)*32).le 140737488355328/\(x.1.l.length+1).le 4611686018427387904)/\∃ (z : { x:TS//TSok s R x }),z.1.n.succ.le x.1.n/\(s=s/\(0=0/\z.1.l.length=x.1.l.length+1)/\z.1.op=decide ((↑(runeL s x.1.pos).1:Int)<=57)/\True)/\(s=s/\z.1.pos=x.1.pos+(runeL s x.1.pos).2)/\SameRows tokC z.1.l tokC (x.1.l++[{ kind := Int.ofNat 43,text := (Utf8.encode (↑(runeL s x.1.pos).1:Int)).data.toList,pos := (↑x.1.pos:Int) }])/\True)/\(decide ((↑(runeL s x.1.pos).1:Int)=45)=false->(decide ((↑(runeL s x.1.pos).1:Int)=44)=true->(x.1.l.length=x.1.l.length/\((x.1.l.length+1)*32).le 140737488355328/\(x.1.l.length+1).le 4611686018427387904)/\∃ (z : { x:TS//TSok s R x }),z.1.n.succ.le x.1.n/\(s=s/\(0=0/\z.1.l.length=x.1.l.length+1)/\z.1.op=decide ((↑(runeL s x.1.pos).1:Int)<=57)/\True)/\(s=s/\z.1.pos=x.1.pos+(runeL s x.1.pos).2)/\SameRows tokC z.1.l tokC (x.1.l++[{ kind := IntKind.u8.wrap (↑(runeL s x.1.pos).1:Int),text := (Utf8.encode (↑(runeL s x.1.pos).1:Int)).data.toList,pos := (↑x.1.pos:Int) }])/\True)/\(decide ((↑(runeL s x.1.pos).1:Int)=44)=false->(decide ((↑(runeL s x.1.pos).1:Int)=47)=true->(x.1.l.length=x.1.l.length/\((x.1.l.length+1)*32).le 140737488355328/\(x.1.l.length+1).le 4611686018427387904)/\∃ (z : { x:TS//TSok s R x }),z.1.n.succ.le x.1.n/\(s=s/\(0=0/\z.1.l.length=x.1.l.length+1)/\z.1.op=decide ((↑(runeL s x.1.pos).1:Int)<=57)/\True)/\(s=s/\z.1.pos=x.1.pos+(runeL s x.1.pos).2)/\SameRows tokC z.1.l tokC (x.1.l++[{ kind := IntKind.u8.wrap (↑(runeL s x.1.pos).1:Int),text := (Utf8.encode (↑(runeL s x.1.pos).1:Int)).data.toList,pos := (↑x.1.pos:Int) }])/\True)/\(decide ((↑(runeL s x.1.pos).1:Int)=47)=false->(x.1.l.length=x.1.l.length/\((x.1.l.length+1)*32).le 140737488355328/\(x.1.l.length+1).le 4611686018427387904)/\∃ (z : { x:TS//TSok s R x }),z.1.n.succ.le x.1.n/\(s=s/\(0=0/\z.1.l.length=x.1.l.length+1)/\z.1.op=decide ((↑(runeL s x.1.pos).1:Int)<=57)/\True)/\(s=s/\z.1.pos=x.1.pos+(runeL s x.1.pos).2)/\SameRows tokC z.1.l tokC (x.1.l++[{ kind := Int.ofNat 63,text := (Utf8.encode (↑(runeL s x.1.pos).1:Int)).data.toList,pos := (↑x.1.pos:Int) }])/\True)))))))))))/\(decide ((↑(runeL s x.1.pos).1:Int)<=57)=false->(decide ((↑(runeL s x.1.pos).1:Int)=32)=true->∃ (z : { x:TS//TSok s R x }),z.1.n.succ.le x.1.n/\(s=s/\(0=0/\z.1.l.length=x.1.l.length)/\z.1.op=decide ((↑(runeL s x.1.pos).1:Int)<=57)/\True)/\(s=s/\z.1.pos=x.1.pos+(runeL s x.1.pos).2)/\SameRows tokC z.1.l tokC x.1.l/\True)/\(decide ((↑(runeL s x.1.pos).1:Int)=32)=false->(decide ((↑(runeL s x.1.pos).1:Int)<=57)=true->(x.1.l.length=x.1.l.length/\((x.1.l.length+1)*32).le 140737488355328/\(x.1.l.length+1).le 4611686018427387904)/\∃ (z : { x:TS//TSok s R x }),z.1.n.succ.le x.1.n/\(s=s/\(0=0/\z.1.l.length=x.1.l.length+1)/\z.1.op=decide ((↑(runeL s x.1.pos).1:Int)<=57)/\True)/\(s=s/\z.1.pos=x.1.pos+(runeL s x.1.pos).2)/\SameRows tokC z.1.l tokC (x.1.l++[{ kind := Int.ofNat 110,text := (Utf8.encode (↑(runeL s x.1.pos).1:Int)).data.toList,pos := (↑x.1.pos:Int) }])/\True)/\(decide ((↑(runeL s x.1.pos).1:Int)<=57)=false->(decide ((↑(runeL s x.1.pos).1:Int)=120)=true->(x.1.l.length=x.1.l.length/\((x.1.l.length+1)*32).le 140737488355328/\(x.1.l.length+1).le 4611686018427387904)/\∃ (z : { x:TS//TSok s R x }),z.1.n.succ.le x.1.n/\(s=s/\(0=0/\z.1.l.length=x.1.l.length+1)/\z.1.op=decide ((↑(runeL s x.1.pos).1:Int)<=57)/\True)/\(s=s/\z.1.pos=x.1.pos+(runeL s x.1.pos).2)/\SameRows tokC z.1.l tokC (x.1.l++[{ kind := Int.ofNat 120,text := (Utf8.encode (↑(runeL s x.1.pos).1:Int)).data.toList,pos := (↑x.1.pos:Int) }])/\True)/\(decide ((↑(runeL s x.1.pos).1:Int)=120)=false->(decide ((↑(runeL s x.1.pos).1:Int)=121)=true->(x.1.l.length=x.1.l.length/\((x.1.l.length+1)*32).le 140737488355328/\(x.1.l.length+1).le 4611686018427387904)/\∃ (z : { x:TS//TSok s R x }),z.1.n.succ.le x.1.n/\(s=s/\(0=0/\z.1.l.length=x.1.l.length+1)/\z.1.op=decide ((↑(runeL s x.1.pos).1:Int)<=57)/\True)/\(s=s/\z.1.pos=x.1.pos+(runeL s x.1.pos).2)/\SameRows tokC z.1.l tokC (x.1.l++[{ kind := Int.ofNat 120,text := (Utf8.encode (↑(runeL s x.1.pos).1:Int)).data.toList,pos := (↑x.1.pos:Int) }])/\True)/\(decide ((↑(runeL s x.1.pos).1:Int)=121)=false->(decide ((↑(runeL s x.1.pos).1:Int)=122)=true->(x.1.l.length=x.1.l.length/\((x.1.l.length+1)*32).le 140737488355328/\(x.1.l.length+1).le 4611686018427387904)/\∃ (z : { x:TS//TSok s R x }),z.1.n.succ.le x.1.n/\(s=s/\(0=0/\z.1.l.length=x.1.l.length+1)/\z.1.op=decide ((↑(runeL s x.1.pos).1:Int)<=57)/\True)/\(s=s/\z.1.pos=x.1.pos+(runeL s x.1.pos).2)/\SameRows tokC z.1.l tokC (x.1.l++[{ kind := Int.ofNat 120,text := (Utf8.encode (↑(runeL s x.1.pos).1:Int)).data.toList,pos := (↑x.1.pos:Int) }])/\True)/\(decide ((↑(runeL s x.1.pos).1:Int)=122)=false->(decide ((↑(runeL s x.1.pos).1:Int)=43)=true->(x.1.l.length=x.1.l.length/\((x.1.l.length+1)*32).le 140737488355328/\(x.1.l.length+1).le 4611686018427387904)/\∃ (z : { x:TS//TSok s R x }),z.1.n.succ.le x.1.n/\(s=s/\(0=0/\z.1.l.length=x.1.l.length+1)/\z.1.op=decide ((↑(runeL s x.1.pos).1:Int)<=57)/\True)/\(s=s/\z.1.pos=x.1.pos+(runeL s x.1.pos).2)/\SameRows tokC z.1.l tokC (x.1.l++[{ kind := Int.ofNat 43,text := (Utf8.encode (↑(runeL s x.1.pos).1:Int)).data.toList,pos := (↑x.1.pos:Int) }])/\True)/\(decide ((↑(runeL s x.1.pos).1:Int)=43)=false->(decide ((↑(runeL s x.1.pos).1:Int)=45)=true->(x.1.l.length=x.1.l.length/\((x.1.l.length+1)*32).le 140737488355328/\(x.1.l.length+1).le 4611686018427387904)/\∃ (z : { x:TS//TSok s R x }),z.1.n.succ.le x.1.n/\(s=s/\(0=0/\z.1.l.length=x.1.l.length+1)/\z.1.op=decide ((↑(runeL s x.1.pos).1:Int)<=57)/\True)/\(s=s/\z.1.pos=x.1.pos+(runeL s x.1.pos).2)/\SameRows tokC z.1.l tokC (x.1.l++[{ kind := Int.ofNat 43,text := (Utf8.encode (↑(runeL s x.1.pos).1:Int)).data.toList,pos := (↑x.1.pos:Int) }])/\True)/\(decide ((↑(runeL s x.1.pos).1:Int)=45)=false->(decide ((↑(runeL s x.1.pos).1:Int)=44)=true->(x.1.l.length=x.1.l.length/\((x.1.l.length+1)*32).le 140737488355328/\(x.1.l.length+1).le 4611686018427387904)/\∃ (z : { x:TS//TSok s R x }),z.1.n.succ.le x.1.n/\(s=s/\(0=0/\z.1.l.length=x.1.l.length+1)/\z.1.op=decide ((↑(runeL s x.1.pos).1:Int)<=57)/\True)/\(s=s/\z.1.pos=x.1.pos+(runeL s x.1.pos).2)/\SameRows tokC z.1.l tokC (x.1.l++[{ kind := IntKind.u8.wrap (↑(runeL s x.1.pos).1:Int),text := (Utf8.encode (↑(runeL s x.1.pos).1:Int)).data.toList,pos := (↑x.1.pos:Int) }])/\True)/\(decide ((↑(runeL s x.1.pos).1:Int)=44)=false->(decide ((↑(runeL s x.1.pos).1:Int)=47)=true->(x.1.l.length=x.1.l.length/\((x.1.l.length+1)*32).le 140737488355328/\(x.1.l.length+1).le 4611686018427387904)/\∃ (z : { x:TS//TSok s R x }),z.1.n.succ.le x.1.n/\(s=s/\(0=0/\z.1.l.length=x.1.l.length+1)/\z.1.op=decide ((↑(runeL s x.1.pos).1:Int)<=57)/\True)/\(s=s/\z.1.pos=x.1.pos+(runeL s x.1.pos).2)/\SameRows tokC z.1.l tokC (x.1.l++[{ kind := IntKind.u8.wrap (↑(runeL s x.1.pos).1:Int),text := (Utf8.encode (↑(runeL s x.1.pos).1:Int)).data.toList,pos := (↑x.1.pos:Int) }])/\True)/\(decide ((↑(runeL s x.1.pos).1:Int)=47)=false->(x.1.l.length=x.1.l.length/\((x.1.l.length+1)*32).le 140737488355328/\(x.1.l.length+1).le 4611686018427387904)/\∃ (z : { x:TS//TSok s R x }),z.1.n.succ.le x.1.n/\(s=s/\(0=0/\z.1.l.length=x.1.l.length+1)/\z.1.op=decide ((↑(runeL s x.1.pos).1:Int)<=57)/\True)/\(s=s/\z.1.pos=x.1.pos+(runeL s x.1.pos).2)/\SameRows tokC z.1.l tokC (x.1.l++[{ kind := Int.ofNat 63,text := (Utf8.encode (↑(runeL s x.1.pos).1:Int)).data.toList,pos := (↑x.1.pos:Int) }])/\True)))))))))))/\(decide ((48:Int)<=(↑(runeL s x.1.pos).1:Int))=false->(decide ((↑(runeL s x.1.pos).1:Int)=32)=true->∃ (z : { x:TS//TSok s R x }),z.1.n.succ.le x.1.n/\(s=s/\(0=0/\z.1.l.length=x.1.l.length)/\z.1.op=false/\True)/\(s=s/\z.1.pos=x.1.pos+(runeL s x.1.pos).2)/\SameRows tokC z.1.l tokC x.1.l/\True)/\(decide ((↑(runeL s x.1.pos).1:Int)=32)=false->(decide ((↑(runeL s x.1.pos).1:Int)=120)=true->(x.1.l.length=x.1.l.length/\((x.1.l.length+1)*32).le 140737488355328/\(x.1.l.length+1).le 4611686018427387904)/\∃ (z : { x:TS//TSok s R x }),z.1.n.succ.le x.1.n/\(s=s/\(0=0/\z.1.l.length=x.1.l.length+1)/\z.1.op=false/\True)/\(s=s/\z.1.pos=x.1.pos+(runeL s x.1.pos).2)/\SameRows tokC z.1.l tokC (x.1.l++[{ kind := Int.ofNat 120,text := (Utf8.encode (↑(runeL s x.1.pos).1:Int)).data.toList,pos := (↑x.1.pos:Int) }])/\True)/\(decide ((↑(runeL s x.1.pos).1:Int)=120)=false->(decide ((↑(runeL s x.1.pos).1:Int)=121)=true->(x.1.l.length=x.1.l.length/\((x.1.l.length+1)*32).le 140737488355328/\(x.1.l.length+1).le 4611686018427387904)/\∃ (z : { x:TS//TSok s R x }),z.1.n.succ.le x.1.n/\(s=s/\(0=0/\z.1.l.length=x.1.l.length+1)/\z.1.op=false/\True)/\(s=s/\z.1.pos=x.1.pos+(runeL s x.1.pos).2)/\SameRows tokC z.1.l tokC (x.1.l++[{ kind := Int.ofNat 120,text := (Utf8.encode (↑(runeL s x.1.pos).1:Int)).data.toList,pos := (↑x.1.pos:Int) }])/\True)/\(decide ((↑(runeL s x.1.pos).1:Int)=121)=false->(decide ((↑(runeL s x.1.pos).1:Int)=122)=true->(x.1.l.length=x.1.l.length/\((x.1.l.length+1)*32).le 140737488355328/\(x.1.l.length+1).le 4611686018427387904)/\∃ (z : { x:TS//TSok s R x }),z.1.n.succ.le x.1.n/\(s=s/\(0=0/\z.1.l.length=x.1.l.length+1)/\z.1.op=false/\True)/\(s=s/\z.1.pos=x.1.pos+(runeL s x.1.pos).2)/\SameRows tokC z.1.l tokC (x.1.l++[{ kind := Int.ofNat 120,text := (Utf8.encode (↑(runeL s x.1.pos).1:Int)).data.toList,pos := (↑x.1.pos:Int) }])/\True)/\(decide ((↑(runeL s x.1.pos).1:Int)=122)=false->(decide ((↑(runeL s x.1.pos).1:Int)=43)=true->(x.1.l.length=x.1.l.length/\((x.1.l.length+1)*32).le 140737488355328/\(x.1.l.length+1).le 4611686018427387904)/\∃ (z : { x:TS//TSok s R x }),z.1.n.succ.le x.1.n/\(s=s/\(0=0/\z.1.l.length=x.1.l.length+1)/\z.1.op=false/\True)/\(s=s/\z.1.pos=x.1.pos+(runeL s x.1.pos).2)/\SameRows tokC z.1.l tokC (x.1.l++[{ kind := Int.ofNat 43,text := (Utf8.encode (↑(runeL s x.1.pos).1:Int)).data.toList,pos := (↑x.1.pos:Int) }])/\True)/\(decide ((↑(runeL s x.1.pos).1:Int)=43)=false->(decide ((↑(runeL s x.1.pos).1:Int)=45)=true->(x.1.l.length=x.1.l.length/\((x.1.l.length+1)*32).le 140737488355328/\(x.1.l.length+1).le 4611686018427387904)/\∃ (z : { x:TS//TSok s R x }),z.1.n.succ.le x.1.n/\(s=s/\(0=0/\z.1.l.length=x.1.l.length+1)/\z.1.op=false/\True)/\(s=s/\z.1.pos=x.1.pos+(runeL s x.1.pos).2)/\SameRows tokC z.1.l tokC (x.1.l++[{ kind := Int.ofNat 43,text := (Utf8.encode (↑(runeL s x.1.pos).1:Int)).data.toList,pos := (↑x.1.pos:Int) }])/\True)/\(decide ((↑(runeL s x.1.pos).1:Int)=45)=false->(decide ((↑(runeL s x.1.pos).1:Int)=44)=true->(x.1.l.length=x.1.l.length/\((x.1.l.length+1)*32).le 140737488355328/\(x.1.l.length+1).le 4611686018427387904)/\∃ (z : { x:TS//TSok s R x }),z.1.n.succ.le x.1.n/\(s=s/\(0=0/\z.1.l.length=x.1.l.length+1)/\z.1.op=false/\True)/\(s=s/\z.1.pos=x.1.pos+(runeL s x.1.pos).2)/\SameRows tokC z.1.l tokC (x.1.l++[{ kind := IntKind.u8.wrap (↑(runeL s x.1.pos).1:Int),text := (Utf8.encode (↑(runeL s x.1.pos).1:Int)).data.toList,pos := (↑x.1.pos:Int) }])/\True)/\(decide ((↑(runeL s x.1.pos).1:Int)=44)=false->(decide ((↑(runeL s x.1.pos).1:Int)=47)=true->(x.1.l.length=x.1.l.length/\((x.1.l.length+1)*32).le 140737488355328/\(x.1.l.length+1).le 4611686018427387904)/\∃ (z : { x:TS//TSok s R x }),z.1.n.succ.le x.1.n/\(s=s/\(0=0/\z.1.l.length=x.1.l.length+1)/\z.1.op=false/\True)/\(s=s/\z.1.pos=x.1.pos+(runeL s x.1.pos).2)/\SameRows tokC z.1.l tokC (x.1.l++[{ kind := IntKind.u8.wrap (↑(runeL s x.1.pos).1:Int),text := (Utf8.encode (↑(runeL s x.1.pos).1:Int)).data.toList,pos := (↑x.1.pos:Int) }])/\True)/\(decide ((↑(runeL s x.1.pos).1:Int)=47)=false->(x.1.l.length=x.1.l.length/\((x.1.l.length+1)*32).le 140737488355328/\(x.1.l.length+1).le 4611686018427387904)/\∃ (z : { x:TS//TSok s R x }),z.1.n.succ.le x.1.n/\(s=s/\(0=0/\z.1.l.length=x.1.l.length+1)/\z.1.op=false/\True)/\(s=s/\z.1.pos=x.1.pos+(runeL s x.1.pos).2)/\SameRows tokC z.1.l tokC (x.1.l++[{ kind := Int.ofNat 63,text := (Utf8.encode (↑(runeL s x.1.pos).1:Int)).data.toList,pos := (↑x.1.pos:Int) }])/\True))))))))))/\(s.length<=x.1.pos->(x.1.l.length=x.1.l.length/\((x.1.l.length+1)*32).le 140737488355328/\(x.1.l.length+1).le 4611686018427387904)/\((0=0/\m=x.1.l.length+1)/\True)/\SameRows tokC ws tokC (x.1.l++[{ kind := (46:Int),text := [],pos := (↑s.length:Int) }])/\True)) := by kernel_rfl
theorem rune_bd {s : List UInt8} {pos : Nat} (h : pos < s.length) : 1 ≤ (runeL s pos).2 ∧ (runeL s pos).2 ≤ 4 := by
  have hs : pos < (ByteArray.mk s.toArray).size := by simpa [ByteArray.size] using h
  refine ⟨?_, ?_⟩
  · rcases Nat.lt_or_ge ((ByteArray.mk s.toArray)[pos]'hs).toNat 128 with h1 | h1
    · show 1 ≤ (Utf8.decode ⟨s.toArray⟩ pos).2
      rw [decode_ascii _ _ hs h1]
      exact Nat.le_refl _
    · exact (decode_high _ _ hs h1).2
  · show (Utf8.decode ⟨s.toArray⟩ pos).2 ≤ 4
    simp only [Utf8.decode]
    repeat' split
    all_goals simp
theorem enc_len (r : Int) : (encL r).length ≤ 4 := by
  unfold encL Utf8.encode
  simp only
  repeat' split
  all_goals simp
theorem enc_ascii {r : Int} (h0 : 0 ≤ r) (h1 : r < 128) : encL r = [UInt8.ofNat r.toNat] := by
  have hv : Utf8.valid r = true := by
    unfold Utf8.valid
    simp
    omega
  unfold encL Utf8.encode
  simp only [hv, if_true]
  rw [if_pos (by omega)]
theorem digR_iff {r : Int} : digR r = true ↔ 48 ≤ r ∧ r ≤ 57 := by simp [digR]
theorem addLast_len (l : List Tok) (u : List UInt8) : (addLast l u).length = l.length := by simp [addLast]
theorem TS_next {s : List UInt8} {R l : List Tok} {n pos : Nat} {op : Bool} (hok : TSok s R ⟨n + 1, pos, l, op⟩) (hpos : pos < s.length) :
    TSok s R ⟨n, pos + (runeL s pos).2, (stepT l op pos (runeL s pos).1).1, (stepT l op pos (runeL s pos).1).2⟩ := by
  obtain ⟨h1, h2, h3, h4, h5, j6⟩ := hok
  simp only at h1 h2 h3 h4 h5 j6
  obtain ⟨b1, b2⟩ := rune_bd hpos
  rw [toksP, if_pos hpos] at h1
  generalize (runeL s pos).2 = w at *
  generalize hr : ((runeL s pos).1 : Int) = r at *
  refine ⟨h1, by simp only; omega, ?_, ?_, ?_, by simp only; omega⟩
  · show (stepT l op pos r).1.length ≤ pos + w
    unfold stepT
    split
    · simp only [addLast_len]; omega
    · split
      · simp only; omega
      · simp only [List.length_append, List.length_cons, List.length_nil]; omega
  · show ∀ t ∈ (stepT l op pos r).1, t.text.length ≤ pos + w + 4
    unfold stepT
    split
    · rename_i hd
      intro t ht
      simp only [addLast] at ht
      rcases List.mem_or_eq_of_mem_set ht with ht | ht
      · have := h4 t ht; omega
      · subst ht
        have hd1 := digR_iff.1 hd.1
        rw [List.length_append, enc_ascii (by omega) (by omega)]
        simp only [List.length_cons, List.length_nil]
        have hl := h5 hd.2
        have : tk l (l.length - 1) ∈ l := by
          unfold tk
          rw [List.getD_eq_getElem?_getD, List.getElem?_eq_getElem (by omega)]
          exact List.getElem_mem _
        have := h4 _ this
        omega
    · split
      · intro t ht
        have := h4 t ht
        omega
      · intro t ht
        rcases List.mem_append.1 ht with ht | ht
        · have := h4 t ht; omega
        · simp at ht
          subst ht
          have := enc_len r
          simp only
          omega
  · show (stepT l op pos r).2 = true → 0 < (stepT l op pos r).1.length
    unfold stepT
    split
    · rename_i hd
      intro _
      simp only [addLast_len]
      exact h5 hd.2
    · split
      · rename_i h32
        intro h
        have := digR_iff.1 h
        omega
      · intro _
        simp
theorem tk_leaf {s : List UInt8} {R : List Tok} {x : { x : TS // TSok s R x }} (hpos : x.val.pos < s.length) {l' : List Tok} {op' : Bool} {m' : Nat} (h : stepT x.val.l x.val.op x.val.pos (runeL s x.val.pos).1 = (l', op')) (hm : l'.length = m') :
    ∃ (z : { x : TS // TSok s R x }), z.val.n.succ.le x.val.n ∧ (True ∧ (True ∧ z.val.l.length = m') ∧ z.val.op = op' ∧ True) ∧ (True ∧ z.val.pos = x.val.pos + (runeL s x.val.pos).2) ∧ SameRows tokC z.val.l tokC l' ∧ True := by
  obtain ⟨⟨n, pos, l, op⟩, hok⟩ := x
  cases n with
  | zero => exact absurd hok.2.1 (Nat.not_lt_zero _)
  | succ n =>
    have hn := TS_next hok hpos
    simp only at h hpos
    rw [h] at hn
    exact ⟨⟨_, hn⟩, Nat.le_refl _, ⟨trivial, ⟨trivial, hm⟩, rfl, trivial⟩, ⟨trivial, rfl⟩, sameT (C := tokC) l', trivial⟩
theorem tk_app {s : List UInt8} {R : List Tok} {x : { x : TS // TSok s R x }} (hs : s.length ≤ 65536) (hpos : x.val.pos < s.length) {k : Int} {op' : Bool} (hk : kindR (runeL s x.val.pos).1 = k) (hop : digR (runeL s x.val.pos).1 = op') (hd : ¬ (digR (runeL s x.val.pos).1 = true ∧ x.val.op = true)) (h32 : ((runeL s x.val.pos).1 : Int) ≠ 32) :
    (x.val.l.length = x.val.l.length ∧ ((x.val.l.length + 1) * 32).le 140737488355328 ∧ (x.val.l.length + 1).le 4611686018427387904) ∧ ∃ (z : { x : TS // TSok s R x }), z.val.n.succ.le x.val.n ∧ (True ∧ (True ∧ z.val.l.length = x.val.l.length + 1) ∧ z.val.op = op' ∧ True) ∧ (True ∧ z.val.pos = x.val.pos + (runeL s x.val.pos).2) ∧ SameRows tokC z.val.l tokC (x.val.l ++ [⟨k, (Utf8.encode ((runeL s x.val.pos).1 : Int)).data.toList, (x.val.pos : Int)⟩]) ∧ True := by
  have h3 := x.property.2.2.1
  refine ⟨⟨rfl, show (x.val.l.length + 1) * 32 ≤ 140737488355328 by omega, show x.val.l.length + 1 ≤ 4611686018427387904 by omega⟩, tk_leaf (l' := x.val.l ++ [⟨k, encL ((runeL s x.val.pos).1 : Int), (x.val.pos : Int)⟩]) hpos ?_ (by simp)⟩
  unfold stepT
  rw [if_neg hd, if_neg h32, hk, hop]
theorem tk_mem {l : List Tok} (h : 0 < l.length) : tk l (l.length - 1) ∈ l := by
  unfold tk
  rw [List.getD_eq_getElem?_getD, List.getElem?_eq_getElem (by omega)]
  exact List.getElem_mem _
theorem len_sum {a b p : Nat} (ha : a ≤ p + 4) (hb : b ≤ 4) (hp : p ≤ 70000) : ((a + b : Nat) : Int) ≤ 9223372036854775807 := by omega
theorem tok_run {s : List UInt8} (hs : s.length ≤ 65536) : call P (Y4 stdOn) (annTok s (toksP s (s.length + 1) 0 [] false)) 1000 Tryz.f34 [.v (.one (.str s))] [] (fun v' h' => MatchTo 0 [v'] h' ([.v (.one (.ow 0 3 0 (toks s).length false))], [.own 80 tokC (toks s)])) := by
  refine Eq.mpr (nftok s _ (toks s) (toks s).length) ⟨⟨⟨⟨s.length + 1, 0, [], false⟩, ⟨rfl, by simp, by simp, by simp, by simp, by simp⟩⟩, ⟨rfl, ⟨rfl, rfl⟩, rfl, trivial⟩, ⟨rfl, rfl⟩, rfl, trivial⟩, fun x => ⟨fun hpos => ?_, fun hend => ?_⟩⟩
  · have hlen := x.property.2.2.1
    have htx := x.property.2.2.2.1
    have hne := x.property.2.2.2.2.1
    have hw : IntKind.i64.wrap ((x.val.l.length : Int) - 1) = (x.val.l.length : Int) - 1 := wr_id (by omega) (by omega)
    have hw2 : 0 + ((x.val.l.length : Int) - 1).toNat = x.val.l.length - 1 := by omega
    simp only [hw, hw2]
    repeat' (first | intro _ | apply And.intro)
    all_goals simp only [decide_eq_true_eq, decide_eq_false_iff_not] at *
    all_goals first
      | omega
      | exact (show (x.val.l.length + 1) * 32 ≤ 140737488355328 by omega)
      | exact (show x.val.l.length + 1 ≤ 4611686018427387904 by omega)
      | exact (tk_app hs hpos (by unfold kindR digR; simp only [Bool.and_eq_true, decide_eq_true_eq]; (repeat' split) <;> first | rfl | omega | (rw [show ((runeL s x.val.pos).1 : Int) = 44 by omega]; decide) | (rw [show ((runeL s x.val.pos).1 : Int) = 47 by omega]; decide)) (by rw [Bool.eq_iff_iff, digR_iff]; first | (simp only [decide_eq_true_eq]; omega) | (simp only [Bool.false_eq_true, iff_false]; omega)) (by rintro ⟨h, h'⟩; have h := digR_iff.1 h; first | omega | (simp_all; done)) (by omega)).2
      | exact tk_leaf hpos (by unfold stepT; rw [if_pos ⟨digR_iff.2 (by omega), by assumption⟩]; rfl) (by simp)
      | exact tk_leaf hpos (by
          unfold stepT
          rw [if_neg (by rintro ⟨h, h'⟩; have h := digR_iff.1 h; omega), if_pos (by omega)]
          exact congrArg (Prod.mk _) (by rw [Bool.eq_iff_iff, digR_iff]; first | (simp only [decide_eq_true_eq]; omega) | (simp only [Bool.false_eq_true, iff_false]; omega))) rfl
      | (have h9 := hne ‹x.val.op = true›; omega)
      | (have h9 := hne ‹x.val.op = true›; exact Nat.succ_le_of_lt (show x.val.l.length - 1 < x.val.l.length by omega))
      | (have h9 := hne ‹x.val.op = true›
         have ha := htx _ (tk_mem h9)
         have hb := enc_len ((runeL s x.val.pos).1 : Int)
         have hc := x.property.2.2.2.2.2
         rw [show IntKind.i64.max = 9223372036854775807 from rfl]
         exact len_sum ha hb (by omega))
  · have hR : toksP s (s.length + 1) 0 [] false = x.val.l := by
      have h1 := x.property.1
      have h2 := x.property.2.1
      refine h1.symm.trans ?_
      generalize x.val = y at h2 hend
      obtain ⟨n, pos, l, op⟩ := y
      have h2 : s.length - pos < n := h2
      have hend : s.length ≤ pos := hend
      cases n with
      | zero => omega
      | succ n => rw [toksP, if_neg (by omega)]
    have h3 := x.property.2.2.1
    have j6 := x.property.2.2.2.2.2
    have e : toks s = x.val.l ++ [⟨46, [], (s.length : Int)⟩] := congrArg (fun z => z ++ [(⟨46, [], (s.length : Int)⟩ : Tok)]) hR
    rw [e]
    exact ⟨⟨rfl, show (x.val.l.length + 1) * 32 ≤ 140737488355328 by omega, show x.val.l.length + 1 ≤ 4611686018427387904 by omega⟩, ⟨⟨rfl, by simp⟩, trivial⟩, sameT (C := tokC) _, trivial⟩
end Go.AM
