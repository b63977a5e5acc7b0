import Derived.Test.YtppbbabmlammpaaDoorTT5
import Derived.Laws.RangeAny
set_option linter.unusedVariables false
set_option linter.unusedSimpArgs false
open Go Go.AM Go.Proofs
namespace Go.AM
set_option maxRecDepth 100000
def qRow : MSpec tokC := fun os cs ys => match os, cs with
  | [], [.ow 1 3 st len false] => some ((len = @List.length Tok ys - st ∧ st < @List.length Tok ys) ∧ TokOk ys, .tup [.agg [.sym .i64 (rowF ys st).e0, .sym .i64 (rowF ys st).e1, .sym .i64 (rowF ys st).e2], .one (.sym .i64 (rowF ys st).parts), .one (.sym .i64 (rowF ys st).fault)], [.ow 1 3 (rowF ys st).st (@List.length Tok ys - (rowF ys st).st) false])
  | _, _ => none
theorem hRow : HoldsS P 36 78 82 tokC qRow := by
  refine ⟨Tryd.f36, by kernel_rfl, by kernel_rfl, fun os cs ys p v cs2 hq hp hno => ?_⟩
  unfold qRow at hq
  split at hq
  · rename_i st len
    simp only [Option.some.injEq, Prod.mk.injEq] at hq
    obtain ⟨rfl, rfl, rfl⟩ := hq
    exact ⟨1000, annRow ys (rowF ys st), Y3 stdOn, _, rfl, pY3 stdOn, hno, fun _ _ h => h, ⟨row_run hp.1.1 hp.1.2 hp.2⟩⟩
  · cases hq
def Y4 (o : OnB) : Sums := (Y3 o).addSp 36 (stSpec 78 82 tokC qRow)
theorem pY4 (o : OnB) : OkS P (Y4 o) := (pY3 o).addSt fine hRow
def encL (r : Int) : List UInt8 := (Utf8.encode r).data.toList
def digR (r : Int) : Bool := decide (48 ≤ r) && decide (r ≤ 57)
def kindR (r : Int) : Int := if digR r = true then 110 else if r = 120 ∨ r = 121 ∨ r = 122 then 120 else if r = 43 ∨ r = 45 then 43 else if r = 44 ∨ r = 47 then r else 63
def addLast (l : List Tok) (u : List UInt8) : List Tok := l.set (l.length - 1) ⟨(tk l (l.length - 1)).kind, (tk l (l.length - 1)).text ++ u, (tk l (l.length - 1)).pos⟩
def stepT (l : List Tok) (op : Bool) (i : Int) (r : Int) : List Tok × Bool :=
  if digR r = true ∧ op = true then (addLast l (encL r), op)
  else if r = 32 then (l, digR r)
  else (l ++ [⟨kindR r, encL r, i⟩], digR r)
def toksP (s : List UInt8) : Nat → Nat → List Tok → Bool → List Tok
  | 0, _, l, _ => l
  | n + 1, pos, l, op => if pos < s.length then toksP s n (pos + (runeL s pos).2) (stepT l op pos (runeL s pos).1).1 (stepT l op pos (runeL s pos).1).2 else l
def toks (s : List UInt8) : List Tok := toksP s (s.length + 1) 0 [] false ++ [⟨46, [], s.length⟩]
structure TS where
  n : Nat
  pos : Nat
  l : List Tok
  op : Bool
def TSok (s : List UInt8) (R : List Tok) (x : TS) : Prop := toksP s x.n x.pos x.l x.op = R ∧ s.length - x.pos < x.n ∧ x.l.length ≤ x.pos ∧ (∀ t ∈ x.l, t.text.length ≤ x.pos + 4) ∧ (x.op = true → 0 < x.l.length) ∧ x.pos ≤ s.length + 4
def annTok (s : List UInt8) (R : List Tok) : Annos := ⟨0, fun id env h => if id = 4 then forceE (keepT [0, 2] 0 env) fun env => some ⟨{ x : TS // TSok s R x },
  fun x => (set (set (set env 3 (.v (.one (.ow 1 3 0 x.1.l.length false)))) 4 (.v (.one (.sb x.1.op)))) 10 (.v (.one (.ptr 0 0))), [.sit false s x.1.pos, .own 82 tokC x.1.l]),
  fun x => x.1.n⟩ else none, fun _ _ _ => []⟩
end Go.AM
