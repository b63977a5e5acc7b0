import Derived.Test.YtppbbabmlammpaaDoorPT2
set_option linter.unusedVariables false
set_option linter.unusedSimpArgs false
open Go Go.AM Go.Proofs
namespace Go.AM
open Dist
set_option maxRecDepth 100000
structure Rd where
  a : Int
  b : Int
  c : Int
  d : Int
  e : Int
  f : Int
  g : Int
  h : Int
  i : Int
  x : Int
  y : Int
  z : Int
  at' : Int
  err : Int
def rdZ (p e : Int) : Rd := ⟨0, 0, 0, 0, 0, 0, 0, 0, 0, 0, 0, 0, p, e⟩
def rdV (r : Rd) : Value := .tuple #[.agg #[.int .i64 r.a, .int .i64 r.b, .int .i64 r.c, .int .i64 r.d, .int .i64 r.e, .int .i64 r.f, .int .i64 r.g, .int .i64 r.h, .int .i64 r.i, .int .i64 r.x, .int .i64 r.y, .int .i64 r.z], .int .i64 r.at', .int .i64 r.err]
def rdS (r : Rd) : AV := .tup [.agg [.sym .i64 r.a, .sym .i64 r.b, .sym .i64 r.c, .sym .i64 r.d, .sym .i64 r.e, .sym .i64 r.f, .sym .i64 r.g, .sym .i64 r.h, .sym .i64 r.i, .sym .i64 r.x, .sym .i64 r.y, .sym .i64 r.z], .one (.sym .i64 r.at'), .one (.sym .i64 r.err)]
def madeR (a b c d e f g h i x y z : Int) : Rd :=
  ⟨mkO (matE a b c d e f g h i) a, mkO (matE a b c d e f g h i) b, mkO (matE a b c d e f g h i) c, mkO (matE a b c d e f g h i) d, mkO (matE a b c d e f g h i) e, mkO (matE a b c d e f g h i) f, mkO (matE a b c d e f g h i) g, mkO (matE a b c d e f g h i) h, mkO (matE a b c d e f g h i) i, mkO (matE a b c d e f g h i) (md24 x), mkO (matE a b c d e f g h i) (md24 y), mkO (matE a b c d e f g h i) (md24 z), 0, matE a b c d e f g h i⟩
def rowT (ys : List Tok) (r : RR) (k : Int) (next : Rd) : Rd := if 0 ≤ r.fault then rdZ r.fault 12 else if ¬ (tk ys r.st).kind = k then rdZ (tk ys r.st).pos 12 else next
def row0 (ys : List Tok) : RR := rowF ys 0
def row1 (ys : List Tok) : RR := rowF ys (nx ys (row0 ys).st)
def row2 (ys : List Tok) : RR := rowF ys (nx ys (row1 ys).st)
def readT (ys : List Tok) : Rd := rowT ys (row0 ys) 44 (rowT ys (row1 ys) 44 (rowT ys (row2 ys) 46 (madeR (row0 ys).e0 (row0 ys).e1 (row0 ys).e2 (row1 ys).e0 (row1 ys).e1 (row1 ys).e2 (row2 ys).e0 (row2 ys).e1 (row2 ys).e2 (row0 ys).parts (row1 ys).parts (row2 ys).parts)))
def readF (s : List UInt8) : Rd := if 65536 < s.length then rdZ 0 2 else readT (toks s)
def mdR (x : Int) : Int := (IntKind.i64.wrap (x.tmod 24 + 24)).tmod 24
def rfracT (ys : List Tok) : Int × Int × Int :=
  if ¬ (tk ys (sgN ys 0)).kind = 110 then (0, (tk ys (sgN ys 0)).pos, 12)
  else if 0 ≤ (frS ys (sgN ys 0) false).2.1 then (0, (frS ys (sgN ys 0) false).2.1, 12)
  else if ¬ (tk ys (frS ys (sgN ys 0) false).2.2).kind = 46 then (0, (tk ys (frS ys (sgN ys 0) false).2.2).pos, 12)
  else (mdR (sgV ys 0 * (frS ys (sgN ys 0) false).1), 0, 0)
def rfracF (s : List UInt8) : Int × Int × Int := if 65536 < s.length then (0, 0, 2) else rfracT (toks s)
def qRead : PSpec
  | [.v (.one (.str s))] => .ok (rdS (readF s))
  | _ => .fail
def qRFrac : PSpec
  | [.v (.one (.str s))] => .ok (.tup [.one (.sym .i64 (rfracF s).1), .one (.sym .i64 (rfracF s).2.1), .one (.sym .i64 (rfracF s).2.2)])
  | _ => .fail
theorem nfread (s : List UInt8) (K : KV) : call P (Y6 stdOn) noAnn 10000 Tryd.f14 [.v (.one (.str s))] [] K = ((decide ((65536 : Int) < (↑s.length : Int)) = true → K (AV.tup [PV.agg [SV.con IntKind.i64 (0 : Int), SV.con IntKind.i64 (0 : Int), SV.con IntKind.i64 (0 : Int), SV.con IntKind.i64 (0 : Int), SV.con IntKind.i64 (0 : Int), SV.con IntKind.i64 (0 : Int), SV.con IntKind.i64 (0 : Int), SV.con IntKind.i64 (0 : Int), SV.con IntKind.i64 (0 : Int), SV.con IntKind.i64 (0 : Int), SV.con IntKind.i64 (0 : Int), SV.con IntKind.i64 (0 : Int)], PV.one (SV.con IntKind.i64 (0 : Int)), PV.one (SV.con IntKind.i64 (2 : Int))]) []) ∧ (decide ((65536 : Int) < (↑s.length : Int)) = false → s.length.le (65536 : Nat) ∧ ∃ (z : List tokC.τ), SameRows tokC z tokC (toks s) ∧ (((toks s).length = z.length - (0 : Nat) ∧ (Nat.succ (0 : Nat)).le z.length) ∧ (∀ (i : Nat), (tk z i).kind = (110 : Int) → ((tk z i).text = [] → False) ∧ ∀ (b : UInt8), b ∈ (tk z i).text → Nat.le (48 : Nat) b.toNat ∧ b.toNat.le (57 : Nat)) ∧ (∀ (i : Nat), (tk z i).kind = (120 : Int) → (tk z i).text = [(120 : UInt8)] ∨ (tk z i).text = [(121 : UInt8)] ∨ (tk z i).text = [(122 : UInt8)]) ∧ (tk z (z.length - (1 : Nat))).kind = (46 : Int) ∧ z.length.le (4611686018427387904 : Nat)) ∧ (decide ((0 : Int) ≤ (rowF z (0 : Nat)).fault) = true → K (AV.tup [PV.agg [SV.con IntKind.i64 (0 : Int), SV.con IntKind.i64 (0 : Int), SV.con IntKind.i64 (0 : Int), SV.con IntKind.i64 (0 : Int), SV.con IntKind.i64 (0 : Int), SV.con IntKind.i64 (0 : Int), SV.con IntKind.i64 (0 : Int), SV.con IntKind.i64 (0 : Int), SV.con IntKind.i64 (0 : Int), SV.con IntKind.i64 (0 : Int), SV.con IntKind.i64 (0 : Int), SV.con IntKind.i64 (0 : Int)], PV.one (SV.sym IntKind.i64 (rowF z (0 : Nat)).fault), PV.one (SV.con IntKind.i64 (12 : Int))]) []) ∧ (decide ((0 : Int) ≤ (rowF z (0 : Nat)).fault) = false → ∃ (z_1 : List tokC.τ), SameRows tokC z_1 tokC (toks s) ∧ (z.length - (rowF z (0 : Nat)).st = z_1.length - (rowF z (0 : Nat)).st ∧ (rowF z (0 : Nat)).st.succ.le z_1.length ∧ z_1.length.le (4611686018427387904 : Nat)) ∧ ((!decide ((tk z_1 (rowF z (0 : Nat)).st).kind = (44 : Int))) = true → K (AV.tup [PV.agg [SV.con IntKind.i64 (0 : Int), SV.con IntKind.i64 (0 : Int), SV.con IntKind.i64 (0 : Int), SV.con IntKind.i64 (0 : Int), SV.con IntKind.i64 (0 : Int), SV.con IntKind.i64 (0 : Int), SV.con IntKind.i64 (0 : Int), SV.con IntKind.i64 (0 : Int), SV.con IntKind.i64 (0 : Int), SV.con IntKind.i64 (0 : Int), SV.con IntKind.i64 (0 : Int), SV.con IntKind.i64 (0 : Int)], PV.one (SV.sym IntKind.i64 (tk z_1 (rowF z (0 : Nat)).st).pos), PV.one (SV.con IntKind.i64 (12 : Int))]) []) ∧ ((!decide ((tk z_1 (rowF z (0 : Nat)).st).kind = (44 : Int))) = false → ∃ (z_2 : List tokC.τ), SameRows tokC z_2 tokC (toks s) ∧ ((z_1.length - nx z_1 (rowF z (0 : Nat)).st = z_2.length - nx z_1 (rowF z (0 : Nat)).st ∧ (nx z_1 (rowF z (0 : Nat)).st).succ.le z_2.length) ∧ (∀ (i : Nat), (tk z_2 i).kind = (110 : Int) → ((tk z_2 i).text = [] → False) ∧ ∀ (b : UInt8), b ∈ (tk z_2 i).text → Nat.le (48 : Nat) b.toNat ∧ b.toNat.le (57 : Nat)) ∧ (∀ (i : Nat), (tk z_2 i).kind = (120 : Int) → (tk z_2 i).text = [(120 : UInt8)] ∨ (tk z_2 i).text = [(121 : UInt8)] ∨ (tk z_2 i).text = [(122 : UInt8)]) ∧ (tk z_2 (z_2.length - (1 : Nat))).kind = (46 : Int) ∧ z_2.length.le (4611686018427387904 : Nat)) ∧ (decide ((0 : Int) ≤ (rowF z_2 (nx z_1 (rowF z (0 : Nat)).st)).fault) = true → K (AV.tup [PV.agg [SV.con IntKind.i64 (0 : Int), SV.con IntKind.i64 (0 : Int), SV.con IntKind.i64 (0 : Int), SV.con IntKind.i64 (0 : Int), SV.con IntKind.i64 (0 : Int), SV.con IntKind.i64 (0 : Int), SV.con IntKind.i64 (0 : Int), SV.con IntKind.i64 (0 : Int), SV.con IntKind.i64 (0 : Int), SV.con IntKind.i64 (0 : Int), SV.con IntKind.i64 (0 : Int), SV.con IntKind.i64 (0 : Int)], PV.one (SV.sym IntKind.i64 (rowF z_2 (nx z_1 (rowF z (0 : Nat)).st)).fault), PV.one (SV.con IntKind.i64 (12 : Int))]) []) ∧ (decide ((0 : Int) ≤ (rowF z_2 (nx z_1 (rowF z (0 : Nat)).st)).fault) = false → ∃ (z_3 : List tokC.τ), SameRows tokC z_3 tokC (toks s) ∧ (z_2.length - (rowF z_2 (nx z_1 (rowF z (0 : Nat)).st)).st = z_3.length - (rowF z_2 (nx z_1 (rowF z (0 : Nat)).st)).st ∧ (rowF z_2 (nx z_1 (rowF z (0 : Nat)).st)).st.succ.le z_3.length ∧ z_3.length.le (4611686018427387904 : Nat)) ∧ ((!decide ((tk z_3 (rowF z_2 (nx z_1 (rowF z (0 : Nat)).st)).st).kind = (44 : Int))) = true → K (AV.tup [PV.agg [SV.con IntKind.i64 (0 : Int), SV.con IntKind.i64 (0 : Int), SV.con IntKind.i64 (0 : Int), SV.con IntKind.i64 (0 : Int), SV.con IntKind.i64 (0 : Int), SV.con IntKind.i64 (0 : Int), SV.con IntKind.i64 (0 : Int), SV.con IntKind.i64 (0 : Int), SV.con IntKind.i64 (0 : Int), SV.con IntKind.i64 (0 : Int), SV.con IntKind.i64 (0 : Int), SV.con IntKind.i64 (0 : Int)], PV.one (SV.sym IntKind.i64 (tk z_3 (rowF z_2 (nx z_1 (rowF z (0 : Nat)).st)).st).pos), PV.one (SV.con IntKind.i64 (12 : Int))]) []) ∧ ((!decide ((tk z_3 (rowF z_2 (nx z_1 (rowF z (0 : Nat)).st)).st).kind = (44 : Int))) = false → ∃ (z_4 : List tokC.τ), SameRows tokC z_4 tokC (toks s) ∧ ((z_3.length - nx z_3 (rowF z_2 (nx z_1 (rowF z (0 : Nat)).st)).st = z_4.length - nx z_3 (rowF z_2 (nx z_1 (rowF z (0 : Nat)).st)).st ∧ (nx z_3 (rowF z_2 (nx z_1 (rowF z (0 : Nat)).st)).st).succ.le z_4.length) ∧ (∀ (i : Nat), (tk z_4 i).kind = (110 : Int) → ((tk z_4 i).text = [] → False) ∧ ∀ (b : UInt8), b ∈ (tk z_4 i).text → Nat.le (48 : Nat) b.toNat ∧ b.toNat.le (57 : Nat)) ∧ (∀ (i : Nat), (tk z_4 i).kind = (120 : Int) → (tk z_4 i).text = [(120 : UInt8)] ∨ (tk z_4 i).text = [(121 : UInt8)] ∨ (tk z_4 i).text = [(122 : UInt8)]) ∧ (tk z_4 (z_4.length - (1 : Nat))).kind = (46 : Int) ∧ z_4.length.le (4611686018427387904 : Nat)) ∧ (decide ((0 : Int) ≤ (rowF z_4 (nx z_3 (rowF z_2 (nx z_1 (rowF z (0 : Nat)).st)).st)).fault) = true → K (AV.tup [PV.agg [SV.con IntKind.i64 (0 : Int), SV.con IntKind.i64 (0 : Int), SV.con IntKind.i64 (0 : Int), SV.con IntKind.i64 (0 : Int), SV.con IntKind.i64 (0 : Int), SV.con IntKind.i64 (0 : Int), SV.con IntKind.i64 (0 : Int), SV.con IntKind.i64 (0 : Int), SV.con IntKind.i64 (0 : Int), SV.con IntKind.i64 (0 : Int), SV.con IntKind.i64 (0 : Int), SV.con IntKind.i64 (0 : Int)], PV.one (SV.sym IntKind.i64 (rowF z_4 (nx z_3 (rowF z_2 (nx z_1 (rowF z (0 : Nat)).st)).st)).fault), PV.one (SV.con IntKind.i64 (12 : Int))]) []) ∧ (decide ((0 : Int) ≤ (rowF z_4 (nx z_3 (rowF z_2 (nx z_1 (rowF z (0 : Nat)).st)).st)).fault) = false → ∃ (z_5 : List tokC.τ), SameRows tokC z_5 tokC (toks s) ∧ (z_4.length - (rowF z_4 (nx z_3 (rowF z_2 (nx z_1 (rowF z (0 : Nat)).st)).st)).st = z_5.length - (rowF z_4 (nx z_3 (rowF z_2 (nx z_1 (rowF z (0 : Nat)).st)).st)).st ∧ (rowF z_4 (nx z_3 (rowF z_2 (nx z_1 (rowF z (0 : Nat)).st)).st)).st.succ.le z_5.length ∧ z_5.length.le (4611686018427387904 : Nat)) ∧ ((!decide ((tk z_5 (rowF z_4 (nx z_3 (rowF z_2 (nx z_1 (rowF z (0 : Nat)).st)).st)).st).kind = (46 : Int))) = true → K (AV.tup [PV.agg [SV.con IntKind.i64 (0 : Int), SV.con IntKind.i64 (0 : Int), SV.con IntKind.i64 (0 : Int), SV.con IntKind.i64 (0 : Int), SV.con IntKind.i64 (0 : Int), SV.con IntKind.i64 (0 : Int), SV.con IntKind.i64 (0 : Int), SV.con IntKind.i64 (0 : Int), SV.con IntKind.i64 (0 : Int), SV.con IntKind.i64 (0 : Int), SV.con IntKind.i64 (0 : Int), SV.con IntKind.i64 (0 : Int)], PV.one (SV.sym IntKind.i64 (tk z_5 (rowF z_4 (nx z_3 (rowF z_2 (nx z_1 (rowF z (0 : Nat)).st)).st)).st).pos), PV.one (SV.con IntKind.i64 (12 : Int))]) []) ∧ ((!decide ((tk z_5 (rowF z_4 (nx z_3 (rowF z_2 (nx z_1 (rowF z (0 : Nat)).st)).st)).st).kind = (46 : Int))) = false → K (AV.tup [PV.agg [SV.sym IntKind.i64 (mkO (matE (rowF z (0 : Nat)).e0 (rowF z (0 : Nat)).e1 (rowF z (0 : Nat)).e2 (rowF z_2 (nx z_1 (rowF z (0 : Nat)).st)).e0 (rowF z_2 (nx z_1 (rowF z (0 : Nat)).st)).e1 (rowF z_2 (nx z_1 (rowF z (0 : Nat)).st)).e2 (rowF z_4 (nx z_3 (rowF z_2 (nx z_1 (rowF z (0 : Nat)).st)).st)).e0 (rowF z_4 (nx z_3 (rowF z_2 (nx z_1 (rowF z (0 : Nat)).st)).st)).e1 (rowF z_4 (nx z_3 (rowF z_2 (nx z_1 (rowF z (0 : Nat)).st)).st)).e2) (rowF z (0 : Nat)).e0), SV.sym IntKind.i64 (mkO (matE (rowF z (0 : Nat)).e0 (rowF z (0 : Nat)).e1 (rowF z (0 : Nat)).e2 (rowF z_2 (nx z_1 (rowF z (0 : Nat)).st)).e0 (rowF z_2 (nx z_1 (rowF z (0 : Nat)).st)).e1 (rowF z_2 (nx z_1 (rowF z (0 : Nat)).st)).e2 (rowF z_4 (nx z_3 (rowF z_2 (nx z_1 (rowF z (0 : Nat)).st)).st)).e0 (rowF z_4 (nx z_3 (rowF z_2 (nx z_1 (rowF z (0 : Nat)).st)).st)).e1 (rowF z_4 (nx z_3 (rowF z_2 (nx z_1 (rowF z (0 : Nat)).st)).st)).e2) (rowF z (0 : Nat)).e1), SV.sym IntKind.i64 (mkO (matE (rowF z (0 : Nat)).e0 (rowF z (0 : Nat)).e1 (rowF z (0 : Nat)).e2 (rowF z_2 (nx z_1 (rowF z (0 : Nat)).st)).e0 (rowF z_2 (nx z_1 (rowF z (0 : Nat)).st)).e1 (rowF z_2 (nx z_1 (rowF z (0 : Nat)).st)).e2 (rowF z_4 (nx z_3 (rowF z_2 (nx z_1 (rowF z (0 : Nat)).st)).st)).e0 (rowF z_4 (nx z_3 (rowF z_2 (nx z_1 (rowF z (0 : Nat)).st)).st)).e1 (rowF z_4 (nx z_3 (rowF z_2 (nx z_1 (rowF z (0 : Nat)).st)).st)).e2) (rowF z (0 : Nat)).e2), SV.sym IntKind.i64 (mkO (matE (rowF z (0 : Nat)).e0 (rowF z (0 : Nat)).e1 (rowF z (0 : Nat)).e2 (rowF z_2 (nx z_1 (rowF z (0 : Nat)).st)).e0 (rowF z_2 (nx z_1 (rowF z (0 : Nat)).st)).e1 (rowF z_2 (nx z_1 (rowF z (0 : Nat)).st)).e2 (rowF z_4 (nx z_3 (rowF z_2 (nx z_1 (rowF z (0 : Nat)).st)).st)).e0 (rowF z_4 (nx z_3 (rowF z_2 (nx z_1 (rowF z (0 : Nat)).st)).st)).e1 (rowF z_4 (nx z_3 (rowF z_2 (nx z_1 (rowF z (0 : Nat)).st)).st)).e2) (rowF z_2 (nx z_1 (rowF z (0 : Nat)).st)).e0), SV.sym IntKind.i64 (mkO (matE (rowF z (0 : Nat)).e0 (rowF z (0 : Nat)).e1 (rowF z (0 : Nat)).e2 (rowF z_2 (nx z_1 (rowF z (0 : Nat)).st)).e0 (rowF z_2 (nx z_1 (rowF z (0 : Nat)).st)).e1 (rowF z_2 (nx z_1 (rowF z (0 : Nat)).st)).e2 (rowF z_4 (nx z_3 (rowF z_2 (nx z_1 (rowF z (0 : Nat)).st)).st)).e0 (rowF z_4 (nx z_3 (rowF z_2 (nx z_1 (rowF z (0 : Nat)).st)).st)).e1 (rowF z_4 (nx z_3 (rowF z_2 (nx z_1 (rowF z (0 : Nat)).st)).st)).e2) (rowF z_2 (nx z_1 (rowF z (0 : Nat)).st)).e1), SV.sym IntKind.i64 (mkO (matE (rowF z (0 : Nat)).e0 (rowF z (0 : Nat)).e1 (rowF z (0 : Nat)).e2 (rowF z_2 (nx z_1 (rowF z (0 : Nat)).st)).e0 (rowF z_2 (nx z_1 (rowF z (0 : Nat)).st)).e1 (rowF z_2 (nx z_1 (rowF z (0 : Nat)).st)).e2 (rowF z_4 (nx z_3 (rowF z_2 (nx z_1 (rowF z (0 : Nat)).st)).st)).e0 (rowF z_4 (nx z_3 (rowF z_2 (nx z_1 (rowF z (0 : Nat)).st)).st)).e1 (rowF z_4 (nx z_3 (rowF z_2 (nx z_1 (rowF z (0 : Nat)).st)).st)).e2) (rowF z_2 (nx z_1 (rowF z (0 : Nat)).st)).e2), SV.sym IntKind.i64 (mkO (matE (rowF z (0 : Nat)).e0 (rowF z (0 : Nat)).e1 (rowF z (0 : Nat)).e2 (rowF z_2 (nx z_1 (rowF z (0 : Nat)).st)).e0 (rowF z_2 (nx z_1 (rowF z (0 : Nat)).st)).e1 (rowF z_2 (nx z_1 (rowF z (0 : Nat)).st)).e2 (rowF z_4 (nx z_3 (rowF z_2 (nx z_1 (rowF z (0 : Nat)).st)).st)).e0 (rowF z_4 (nx z_3 (rowF z_2 (nx z_1 (rowF z (0 : Nat)).st)).st)).e1 (rowF z_4 (nx z_3 (rowF z_2 (nx z_1 (rowF z (0 : Nat)).st)).st)).e2) (rowF z_4 (nx z_3 (rowF z_2 (nx z_1 (rowF z (0 : Nat)).st)).st)).e0), SV.sym IntKind.i64 (mkO (matE (rowF z (0 : Nat)).e0 (rowF z (0 : Nat)).e1 (rowF z (0 : Nat)).e2 (rowF z_2 (nx z_1 (rowF z (0 : Nat)).st)).e0 (rowF z_2 (nx z_1 (rowF z (0 : Nat)).st)).e1 (rowF z_2 (nx z_1 (rowF z (0 : Nat)).st)).e2 (rowF z_4 (nx z_3 (rowF z_2 (nx z_1 (rowF z (0 : Nat)).st)).st)).e0 (rowF z_4 (nx z_3 (rowF z_2 (nx z_1 (rowF z (0 : Nat)).st)).st)).e1 (rowF z_4 (nx z_3 (rowF z_2 (nx z_1 (rowF z (0 : Nat)).st)).st)).e2) (rowF z_4 (nx z_3 (rowF z_2 (nx z_1 (rowF z (0 : Nat)).st)).st)).e1), SV.sym IntKind.i64 (mkO (matE (rowF z (0 : Nat)).e0 (rowF z (0 : Nat)).e1 (rowF z (0 : Nat)).e2 (rowF z_2 (nx z_1 (rowF z (0 : Nat)).st)).e0 (rowF z_2 (nx z_1 (rowF z (0 : Nat)).st)).e1 (rowF z_2 (nx z_1 (rowF z (0 : Nat)).st)).e2 (rowF z_4 (nx z_3 (rowF z_2 (nx z_1 (rowF z (0 : Nat)).st)).st)).e0 (rowF z_4 (nx z_3 (rowF z_2 (nx z_1 (rowF z (0 : Nat)).st)).st)).e1 (rowF z_4 (nx z_3 (rowF z_2 (nx z_1 (rowF z (0 : Nat)).st)).st)).e2) (rowF z_4 (nx z_3 (rowF z_2 (nx z_1 (rowF z (0 : Nat)).st)).st)).e2), SV.sym IntKind.i64 (mkO (matE (rowF z (0 : Nat)).e0 (rowF z (0 : Nat)).e1 (rowF z (0 : Nat)).e2 (rowF z_2 (nx z_1 (rowF z (0 : Nat)).st)).e0 (rowF z_2 (nx z_1 (rowF z (0 : Nat)).st)).e1 (rowF z_2 (nx z_1 (rowF z (0 : Nat)).st)).e2 (rowF z_4 (nx z_3 (rowF z_2 (nx z_1 (rowF z (0 : Nat)).st)).st)).e0 (rowF z_4 (nx z_3 (rowF z_2 (nx z_1 (rowF z (0 : Nat)).st)).st)).e1 (rowF z_4 (nx z_3 (rowF z_2 (nx z_1 (rowF z (0 : Nat)).st)).st)).e2) (md24 (rowF z (0 : Nat)).parts)), SV.sym IntKind.i64 (mkO (matE (rowF z (0 : Nat)).e0 (rowF z (0 : Nat)).e1 (rowF z (0 : Nat)).e2 (rowF z_2 (nx z_1 (rowF z (0 : Nat)).st)).e0 (rowF z_2 (nx z_1 (rowF z (0 : Nat)).st)).e1 (rowF z_2 (nx z_1 (rowF z (0 : Nat)).st)).e2 (rowF z_4 (nx z_3 (rowF z_2 (nx z_1 (rowF z (0 : Nat)).st)).st)).e0 (rowF z_4 (nx z_3 (rowF z_2 (nx z_1 (rowF z (0 : Nat)).st)).st)).e1 (rowF z_4 (nx z_3 (rowF z_2 (nx z_1 (rowF z (0 : Nat)).st)).st)).e2) (md24 (rowF z_2 (nx z_1 (rowF z (0 : Nat)).st)).parts)), SV.sym IntKind.i64 (mkO (matE (rowF z (0 : Nat)).e0 (rowF z (0 : Nat)).e1 (rowF z (0 : Nat)).e2 (rowF z_2 (nx z_1 (rowF z (0 : Nat)).st)).e0 (rowF z_2 (nx z_1 (rowF z (0 : Nat)).st)).e1 (rowF z_2 (nx z_1 (rowF z (0 : Nat)).st)).e2 (rowF z_4 (nx z_3 (rowF z_2 (nx z_1 (rowF z (0 : Nat)).st)).st)).e0 (rowF z_4 (nx z_3 (rowF z_2 (nx z_1 (rowF z (0 : Nat)).st)).st)).e1 (rowF z_4 (nx z_3 (rowF z_2 (nx z_1 (rowF z (0 : Nat)).st)).st)).e2) (md24 (rowF z_4 (nx z_3 (rowF z_2 (nx z_1 (rowF z (0 : Nat)).st)).st)).parts))], PV.one (SV.con IntKind.i64 (0 : Int)), PV.one (SV.sym IntKind.i64 (matE (rowF z (0 : Nat)).e0 (rowF z (0 : Nat)).e1 (rowF z (0 : Nat)).e2 (rowF z_2 (nx z_1 (rowF z (0 : Nat)).st)).e0 (rowF z_2 (nx z_1 (rowF z (0 : Nat)).st)).e1 (rowF z_2 (nx z_1 (rowF z (0 : Nat)).st)).e2 (rowF z_4 (nx z_3 (rowF z_2 (nx z_1 (rowF z (0 : Nat)).st)).st)).e0 (rowF z_4 (nx z_3 (rowF z_2 (nx z_1 (rowF z (0 : Nat)).st)).st)).e1 (rowF z_4 (nx z_3 (rowF z_2 (nx z_1 (rowF z (0 : Nat)).st)).st)).e2))]) [])))))))) := by kernel_rfl
theorem nfrfrac (s : List UInt8) (K : KV) : call P (Y6 stdOn) noAnn 10000 Tryd.f16 [.v (.one (.str s))] [] K = ((decide ((65536 : Int) < (↑s.length : Int)) = true → K (AV.tup [PV.one (SV.con IntKind.i64 (0 : Int)), PV.one (SV.con IntKind.i64 (0 : Int)), PV.one (SV.con IntKind.i64 (2 : Int))]) []) ∧ (decide ((65536 : Int) < (↑s.length : Int)) = false → s.length.le (65536 : Nat) ∧ ∃ (z : List tokC.τ), SameRows tokC z tokC (toks s) ∧ ((toks s).length = z.length - (0 : Nat) ∧ (Nat.succ (0 : Nat)).le z.length ∧ z.length.le (4611686018427387904 : Nat)) ∧ ∃ (z_1 : List tokC.τ), SameRows tokC z_1 tokC (toks s) ∧ (z.length - sgN z (0 : Nat) = z_1.length - sgN z (0 : Nat) ∧ (sgN z (0 : Nat)).succ.le z_1.length ∧ z_1.length.le (4611686018427387904 : Nat)) ∧ ((!decide ((tk z_1 (sgN z (0 : Nat))).kind = (110 : Int))) = true → ((0 : Int) ≤ (0 : Int) ∧ (0 : Int) < (↑(z_1.length - sgN z (0 : Nat)) : Int)) ∧ (sgN z (0 : Nat) + Int.toNat (0 : Int)).succ.le (toks s).length ∧ K (AV.tup [PV.one (SV.con IntKind.i64 (0 : Int)), PV.one (SV.sym IntKind.i64 ((toks s).getD (sgN z (0 : Nat) + Int.toNat (0 : Int)) tokC.d).pos), PV.one (SV.con IntKind.i64 (12 : Int))]) []) ∧ ((!decide ((tk z_1 (sgN z (0 : Nat))).kind = (110 : Int))) = false → ∃ (z_2 : List tokC.τ), SameRows tokC z_2 tokC (toks s) ∧ ((z_1.length - sgN z (0 : Nat) = z_2.length - sgN z (0 : Nat) ∧ (sgN z (0 : Nat)).succ.le z_2.length ∧ z_2.length.le (4611686018427387904 : Nat)) ∧ (tk z_2 (sgN z (0 : Nat))).kind = (110 : Int) ∧ ∀ (i : Nat), (tk z_2 i).kind = (110 : Int) → ((tk z_2 i).text = [] → False) ∧ ∀ (b : UInt8), b ∈ (tk z_2 i).text → Nat.le (48 : Nat) b.toNat ∧ b.toNat.le (57 : Nat)) ∧ (decide ((0 : Int) ≤ (frS z_2 (sgN z (0 : Nat)) false).snd.fst) = true → K (AV.tup [PV.one (SV.con IntKind.i64 (0 : Int)), PV.one (SV.sym IntKind.i64 (frS z_2 (sgN z (0 : Nat)) false).snd.fst), PV.one (SV.con IntKind.i64 (12 : Int))]) []) ∧ (decide ((0 : Int) ≤ (frS z_2 (sgN z (0 : Nat)) false).snd.fst) = false → ∃ (z_3 : List tokC.τ), SameRows tokC z_3 tokC (toks s) ∧ (z_2.length - (frS z_2 (sgN z (0 : Nat)) false).snd.snd = z_3.length - (frS z_2 (sgN z (0 : Nat)) false).snd.snd ∧ (frS z_2 (sgN z (0 : Nat)) false).snd.snd.succ.le z_3.length ∧ z_3.length.le (4611686018427387904 : Nat)) ∧ ((!decide ((tk z_3 (frS z_2 (sgN z (0 : Nat)) false).snd.snd).kind = (46 : Int))) = true → K (AV.tup [PV.one (SV.con IntKind.i64 (0 : Int)), PV.one (SV.sym IntKind.i64 (tk z_3 (frS z_2 (sgN z (0 : Nat)) false).snd.snd).pos), PV.one (SV.con IntKind.i64 (12 : Int))]) []) ∧ ((!decide ((tk z_3 (frS z_2 (sgN z (0 : Nat)) false).snd.snd).kind = (46 : Int))) = false → K (AV.tup [PV.one (SV.sym IntKind.i64 ((IntKind.i64.wrap ((IntKind.i64.wrap (sgV z (0 : Nat) * (frS z_2 (sgN z (0 : Nat)) false).fst)).tmod (24 : Int) + (24 : Int))).tmod (24 : Int))), PV.one (SV.con IntKind.i64 (0 : Int)), PV.one (SV.con IntKind.i64 (0 : Int))]) []))))) := by kernel_rfl
theorem letP_lt {ys : List Tok} {x : RS} {sk : Int} {q : Nat} (hq : q < ys.length) : match letP ys x sk q with | .inl y => y.st < ys.length | .inr r => r.st < ys.length := by
  have h := nx_lt hq
  unfold letP
  by_cases c0 : (tk ys q).text = [120]
  · rw [if_pos c0]
    by_cases d : x.s0 = true
    · rw [if_pos d]; exact h
    · rw [if_neg d]; exact h
  · rw [if_neg c0]
    by_cases c1 : (tk ys q).text = [121]
    · rw [if_pos c1]
      by_cases d : x.s1 = true
      · rw [if_pos d]; exact h
      · rw [if_neg d]; exact h
    · rw [if_neg c1]
      by_cases d : x.s2 = true
      · rw [if_pos d]; exact h
      · rw [if_neg d]; exact h
theorem stepR_lt {ys : List Tok} {x : RS} (hs : x.st < ys.length) : match stepR ys x with | .inl y => y.st < ys.length | .inr r => r.st < ys.length := by
  have k0 := (sgN_lt hs).1
  have k1 := nx_lt k0
  have k2 := frS_lt k0 x.again
  by_cases c1 : x.first = false ∧ sgB ys x.st = false
  · rw [stepR, if_pos c1]; exact k0
  · rw [stepR, if_neg c1]
    by_cases c2 : (tk ys (sgN ys x.st)).kind = 110 ∧ (tk ys (nx ys (sgN ys x.st))).kind = 120
    · rw [if_pos c2]
      by_cases c3 : numV (tk ys (sgN ys x.st)).text 1000 < 1
      · rw [if_pos c3]; exact k1
      · rw [if_neg c3]; exact letP_lt k1
    · rw [if_neg c2]
      by_cases c4 : (tk ys (sgN ys x.st)).kind = 120
      · rw [if_pos c4]; exact letP_lt k0
      · rw [if_neg c4]
        by_cases c5 : (tk ys (sgN ys x.st)).kind = 110
        · rw [if_pos c5]
          by_cases c7 : 0 ≤ (frS ys (sgN ys x.st) x.again).2.1
          · rw [if_pos c7]; exact k2
          · rw [if_neg c7]; exact k2
        · rw [if_neg c5]; exact k0
theorem rowR_lt {ys : List Tok} : ∀ (n : Nat) (x : RS), x.st < ys.length → (rowR ys n x).st < ys.length
  | 0, x, h => h
  | n + 1, x, h => by
    have hs := stepR_lt h
    unfold rowR
    split
    · rename_i r he
      rw [he] at hs
      exact hs
    · rename_i y he
      rw [he] at hs
      exact rowR_lt n y hs
theorem rowF_lt {ys : List Tok} {st : Nat} (h : st < ys.length) : (rowF ys st).st < ys.length := rowR_lt _ _ h
theorem hRead : Holds P (Y6 stdOn) 14 qRead := by
  refine holdsA (fn := Tryd.f14) noAnn 10000 rfl (by kernel_rfl) (by kernel_rfl) fun args av hg => ?_
  unfold qRead at hg
  split at hg
  · rename_i s
    rw [gives_ok hg]
    refine ⟨rfl, rdV (readF s), rfl, ?_⟩
    rw [nfread]
    refine ⟨fun hl => ?_, fun hl => ?_⟩
    · rw [show readF s = rdZ 0 2 from if_pos (by have := of_decide_eq_true hl; omega)]
      exact ⟨rfl, rfl⟩
    · have hs : s.length ≤ 65536 := by have := of_decide_eq_false hl; omega
      have e : readF s = readT (toks s) := if_neg (by omega)
      rw [e]
      have hok := toks_ok hs
      have h0 := toks_len s
      generalize toks s = ys at *
      have k0 : (row0 ys).st < ys.length := rowF_lt h0
      have k1 := nx_lt k0
      have k2 : (row1 ys).st < ys.length := rowF_lt k1
      have k3 := nx_lt k2
      have k4 : (row2 ys).st < ys.length := rowF_lt k3
      have hb := hok.2.2.2
      refine ⟨hs, ys, sameT (C := tokC) ys, ⟨⟨rfl, h0⟩, hok⟩, fun f0 => ?_, fun f0 => ⟨ys, sameT (C := tokC) ys, ⟨rfl, k0, hb⟩, fun c0 => ?_, fun c0 => ⟨ys, sameT (C := tokC) ys, ⟨⟨rfl, k1⟩, hok⟩, fun f1 => ?_, fun f1 => ⟨ys, sameT (C := tokC) ys, ⟨rfl, k2, hb⟩, fun c1 => ?_, fun c1 => ⟨ys, sameT (C := tokC) ys, ⟨⟨rfl, k3⟩, hok⟩, fun f2 => ?_, fun f2 => ⟨ys, sameT (C := tokC) ys, ⟨rfl, k4, hb⟩, fun c2 => ?_, fun c2 => ?_⟩⟩⟩⟩⟩⟩
      · rw [show readT ys = rdZ (row0 ys).fault 12 from if_pos (of_decide_eq_true f0)]
        exact ⟨rfl, rfl⟩
      · rw [show readT ys = rdZ (tk ys (row0 ys).st).pos 12 from (if_neg (of_decide_eq_false f0)).trans (if_pos (by simpa [row0] using c0))]
        exact ⟨rfl, rfl⟩
      · rw [show readT ys = rdZ (row1 ys).fault 12 from (if_neg (of_decide_eq_false f0)).trans ((if_neg (by simpa [row0] using c0)).trans (if_pos (of_decide_eq_true f1)))]
        exact ⟨rfl, rfl⟩
      · rw [show readT ys = rdZ (tk ys (row1 ys).st).pos 12 from (if_neg (of_decide_eq_false f0)).trans ((if_neg (by simpa [row0] using c0)).trans ((if_neg (of_decide_eq_false f1)).trans (if_pos (by simpa [row1, row0] using c1))))]
        exact ⟨rfl, rfl⟩
      · rw [show readT ys = rdZ (row2 ys).fault 12 from (if_neg (of_decide_eq_false f0)).trans ((if_neg (by simpa [row0] using c0)).trans ((if_neg (of_decide_eq_false f1)).trans ((if_neg (by simpa [row1, row0] using c1)).trans (if_pos (of_decide_eq_true f2)))))]
        exact ⟨rfl, rfl⟩
      · rw [show readT ys = rdZ (tk ys (row2 ys).st).pos 12 from (if_neg (of_decide_eq_false f0)).trans ((if_neg (by simpa [row0] using c0)).trans ((if_neg (of_decide_eq_false f1)).trans ((if_neg (by simpa [row1, row0] using c1)).trans ((if_neg (of_decide_eq_false f2)).trans (if_pos (by simpa [row2, row1, row0] using c2))))))]
        exact ⟨rfl, rfl⟩
      · rw [show readT ys = madeR (row0 ys).e0 (row0 ys).e1 (row0 ys).e2 (row1 ys).e0 (row1 ys).e1 (row1 ys).e2 (row2 ys).e0 (row2 ys).e1 (row2 ys).e2 (row0 ys).parts (row1 ys).parts (row2 ys).parts from (if_neg (of_decide_eq_false f0)).trans ((if_neg (by simpa [row0] using c0)).trans ((if_neg (of_decide_eq_false f1)).trans ((if_neg (by simpa [row1, row0] using c1)).trans ((if_neg (of_decide_eq_false f2)).trans (if_neg (by simpa [row2, row1, row0] using c2))))))]
        exact ⟨rfl, rfl⟩
  · exact (gives_fail hg).elim
def rfV (r : Int × Int × Int) : Value := .tuple #[.int .i64 r.1, .int .i64 r.2.1, .int .i64 r.2.2]
theorem hRFrac : Holds P (Y6 stdOn) 16 qRFrac := by
  refine holdsA (fn := Tryd.f16) noAnn 10000 rfl (by kernel_rfl) (by kernel_rfl) fun args av hg => ?_
  unfold qRFrac at hg
  split at hg
  · rename_i s
    rw [gives_ok hg]
    refine ⟨rfl, rfV (rfracF s), rfl, ?_⟩
    rw [nfrfrac]
    refine ⟨fun hl => ?_, fun hl => ?_⟩
    · rw [show rfracF s = (0, 0, 2) from if_pos (by have := of_decide_eq_true hl; omega)]
      exact ⟨rfl, rfl⟩
    · have hs : s.length ≤ 65536 := by have := of_decide_eq_false hl; omega
      have e : rfracF s = rfracT (toks s) := if_neg (by omega)
      rw [e]
      have hok := toks_ok hs
      have h0 := toks_len s
      generalize toks s = ys at *
      have k0 := (sgN_lt h0).1
      have k1 := frS_lt k0 false
      have hb := hok.2.2.2
      refine ⟨hs, ys, sameT (C := tokC) ys, ⟨rfl, h0, hb⟩, ys, sameT (C := tokC) ys, ⟨rfl, k0, hb⟩, fun c0 => ⟨⟨Int.le_refl _, by show (0 : Int) < ((ys.length - sgN ys 0 : Nat) : Int); omega⟩, k0, ?_⟩, fun c0 => ⟨ys, sameT (C := tokC) ys, ⟨⟨rfl, k0, hb⟩, by simpa using c0, hok.1⟩, fun f0 => ?_, fun f0 => ⟨ys, sameT (C := tokC) ys, ⟨rfl, k1, hb⟩, fun c1 => ?_, fun c1 => ?_⟩⟩⟩
      · rw [show rfracT ys = (0, (tk ys (sgN ys 0)).pos, 12) from if_pos (by simpa using c0)]
        exact ⟨rfl, rfl⟩
      · rw [show rfracT ys = (0, (frS ys (sgN ys 0) false).2.1, 12) from (if_neg (by simpa using c0)).trans (if_pos (of_decide_eq_true f0))]
        exact ⟨rfl, rfl⟩
      · rw [show rfracT ys = (0, (tk ys (frS ys (sgN ys 0) false).2.2).pos, 12) from (if_neg (by simpa using c0)).trans ((if_neg (of_decide_eq_false f0)).trans (if_pos (by simpa using c1)))]
        exact ⟨rfl, rfl⟩
      · have hfb := frS_bd (again := false) hok.1 (show (tk ys (sgN ys 0)).kind = 110 by simpa using c0)
        have sgb : sgV ys 0 = 1 ∨ sgV ys 0 = -1 := by unfold sgV; split <;> simp
        have hw : IntKind.i64.wrap (sgV ys 0 * (frS ys (sgN ys 0) false).1) = sgV ys 0 * (frS ys (sgN ys 0) false).1 := by
          rcases sgb with h | h <;> rw [h] <;> exact wr_id (by omega) (by omega)
        rw [hw]
        rw [show rfracT ys = (mdR (sgV ys 0 * (frS ys (sgN ys 0) false).1), 0, 0) from (if_neg (by simpa using c0)).trans ((if_neg (of_decide_eq_false f0)).trans (if_neg (by simpa using c1)))]
        exact ⟨rfl, rfl⟩
  · exact (gives_fail hg).elim
def Y7 (o : OnB) : Sums := ((Y6 o).add 14 qRead).add 16 qRFrac
theorem pY7 (o : OnB) : OkS P (Y7 o) := ((pY6 o).add1 fine (pY6 stdOn) hRead).add1 fine (pY6 stdOn) hRFrac
end Go.AM
