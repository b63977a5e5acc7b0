import Derived.Test.YtagcmdpmmmbedaaGreatDoorOR3
import Derived.Test.YtagcmdpmmmbedaaGreatDoorCM
import Derived.Test.YtagcmdpmmmbedaaGreatDoorCP0
open Go Go.AM Go.Proofs
namespace Go.AM
open Dist
theorem nfTran (a b c d e f g h i : Int) (K : KV) : call P R3 noAnn 100000 Tryz.f22 [.v (.agg [.sym .i64 a, .sym .i64 b, .sym .i64 c, .sym .i64 d, .sym .i64 e, .sym .i64 f, .sym .i64 g, .sym .i64 h, .sym .i64 i])] [] K = (((!decide ((if over9 a b c d e f g h i = true then (4 : Int) else (0 : Int)) = (0 : Int))) = true → K (AV.tup [PV.agg [SV.con IntKind.i64 (0 : Int), SV.con IntKind.i64 (0 : Int), SV.con IntKind.i64 (0 : Int), SV.con IntKind.i64 (0 : Int), SV.con IntKind.i64 (0 : Int), SV.con IntKind.i64 (0 : Int), SV.con IntKind.i64 (0 : Int), SV.con IntKind.i64 (0 : Int), SV.con IntKind.i64 (0 : Int)], PV.one (SV.sym IntKind.i64 (if over9 a b c d e f g h i = true then (4 : Int) else (0 : Int)))]) []) ∧ ((!decide ((if over9 a b c d e f g h i = true then (4 : Int) else (0 : Int)) = (0 : Int))) = false → K (AV.tup [PV.agg [SV.sym IntKind.i64 a, SV.sym IntKind.i64 d, SV.sym IntKind.i64 g, SV.sym IntKind.i64 b, SV.sym IntKind.i64 e, SV.sym IntKind.i64 h, SV.sym IntKind.i64 c, SV.sym IntKind.i64 f, SV.sym IntKind.i64 i], PV.one (SV.con IntKind.i64 (0 : Int))]) [])) := by kernel_rfl
theorem nfAppl (a b c d e f g h i u v w : Int) (K : KV) : call P R3 noAnn 100000 Tryz.f12 [.v (.agg [.sym .i64 a, .sym .i64 b, .sym .i64 c, .sym .i64 d, .sym .i64 e, .sym .i64 f, .sym .i64 g, .sym .i64 h, .sym .i64 i]), .v (.agg [.sym .i64 u, .sym .i64 v, .sym .i64 w])] [] K = (((!decide ((if over9 a b c d e f g h i = true then (4 : Int) else (0 : Int)) = (0 : Int))) = true → K (AV.tup [PV.agg [SV.con IntKind.i64 (0 : Int), SV.con IntKind.i64 (0 : Int), SV.con IntKind.i64 (0 : Int)], PV.one (SV.con IntKind.i64 (4 : Int))]) []) ∧ ((!decide ((if over9 a b c d e f g h i = true then (4 : Int) else (0 : Int)) = (0 : Int))) = false → (beyond u (2147483648 : Int) = true → K (AV.tup [PV.agg [SV.con IntKind.i64 (0 : Int), SV.con IntKind.i64 (0 : Int), SV.con IntKind.i64 (0 : Int)], PV.one (SV.con IntKind.i64 (4 : Int))]) []) ∧ (beyond u (2147483648 : Int) = false → (beyond v (2147483648 : Int) = true → K (AV.tup [PV.agg [SV.con IntKind.i64 (0 : Int), SV.con IntKind.i64 (0 : Int), SV.con IntKind.i64 (0 : Int)], PV.one (SV.con IntKind.i64 (4 : Int))]) []) ∧ (beyond v (2147483648 : Int) = false → (beyond w (2147483648 : Int) = true → K (AV.tup [PV.agg [SV.con IntKind.i64 (0 : Int), SV.con IntKind.i64 (0 : Int), SV.con IntKind.i64 (0 : Int)], PV.one (SV.con IntKind.i64 (4 : Int))]) []) ∧ (beyond w (2147483648 : Int) = false → K (AV.tup [PV.agg [SV.sym IntKind.i64 (IntKind.i64.wrap (IntKind.i64.wrap (IntKind.i64.wrap (a * u) + IntKind.i64.wrap (b * v)) + IntKind.i64.wrap (c * w))), SV.sym IntKind.i64 (IntKind.i64.wrap (IntKind.i64.wrap (IntKind.i64.wrap (d * u) + IntKind.i64.wrap (e * v)) + IntKind.i64.wrap (f * w))), SV.sym IntKind.i64 (IntKind.i64.wrap (IntKind.i64.wrap (IntKind.i64.wrap (g * u) + IntKind.i64.wrap (h * v)) + IntKind.i64.wrap (i * w)))], PV.one (SV.con IntKind.i64 (0 : Int))]) []))))) := by kernel_rfl
def o4 (b : Bool) : Int := if b = true then 4 else 0
def qTran : PSpec
  | [.v (.agg [.sym .i64 a, .sym .i64 b, .sym .i64 c, .sym .i64 d, .sym .i64 e, .sym .i64 f, .sym .i64 g, .sym .i64 h, .sym .i64 i])] => .ok (.tup [.agg [.sym .i64 (zb (over9 a b c d e f g h i) a), .sym .i64 (zb (over9 a b c d e f g h i) d), .sym .i64 (zb (over9 a b c d e f g h i) g), .sym .i64 (zb (over9 a b c d e f g h i) b), .sym .i64 (zb (over9 a b c d e f g h i) e), .sym .i64 (zb (over9 a b c d e f g h i) h), .sym .i64 (zb (over9 a b c d e f g h i) c), .sym .i64 (zb (over9 a b c d e f g h i) f), .sym .i64 (zb (over9 a b c d e f g h i) i)], .one (.sym .i64 (o4 (over9 a b c d e f g h i)))])
  | _ => .fail
theorem ohTran : Holds P R3 22 qTran := by
  refine holds_ok (fn := Tryz.f22) (by kernel_rfl) (by kernel_rfl) fun args av hg => ?_
  unfold qTran at hg
  split at hg
  · rename_i a b c d e f g h i
    rw [gives_ok hg]
    refine ⟨rfl, _, rfl, ?_⟩
    rw [nfTran]
    cases over9 a b c d e f g h i with
    | true => exact ⟨fun _ => ⟨rfl, rfl⟩, fun h => absurd h (by decide)⟩
    | false => exact ⟨fun h => absurd h (by decide), fun _ => ⟨rfl, rfl⟩⟩
  · exact (gives_fail hg).elim
def far3 (u v w : Int) : Bool := beyond u 2147483648 || (beyond v 2147483648 || beyond w 2147483648)
def row3 (a b c u v w : Int) : Int := IntKind.i64.wrap (IntKind.i64.wrap (IntKind.i64.wrap (a * u) + IntKind.i64.wrap (b * v)) + IntKind.i64.wrap (c * w))
def applE (a b c d e f g h i u v w : Int) : Bool := over9 a b c d e f g h i || far3 u v w
def qAppl : PSpec
  | [.v (.agg [.sym .i64 a, .sym .i64 b, .sym .i64 c, .sym .i64 d, .sym .i64 e, .sym .i64 f, .sym .i64 g, .sym .i64 h, .sym .i64 i]), .v (.agg [.sym .i64 u, .sym .i64 v, .sym .i64 w])] => .ok (.tup [.agg [.sym .i64 (zb (applE a b c d e f g h i u v w) (row3 a b c u v w)), .sym .i64 (zb (applE a b c d e f g h i u v w) (row3 d e f u v w)), .sym .i64 (zb (applE a b c d e f g h i u v w) (row3 g h i u v w))], .one (.sym .i64 (o4 (applE a b c d e f g h i u v w)))])
  | _ => .fail
theorem ohAppl : Holds P R3 12 qAppl := by
  refine holds_ok (fn := Tryz.f12) (by kernel_rfl) (by kernel_rfl) fun args av hg => ?_
  unfold qAppl at hg
  split at hg
  · rename_i a b c d e f g h i u v w
    rw [gives_ok hg]
    refine ⟨rfl, _, rfl, ?_⟩
    rw [nfAppl]
    unfold applE far3
    cases over9 a b c d e f g h i with
    | true => exact ⟨fun _ => ⟨rfl, rfl⟩, fun h => absurd h (by decide)⟩
    | false =>
      refine ⟨fun h => absurd h (by decide), fun _ => ?_⟩
      cases beyond u 2147483648 <;> cases beyond v 2147483648 <;> cases beyond w 2147483648
      all_goals
        repeat' (first | apply And.intro | intro _)
        all_goals first
          | rfl
          | (rename_i h; cases h; done)
          | (rename_i h _; cases h; done)
          | (rename_i h _ _; cases h; done)
          | (rename_i h _ _ _; cases h; done)
  · exact (gives_fail hg).elim
def qProd9 : PSpec
  | [.v (.agg [.sym .i64 a, .sym .i64 b, .sym .i64 c, .sym .i64 d, .sym .i64 e, .sym .i64 f, .sym .i64 g, .sym .i64 h, .sym .i64 i]), .v (.agg [.sym .i64 u1, .sym .i64 u2, .sym .i64 u3]), .v (.agg [.sym .i64 v1, .sym .i64 v2, .sym .i64 v3])] => .ok (AV.v (PV.one (SV.sym IntKind.i64 (prod9 a b c d e f g h i u1 u2 u3 v1 v2 v3))))
  | _ => .fail
theorem hProd9 : Holds P G1 23 qProd9 := h22
theorem oD7 : OkS P D7 := (((⟨okD6, soD6, smD6⟩ : OkS P D6).add1 fine ⟨okD6, soD6, smD6⟩ hc24).add1 fine ⟨okD6, soD6, smD6⟩ hc25)
theorem oG1 : OkS P G1 := ⟨okG1, soG1, smG1⟩
def KR0 : Sums := ((((D7.add 43 oq29).add 22 qTran).add 12 qAppl).add 23 qProd9).addSp 20 (rowSpec 0 cOp qCheck)
theorem oKR0 : OkS P KR0 := ((((oD7.add1 fine pO1 oh29).add1 fine pR3 ohTran).add1 fine pR3 ohAppl).add1 fine oG1 hProd9).addRow fine hrCheck
end Go.AM
