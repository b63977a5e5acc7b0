import Derived.Test.YtagcmdpmmmbedaaGreatDoorCG
open Go Go.AM Go.Proofs
namespace Go.AM
set_option maxRecDepth 100000
def q38 : PSpec
  | [.v (.agg [.sym .i64 a, .sym .i64 b, .sym .i64 c, .sym .i64 d, .sym .i64 e, .sym .i64 f])] => .ok (AV.v (PV.agg [SV.sym IntKind.i64 (IntKind.i64.wrap (IntKind.i64.wrap (b * c) - IntKind.i64.wrap (d * d))), SV.sym IntKind.i64 (IntKind.i64.wrap (IntKind.i64.wrap (e * d) - IntKind.i64.wrap (c * f))), SV.sym IntKind.i64 (IntKind.i64.wrap (IntKind.i64.wrap (f * d) - IntKind.i64.wrap (b * e))), SV.sym IntKind.i64 (IntKind.i64.wrap (IntKind.i64.wrap (e * d) - IntKind.i64.wrap (c * f))), SV.sym IntKind.i64 (IntKind.i64.wrap (IntKind.i64.wrap (a * c) - IntKind.i64.wrap (e * e))), SV.sym IntKind.i64 (IntKind.i64.wrap (IntKind.i64.wrap (f * e) - IntKind.i64.wrap (a * d))), SV.sym IntKind.i64 (IntKind.i64.wrap (IntKind.i64.wrap (f * d) - IntKind.i64.wrap (b * e))), SV.sym IntKind.i64 (IntKind.i64.wrap (IntKind.i64.wrap (f * e) - IntKind.i64.wrap (a * d))), SV.sym IntKind.i64 (IntKind.i64.wrap (IntKind.i64.wrap (a * b) - IntKind.i64.wrap (f * f)))]))
  | _ => .fail
theorem nfc38 (a b c d e f : Int) (K : KV) : call P D3 noAnn 100000 Tryz.f33 [M6 a b c d e f] [] K = (K (AV.v (PV.agg [SV.sym IntKind.i64 (IntKind.i64.wrap (IntKind.i64.wrap (b * c) - IntKind.i64.wrap (d * d))), SV.sym IntKind.i64 (IntKind.i64.wrap (IntKind.i64.wrap (e * d) - IntKind.i64.wrap (c * f))), SV.sym IntKind.i64 (IntKind.i64.wrap (IntKind.i64.wrap (f * d) - IntKind.i64.wrap (b * e))), SV.sym IntKind.i64 (IntKind.i64.wrap (IntKind.i64.wrap (e * d) - IntKind.i64.wrap (c * f))), SV.sym IntKind.i64 (IntKind.i64.wrap (IntKind.i64.wrap (a * c) - IntKind.i64.wrap (e * e))), SV.sym IntKind.i64 (IntKind.i64.wrap (IntKind.i64.wrap (f * e) - IntKind.i64.wrap (a * d))), SV.sym IntKind.i64 (IntKind.i64.wrap (IntKind.i64.wrap (f * d) - IntKind.i64.wrap (b * e))), SV.sym IntKind.i64 (IntKind.i64.wrap (IntKind.i64.wrap (f * e) - IntKind.i64.wrap (a * d))), SV.sym IntKind.i64 (IntKind.i64.wrap (IntKind.i64.wrap (a * b) - IntKind.i64.wrap (f * f)))])) []) := by kernel_rfl
theorem hc38 : Holds P D3 33 q38 := by
  refine holds_ok (fn := Tryz.f33) (by kernel_rfl) (by kernel_rfl) fun args av hg => ?_
  unfold q38 at hg
  split at hg
  · rw [gives_ok hg]
    refine ⟨rfl, _, rfl, ?_⟩
    rw [nfc38]
    exact ⟨rfl, rfl⟩
  · exact (gives_fail hg).elim
def q39c : PSpec
  | [.v (.one (.con .i64 a)), .v (.one (.con .i64 b))] => if a = 244 ∧ b = 576 then .ok (C 4) else .fail
  | _ => .fail
theorem nfc39 (K : KV) : call P D3 noAnn 3000 Tryz.f34 [C 244, C 576] [] K = K (C 4) [] := by kernel_rfl
theorem hc39 : Holds P D3 34 q39c := by
  refine holds_okA (fn := Tryz.f34) noAnn 3000 rfl (by kernel_rfl) (by kernel_rfl) fun args av hg => ?_
  unfold q39c at hg
  split at hg
  · split at hg
    · rename_i hc
      obtain ⟨rfl, rfl⟩ := hc
      rw [gives_ok hg]
      refine ⟨rfl, _, rfl, ?_⟩
      rw [nfc39]
      exact ⟨rfl, rfl⟩
    · exact (gives_fail hg).elim
  · exact (gives_fail hg).elim
def D4 : Sums := (D3.add 33 q38).add 34 q39c [true, true]
end Go.AM
