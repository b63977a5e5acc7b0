import Derived.Test.YtcinopdklobldaaGreatDoorCF
open Go Go.AM Go.Proofs
namespace Go.AM
theorem nfc15 (a b c d e f : Int) (K : KV) : call P D2 noAnn 100000 Tryz.f16 [M6 a b c d e f] [] K = (((!decide (checkR a b c d e f = (0 : Int))) = true → K (AV.tup [PV.one (SV.con IntKind.i64 (0 : Int)), PV.one (SV.sym IntKind.i64 (checkR a b c d e f))]) []) ∧ ((!decide (checkR a b c d e f = (0 : Int))) = false → K (AV.tup [PV.one (SV.sym IntKind.i64 (detR a b c d e f)), PV.one (SV.con IntKind.i64 (0 : Int))]) [])) := by kernel_rfl
theorem nfc17 (a b c d e f u1 u2 u3 v1 v2 v3 : Int) (K : KV) : call P D2 noAnn 100000 Tryz.f18 [M6 a b c d e f, V u1 u2 u3, V v1 v2 v3] [] K = (((!decide (checkR a b c d e f = (0 : Int))) = true → K (AV.tup [PV.one (SV.con IntKind.i64 (0 : Int)), PV.one (SV.sym IntKind.i64 (checkR a b c d e f))]) []) ∧ ((!decide (checkR a b c d e f = (0 : Int))) = false → ((beyond u1 (1000 : Int) || (beyond u2 (1000 : Int) || beyond u3 (1000 : Int))) = true → K (AV.tup [PV.one (SV.con IntKind.i64 (0 : Int)), PV.one (SV.con IntKind.i64 (4 : Int))]) []) ∧ ((beyond u1 (1000 : Int) || (beyond u2 (1000 : Int) || beyond u3 (1000 : Int))) = false → ((beyond v1 (1000 : Int) || (beyond v2 (1000 : Int) || beyond v3 (1000 : Int))) = true → K (AV.tup [PV.one (SV.con IntKind.i64 (0 : Int)), PV.one (SV.con IntKind.i64 (4 : Int))]) []) ∧ ((beyond v1 (1000 : Int) || (beyond v2 (1000 : Int) || beyond v3 (1000 : Int))) = false → K (AV.tup [PV.one (SV.sym IntKind.i64 (prod9 a f e f b d e d c u1 u2 u3 v1 v2 v3)), PV.one (SV.con IntKind.i64 (0 : Int))]) [])))) := by kernel_rfl

def q15c : PSpec
  | [.v (.agg [.sym .i64 a, .sym .i64 b, .sym .i64 c, .sym .i64 d, .sym .i64 e, .sym .i64 f])] => .ok (.tup [.one (.sym .i64 (if checkC a b c d e f = 0 then detR a b c d e f else 0)), .one (.sym .i64 (checkC a b c d e f))])
  | _ => .fail
theorem hc15 : Holds P D2 16 q15c := by
  refine holds_ok (fn := Tryz.f16) (by kernel_rfl) (by kernel_rfl) fun args av hg => ?_
  unfold q15c at hg
  split at hg
  · rename_i a b c d e f
    rw [gives_ok hg]
    refine ⟨rfl, _, rfl, ?_⟩
    rw [nfc15, checkR_eq]
    generalize checkC a b c d e f = k
    refine ⟨fun h => ?_, fun h => ?_⟩
    · rw [if_neg (by simpa using h)]
      exact ⟨rfl, rfl⟩
    · have hk : k = 0 := by simpa using h
      subst hk
      exact ⟨rfl, rfl⟩
  · exact (gives_fail hg).elim
theorem hc17 : Holds P D2 18 q16 := by
  refine holds_ok (fn := Tryz.f18) (by kernel_rfl) (by kernel_rfl) fun args av hg => ?_
  unfold q16 at hg
  split at hg
  · rename_i a b c d e f u1 u2 u3 v1 v2 v3
    rw [gives_ok hg]
    refine ⟨rfl, _, rfl, ?_⟩
    rw [nfc17, checkR_eq]
    unfold over3 dotE
    generalize checkC a b c d e f = k
    refine ⟨fun h => ?_, fun h => ?_⟩
    · have hk : ¬ k = 0 := by simpa using h
      rw [if_neg hk, if_neg hk]
      exact ⟨rfl, rfl⟩
    · have hk : k = 0 := by simpa using h
      subst hk
      refine ⟨fun h1 => ?_, fun h1 => ⟨fun h2 => ?_, fun h2 => ?_⟩⟩
      · rw [h1]; exact ⟨rfl, rfl⟩
      · rw [h1, h2]; exact ⟨rfl, rfl⟩
      · rw [h1, h2]; exact ⟨rfl, rfl⟩
  · exact (gives_fail hg).elim
def D3 : Sums := ((D2.add 16 q15c).add 18 q16).add 23 q22c [true, true]
end Go.AM
