import Derived.Test.YtagcmdpmmmbedaaGreatDoorCJ
open Go Go.AM Go.Proofs
namespace Go.AM
def within (m a b c : Int) : Bool := !(decide (a < -m) || (decide (m < a) || (decide (b < -m) || (decide (m < b) || (decide (c < -m) || decide (m < c))))))
def q24w : PSpec
  | [.v (.agg [.sym .i64 a, .sym .i64 b, .sym .i64 c])] => .ok (B (within 1000 a b c))
  | _ => .fail
def q25w : PSpec
  | [.v (.agg [.sym .i64 a, .sym .i64 b, .sym .i64 c])] => .ok (B (within 40 a b c))
  | _ => .fail
theorem nfc24 (a b c : Int) (K : KV) : call P D6 noAnn 100000 Tryz.f13 [V a b c] [] K = ((decide (a < (-1000 : Int)) = true → K (AV.v (PV.one (SV.cb false))) []) ∧ (decide (a < (-1000 : Int)) = false → (decide ((1000 : Int) < a) = true → K (AV.v (PV.one (SV.cb false))) []) ∧ (decide ((1000 : Int) < a) = false → (decide (b < (-1000 : Int)) = true → K (AV.v (PV.one (SV.cb false))) []) ∧ (decide (b < (-1000 : Int)) = false → (decide ((1000 : Int) < b) = true → K (AV.v (PV.one (SV.cb false))) []) ∧ (decide ((1000 : Int) < b) = false → (decide (c < (-1000 : Int)) = true → K (AV.v (PV.one (SV.cb false))) []) ∧ (decide (c < (-1000 : Int)) = false → (decide ((1000 : Int) < c) = true → K (AV.v (PV.one (SV.cb false))) []) ∧ (decide ((1000 : Int) < c) = false → K (AV.v (PV.one (SV.cb true))) []))))))) := by kernel_rfl
theorem nfc25 (a b c : Int) (K : KV) : call P D6 noAnn 100000 Tryz.f10 [V a b c] [] K = ((decide (a < (-40 : Int)) = true → K (AV.v (PV.one (SV.cb false))) []) ∧ (decide (a < (-40 : Int)) = false → (decide ((40 : Int) < a) = true → K (AV.v (PV.one (SV.cb false))) []) ∧ (decide ((40 : Int) < a) = false → (decide (b < (-40 : Int)) = true → K (AV.v (PV.one (SV.cb false))) []) ∧ (decide (b < (-40 : Int)) = false → (decide ((40 : Int) < b) = true → K (AV.v (PV.one (SV.cb false))) []) ∧ (decide ((40 : Int) < b) = false → (decide (c < (-40 : Int)) = true → K (AV.v (PV.one (SV.cb false))) []) ∧ (decide (c < (-40 : Int)) = false → (decide ((40 : Int) < c) = true → K (AV.v (PV.one (SV.cb false))) []) ∧ (decide ((40 : Int) < c) = false → K (AV.v (PV.one (SV.cb true))) []))))))) := by kernel_rfl
theorem hc24 : Holds P D6 13 q24w := by
  refine holds_ok (fn := Tryz.f13) (by kernel_rfl) (by kernel_rfl) fun args av hg => ?_
  unfold q24w at hg
  split at hg
  · rename_i a b c
    rw [gives_ok hg]
    refine ⟨rfl, _, rfl, ?_⟩
    rw [nfc24]
    unfold within
    generalize decide (a < -1000) = x1
    generalize decide (1000 < a) = x2
    generalize decide (b < -1000) = x3
    generalize decide (1000 < b) = x4
    generalize decide (c < -1000) = x5
    generalize decide (1000 < c) = x6
    repeat' (first | apply leafB | apply leafS | apply And.intro | (intro h; subst h))
    all_goals simp
  · exact (gives_fail hg).elim
theorem hc25 : Holds P D6 10 q25w := by
  refine holds_ok (fn := Tryz.f10) (by kernel_rfl) (by kernel_rfl) fun args av hg => ?_
  unfold q25w at hg
  split at hg
  · rename_i a b c
    rw [gives_ok hg]
    refine ⟨rfl, _, rfl, ?_⟩
    rw [nfc25]
    unfold within
    generalize decide (a < -40) = x1
    generalize decide (40 < a) = x2
    generalize decide (b < -40) = x3
    generalize decide (40 < b) = x4
    generalize decide (c < -40) = x5
    generalize decide (40 < c) = x6
    repeat' (first | apply leafB | apply leafS | apply And.intro | (intro h; subst h))
    all_goals simp
  · exact (gives_fail hg).elim
def D7 : Sums := (D6.add 13 q24w).add 10 q25w
end Go.AM
