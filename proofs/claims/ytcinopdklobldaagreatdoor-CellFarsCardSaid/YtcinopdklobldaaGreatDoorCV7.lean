import Derived.Test.YtcinopdklobldaaGreatDoorCV6
import Derived.Test.YtcinopdklobldaaGreatDoorCB9
open Go Go.AM Go.Proofs
namespace Go.AM
set_option maxRecDepth 100000
theorem nflawfar (a b c d e f m p1 p2 p3 n q1 q2 q3 : Int) (K : KV) : call P E6 noAnn 3000 Tryz.f5 [M6 a b c d e f, Pt m p1 p2 p3, Pt n q1 q2 q3] [] K = ((decide ((if farE a b c d e f m p1 p2 p3 n q1 q2 q3 = (0 : Int) then farV a b c d e f m p1 p2 p3 q1 q2 q3 else (0 : Int)) = if farE a b c d e f m p1 p2 p3 n q1 q2 q3 = (0 : Int) then farV a b c d e f m p1 p2 p3 q1 q2 q3 else (0 : Int)) = true → (decide (farE a b c d e f m p1 p2 p3 n q1 q2 q3 = farE a b c d e f m p1 p2 p3 n q1 q2 q3) = true → (decide ((if farE a b c d e f n q1 q2 q3 m p1 p2 p3 = (0 : Int) then farV a b c d e f n q1 q2 q3 p1 p2 p3 else (0 : Int)) = if farE a b c d e f m p1 p2 p3 n q1 q2 q3 = (0 : Int) then farV a b c d e f m p1 p2 p3 q1 q2 q3 else (0 : Int)) = true → K (AV.v (PV.one (SV.sb (decide (farE a b c d e f n q1 q2 q3 m p1 p2 p3 = farE a b c d e f m p1 p2 p3 n q1 q2 q3))))) []) ∧ (decide ((if farE a b c d e f n q1 q2 q3 m p1 p2 p3 = (0 : Int) then farV a b c d e f n q1 q2 q3 p1 p2 p3 else (0 : Int)) = if farE a b c d e f m p1 p2 p3 n q1 q2 q3 = (0 : Int) then farV a b c d e f m p1 p2 p3 q1 q2 q3 else (0 : Int)) = false → K (AV.v (PV.one (SV.cb false))) [])) ∧ (decide (farE a b c d e f m p1 p2 p3 n q1 q2 q3 = farE a b c d e f m p1 p2 p3 n q1 q2 q3) = false → K (AV.v (PV.one (SV.cb false))) [])) ∧ (decide ((if farE a b c d e f m p1 p2 p3 n q1 q2 q3 = (0 : Int) then farV a b c d e f m p1 p2 p3 q1 q2 q3 else (0 : Int)) = if farE a b c d e f m p1 p2 p3 n q1 q2 q3 = (0 : Int) then farV a b c d e f m p1 p2 p3 q1 q2 q3 else (0 : Int)) = false → K (AV.v (PV.one (SV.cb false))) [])) := by kernel_rfl
theorem p3_of {x : Int} (h : Dist.P192 x) : P3 x := by unfold Dist.P192 at h; unfold P3; omega
theorem metric_norm {a b c d e f : Int} (h : checkC a b c d e f = 0) : Dist.Norm (Dist.len9 a f e f b d e d c) := by
  obtain ⟨ha, hb, hc, hd, he, hf, h2, h3⟩ := check_spec h
  have ha0 : 0 < a := by omega
  have eq : ∀ {x y z : Int}, Dist.P192 x → Dist.P192 y → Dist.P192 z → Dist.len9 a f e f b d e d c x y z = Dist.bil a b c d e f x y z x y z := fun hx hy hz => (prod9_big ha.2 hb.2 hc.2 hd he hf (p3_of hx) (p3_of hy) (p3_of hz) (p3_of hx) (p3_of hy) (p3_of hz)).1
  have z0 : Dist.P192 0 := by unfold Dist.P192; omega
  refine ⟨fun x y z hx hy hz => ?_, ?_, fun x y z hx hy hz hxx => ?_, fun x y z hx hy hz => ?_⟩
  · rw [eq hx hy hz]; exact Dist.bil_nn ha0 h2 h3 x y z
  · rw [eq z0 z0 z0]; unfold Dist.bil; simp
  · rw [eq hx hy hz] at hxx; exact Dist.bil_zero ha0 h2 h3 hxx
  · have nx : Dist.P192 (-x) := by unfold Dist.P192 at *; omega
    have ny : Dist.P192 (-y) := by unfold Dist.P192 at *; omega
    have nz : Dist.P192 (-z) := by unfold Dist.P192 at *; omega
    rw [eq hx hy hz, eq nx ny nz]
    unfold Dist.bil
    grind
theorem bad10_comm (m a b c n d e f : Int) : bad10 m a b c n d e f = bad10 n d e f m a b c := by
  unfold bad10
  cases form m a b c <;> cases form n d e f <;> simp [eq_comm]
theorem farE_comm (a b c d e f m p1 p2 p3 n q1 q2 q3 : Int) : farE a b c d e f n q1 q2 q3 m p1 p2 p3 = farE a b c d e f m p1 p2 p3 n q1 q2 q3 := by
  unfold farE; rw [bad10_comm]
theorem farV_comm {a b c d e f m p1 p2 p3 n q1 q2 q3 : Int} (h : farE a b c d e f m p1 p2 p3 n q1 q2 q3 = 0) : farV a b c d e f n q1 q2 q3 p1 p2 p3 = farV a b c d e f m p1 p2 p3 q1 q2 q3 := by
  obtain ⟨h1, h2⟩ := Dist.leastI_zero.1 h
  unfold bad10 at h2
  split at h2
  · rename_i hf
    split at h2
    · rename_i hmn
      subst hmn
      rw [Bool.and_eq_true] at hf
      obtain ⟨hr, a1, a2, a3⟩ := form_spec hf.1
      obtain ⟨_, b1, b2, b3⟩ := form_spec hf.2
      exact (Dist.dist_sym (right_bd' hr) (metric_norm h1) a1 a2 a3 b1 b2 b3).symm
    · cases h2
  · cases h2
theorem lawFars (a b c d e f m p1 p2 p3 n q1 q2 q3 : Int) : LawS E6 3000 Tryz.f5 [M6 a b c d e f, Pt m p1 p2 p3, Pt n q1 q2 q3] := by
  constructor
  rw [nflawfar]
  have e1 := farE_comm a b c d e f m p1 p2 p3 n q1 q2 q3
  have e2 : (if farE a b c d e f n q1 q2 q3 m p1 p2 p3 = 0 then farV a b c d e f n q1 q2 q3 p1 p2 p3 else 0) = if farE a b c d e f m p1 p2 p3 n q1 q2 q3 = 0 then farV a b c d e f m p1 p2 p3 q1 q2 q3 else 0 := by
    rw [e1]
    by_cases h : farE a b c d e f m p1 p2 p3 n q1 q2 q3 = 0
    · rw [if_pos h, if_pos h, farV_comm h]
    · rw [if_neg h, if_neg h]
  have no : ∀ {x y : Int} {p : Prop}, x = y → decide (x = y) = false → p := fun h k => by simp [h] at k
  exact ⟨fun _ => ⟨fun _ => ⟨fun _ => ⟨by rw [e1, decide_eq_true rfl]; rfl, rfl⟩, no e2⟩, no rfl⟩, no rfl⟩
theorem okE6 : PureOk Tryz.prog E6 := oE6.pure
theorem soE6 : SpecOk Tryz.prog E6 := oE6.spec
theorem smE6 : SpecMono E6 := oE6.mono
end Go.AM
