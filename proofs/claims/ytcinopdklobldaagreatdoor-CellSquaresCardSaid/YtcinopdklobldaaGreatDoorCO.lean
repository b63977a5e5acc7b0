import Derived.Test.YtcinopdklobldaaGreatDoorCN
import Derived.Test.YtcinopdklobldaaGreatDoorCK
open Go Go.AM Go.Proofs
namespace Go.AM
open Dist
set_option maxRecDepth 100000
theorem zero_dec {a b c d e f x y z : Int} (ha : 0 < a) (h2 : 0 < a * b - f * f) (h3 : 0 < detM a b c d e f) : decide (bil a b c d e f x y z x y z ≤ 0) = (decide (x = 0) && (decide (y = 0) && (decide (z = 0) && true))) := by
  have hn := bil_nn ha h2 h3 x y z
  by_cases h : x = 0 ∧ y = 0 ∧ z = 0
  · obtain ⟨rfl, rfl, rfl⟩ := h
    have : bil a b c d e f 0 0 0 0 0 0 = 0 := by unfold bil; simp
    simp [this]
  · have hp := bil_pos ha h2 h3 h
    rw [decide_eq_false (by omega)]
    symm
    simp only [Bool.and_true, Bool.and_eq_false_iff, decide_eq_false_iff_not]
    by_cases h1 : x = 0
    · by_cases h4 : y = 0
      · exact .inr (.inr fun h5 => h ⟨h1, h4, h5⟩)
      · exact .inr (.inl h4)
    · exact .inl h1
theorem within40 {x y z : Int} (h : within 40 x y z = true) : (-40 ≤ x ∧ x ≤ 40) ∧ (-40 ≤ y ∧ y ≤ 40) ∧ (-40 ≤ z ∧ z ≤ 40) := by
  simp only [within, Bool.not_eq_true', Bool.or_eq_false_iff, decide_eq_false_iff_not] at h
  omega
theorem term40 {u x v : Int} (hu : -40 ≤ u ∧ u ≤ 40) (hx : H5 x) (hv : -40 ≤ v ∧ v ≤ 40) : -160000000 ≤ u * x * v ∧ u * x * v ≤ 160000000 := by
  have h1 : -4000000 ≤ u * x ∧ u * x ≤ 4000000 := mul_bd hu hx
  exact mul_bd h1 hv
theorem bil40 {a b c d e f u1 u2 u3 v1 v2 v3 : Int} (ha : H5 a) (hb : H5 b) (hc : H5 c) (hd : H5 d) (he : H5 e) (hf : H5 f) (hu : within 40 u1 u2 u3 = true) (hv : within 40 v1 v2 v3 = true) :
    -1440000000 ≤ bil a b c d e f u1 u2 u3 v1 v2 v3 ∧ bil a b c d e f u1 u2 u3 v1 v2 v3 ≤ 1440000000 := by
  obtain ⟨hu1, hu2, hu3⟩ := within40 hu
  obtain ⟨hv1, hv2, hv3⟩ := within40 hv
  have b1 := term40 hu1 ha hv1
  have b2 := term40 hu1 hf hv2
  have b3 := term40 hu1 he hv3
  have b4 := term40 hu2 hf hv1
  have b5 := term40 hu2 hb hv2
  have b6 := term40 hu2 hd hv3
  have b7 := term40 hu3 he hv1
  have b8 := term40 hu3 hd hv2
  have b9 := term40 hu3 hc hv3
  unfold bil
  omega
theorem tail_ok {A B' C' D : Bool} {x y : Int} (_hA : A = true) (_hB : B' = true) (hf : C' = true → D = true → x ≤ y) :
    ((!A) = true → (AV.v (PV.one (SV.cb true))).valOf = some (.bool true) ∧ True) ∧ ((!A) = false → ((!B') = true → (AV.v (PV.one (SV.cb true))).valOf = some (.bool true) ∧ True) ∧ ((!B') = false → ((!C') = true → (AV.v (PV.one (SV.cb true))).valOf = some (.bool true) ∧ True) ∧ ((!C') = false → ((!D) = true → (AV.v (PV.one (SV.cb true))).valOf = some (.bool true) ∧ True) ∧ ((!D) = false → (AV.v (PV.one (SV.sb (decide (x ≤ y))))).valOf = some (.bool true) ∧ True)))) := by
  refine ⟨fun _ => ⟨rfl, trivial⟩, fun _ => ⟨fun _ => ⟨rfl, trivial⟩, fun _ => ⟨fun _ => ⟨rfl, trivial⟩, fun hC => ⟨fun _ => ⟨rfl, trivial⟩, fun hD => ⟨?_, trivial⟩⟩⟩⟩⟩
  rw [decide_eq_true (hf (by simpa using hC) (by simpa using hD))]
  rfl
/-- a law answers true and leaves no memory behind -/
structure LawS (S : Sums) (n : Nat) (fn : Func) (args : List AV) : Prop where
  out : call P S noAnn n fn args [] (fun v h => v.valOf = some (.bool true) ∧ h = [])
theorem dot_ok : dotE 0 false false = 0 := rfl
theorem lawSquares (a b c d e f u1 u2 u3 v1 v2 v3 : Int) : LawS D7 3000 Tryz.f7 [M6 a b c d e f, V u1 u2 u3, V v1 v2 v3] := by
  constructor
  rw [nfc7]
  by_cases hk : checkC a b c d e f = 0
  · cases hU : over3 u1 u2 u3 with
    | true => cases hV : over3 v1 v2 v3 <;> simp [hk, dotE, AV.valOf, PV.valOf, SV.val]
    | false =>
      cases hV : over3 v1 v2 v3 with
      | true => simp [hk, dotE, AV.valOf, PV.valOf, SV.val]
      | false =>
        obtain ⟨ha, hb, hc, hd, he, hf, h2, h3⟩ := check_spec hk
        have ha0 : 0 < a := by omega
        obtain ⟨pu1, pu2, pu3⟩ := over_P3 hU
        obtain ⟨pv1, pv2, pv3⟩ := over_P3 hV
        obtain ⟨quv, buv⟩ := prod9_big ha.2 hb.2 hc.2 hd he hf pu1 pu2 pu3 pv1 pv2 pv3
        obtain ⟨qvu, bvu⟩ := prod9_big ha.2 hb.2 hc.2 hd he hf pv1 pv2 pv3 pu1 pu2 pu3
        obtain ⟨quu, buu⟩ := prod9_big ha.2 hb.2 hc.2 hd he hf pu1 pu2 pu3 pu1 pu2 pu3
        obtain ⟨qvv, bvv⟩ := prod9_big ha.2 hb.2 hc.2 hd he hf pv1 pv2 pv3 pv1 pv2 pv3
        rw [hk]
        have i0 : ∀ x : Int, (if dotE 0 false false = 0 then x else 0) = x := fun x => if_pos rfl
        simp only [i0, quv, qvu, quu, qvv]
        simp only [dot_ok]
        have no : ∀ {p : Prop}, (!decide ((0 : Int) = 0)) = true → p := fun h => by simp at h
        have e1 : IntKind.i64.wrap (u1 + v1) = u1 + v1 := wr_id (by unfold P3 at *; omega) (by unfold P3 at *; omega)
        have e2 : IntKind.i64.wrap (u2 + v2) = u2 + v2 := wr_id (by unfold P3 at *; omega) (by unfold P3 at *; omega)
        have e3 : IntKind.i64.wrap (u3 + v3) = u3 + v3 := wr_id (by unfold P3 at *; omega) (by unfold P3 at *; omega)
        rw [e1, e2, e3]
        have wu : within 1000 u1 u2 u3 = true := by rw [within_over, hU]; rfl
        have wv : within 1000 v1 v2 v3 = true := by rw [within_over, hV]; rfl
        have fin : within 40 u1 u2 u3 = true → within 40 v1 v2 v3 = true → IntKind.i64.wrap (bil a b c d e f u1 u2 u3 v1 v2 v3 * bil a b c d e f u1 u2 u3 v1 v2 v3) ≤ IntKind.i64.wrap (bil a b c d e f u1 u2 u3 u1 u2 u3 * bil a b c d e f v1 v2 v3 v1 v2 v3) := fun hu hv => by
          have c1 := bil40 ha.2 hb.2 hc.2 hd he hf hu hv
          have c2 := bil40 ha.2 hb.2 hc.2 hd he hf hu hu
          have c3 := bil40 ha.2 hb.2 hc.2 hd he hf hv hv
          have m1 := mul_bd c1 c1
          have m2 := mul_bd c2 c3
          rw [wr_id (n := bil a b c d e f u1 u2 u3 v1 v2 v3 * bil a b c d e f u1 u2 u3 v1 v2 v3) (by omega) (by omega), wr_id (n := bil a b c d e f u1 u2 u3 u1 u2 u3 * bil a b c d e f v1 v2 v3 v1 v2 v3) (by omega) (by omega)]
          exact cauchy ha0 h2 h3 _ _ _ _ _ _
        refine ⟨no, fun _ => ⟨no, fun _ => ⟨no, fun _ => ⟨no, fun _ => ⟨fun hx => no_of (bil_comm a b c d e f u1 u2 u3 v1 v2 v3) hx, fun _ => ⟨fun hx => ?_, fun _ => ⟨fun hx => ?_, fun _ => ⟨fun hw => ?_, fun _ => tail_ok wu wv fin⟩⟩⟩⟩⟩⟩⟩⟩
        · rw [zero_dec ha0 h2 h3] at hx
          simp at hx
        · rw [zero_dec ha0 h2 h3] at hx
          simp at hx
        · have ho : over3 (u1 + v1) (u2 + v2) (u3 + v3) = false := by rw [within_over] at hw; simpa using hw
          obtain ⟨ps1, ps2, ps3⟩ := over_P3 ho
          obtain ⟨qss, bss⟩ := prod9_big ha.2 hb.2 hc.2 hd he hf ps1 ps2 ps3 ps1 ps2 ps3
          rw [ho]
          simp only [i0, qss]
          simp only [dot_ok]
          refine ⟨no, fun _ => ⟨fun hx => no_of ?_ hx, fun _ => tail_ok wu wv fin⟩⟩
          rw [wr_id (n := bil a b c d e f u1 u2 u3 u1 u2 u3 + bil a b c d e f v1 v2 v3 v1 v2 v3) (by omega) (by omega), wr_id (n := 2 * bil a b c d e f u1 u2 u3 v1 v2 v3) (by omega) (by omega), wr_id (n := bil a b c d e f u1 u2 u3 u1 u2 u3 + bil a b c d e f v1 v2 v3 v1 v2 v3 + 2 * bil a b c d e f u1 u2 u3 v1 v2 v3) (by omega) (by omega)]
          exact bil_sum a b c d e f u1 u2 u3 v1 v2 v3
  · simp [hk, dotE, AV.valOf, PV.valOf, SV.val]
end Go.AM
