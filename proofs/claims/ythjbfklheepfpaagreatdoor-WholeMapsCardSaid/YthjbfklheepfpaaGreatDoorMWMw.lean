import Derived.Test.YthjbfklheepfpaaGreatDoorPM5
import Derived.Test.YthjbfklheepfpaaGreatDoorRD0
import Derived.Test.YthjbfklheepfpaaGreatDoorAMMix
import Derived.Test.YthjbfklheepfpaaGreatDoorRows
import Derived.LaidMore
import Derived.Stop.Joined
import Derived.SevenTiedAt
set_option linter.unusedVariables false
set_option linter.unusedSimpArgs false
set_option maxHeartbeats 4000000
namespace Go.Proofs.YthjbfklheepfpaaGreatDoor.wholeMaps
open Go Go.AM Go.ChangeShapes Go.WideShapes Go.ChangeAt Go.RowKit Go.ChangeMaps
theorem own : ownKnob Tryz.prog.godebug = none := by kernel_rfl
set_option maxRecDepth 100000 in
set_option maxHeartbeats 400000 in
theorem walk (l0 : List Value) (h0 : MixL [.b, .i .u8, .i .u8, .i .u8, .i .u8, .i .u8] l0) (l1 : List Value) (h1 : MixL [.b, .i .u8, .i .u8, .i .u8, .i .u8, .i .u8] l1) (l2 : List Value) (h2 : MixL [.b, .i .u8, .i .u8, .i .u8, .i .u8, .i .u8] l2) (l3 : Bool) (l4 : Int) (h4 : (Lit.int .u8 l4).wf = true) (l5 : List Int) (h5 : l5.length = 3) (w5 : intsWf [.i16, .i16, .i16] l5) (W : World) (ht : tabAt W) : Calls Tryz.prog 3 #[.agg l0.toArray, .agg l1.toArray, .agg l2.toArray, .bool l3, .int .u8 l4, .agg (ints [.i16, .i16, .i16] l5).toArray] W fun e w' => e = .returned (.bool true) ∧ Fr W (fun _ => False) w' := by
  match l5, h5, w5 with
  | [x5_0, x5_1, x5_2], _, w5 =>
    rw [show ints [.i16, .i16, .i16] [x5_0, x5_1, x5_2] = [x5_0, x5_1, x5_2].map (Value.int .i16) from rfl]
    obtain ⟨_, r0_0, rfl, ⟨x0_0, rfl⟩, m0_0⟩ := mix_cons h0
    obtain ⟨_, r0_1, rfl, ⟨x0_1, rfl, w0_1⟩, m0_1⟩ := mix_cons m0_0
    obtain ⟨_, r0_2, rfl, ⟨x0_2, rfl, w0_2⟩, m0_2⟩ := mix_cons m0_1
    obtain ⟨_, r0_3, rfl, ⟨x0_3, rfl, w0_3⟩, m0_3⟩ := mix_cons m0_2
    obtain ⟨_, r0_4, rfl, ⟨x0_4, rfl, w0_4⟩, m0_4⟩ := mix_cons m0_3
    obtain ⟨_, r0_5, rfl, ⟨x0_5, rfl, w0_5⟩, m0_5⟩ := mix_cons m0_4
    obtain rfl := mix_nil m0_5
    obtain ⟨_, r1_0, rfl, ⟨x1_0, rfl⟩, m1_0⟩ := mix_cons h1
    obtain ⟨_, r1_1, rfl, ⟨x1_1, rfl, w1_1⟩, m1_1⟩ := mix_cons m1_0
    obtain ⟨_, r1_2, rfl, ⟨x1_2, rfl, w1_2⟩, m1_2⟩ := mix_cons m1_1
    obtain ⟨_, r1_3, rfl, ⟨x1_3, rfl, w1_3⟩, m1_3⟩ := mix_cons m1_2
    obtain ⟨_, r1_4, rfl, ⟨x1_4, rfl, w1_4⟩, m1_4⟩ := mix_cons m1_3
    obtain ⟨_, r1_5, rfl, ⟨x1_5, rfl, w1_5⟩, m1_5⟩ := mix_cons m1_4
    obtain rfl := mix_nil m1_5
    obtain ⟨_, r2_0, rfl, ⟨x2_0, rfl⟩, m2_0⟩ := mix_cons h2
    obtain ⟨_, r2_1, rfl, ⟨x2_1, rfl, w2_1⟩, m2_1⟩ := mix_cons m2_0
    obtain ⟨_, r2_2, rfl, ⟨x2_2, rfl, w2_2⟩, m2_2⟩ := mix_cons m2_1
    obtain ⟨_, r2_3, rfl, ⟨x2_3, rfl, w2_3⟩, m2_3⟩ := mix_cons m2_2
    obtain ⟨_, r2_4, rfl, ⟨x2_4, rfl, w2_4⟩, m2_4⟩ := mix_cons m2_3
    obtain ⟨_, r2_5, rfl, ⟨x2_5, rfl, w2_5⟩, m2_5⟩ := mix_cons m2_4
    obtain rfl := mix_nil m2_5
    have hlaw := lawMaps x0_0 x0_1 x0_2 x0_3 x0_4 x0_5 w0_1 w0_2 w0_3 w0_4 w0_5 x1_0 x1_1 x1_2 x1_3 x1_4 x1_5 w1_1 w1_2 w1_3 w1_4 w1_5 x2_0 x2_1 x2_2 x2_3 x2_4 x2_5 w2_1 w2_2 w2_3 w2_4 w2_5 l3 l4 h4 x5_0 x5_1 x5_2 w5
    have hargs : ArgsR [] [AV.v (.agg [.sb x0_0, .sym .u8 x0_1, .sym .u8 x0_2, .sym .u8 x0_3, .sym .u8 x0_4, .sym .u8 x0_5]), AV.v (.agg [.sb x1_0, .sym .u8 x1_1, .sym .u8 x1_2, .sym .u8 x1_3, .sym .u8 x1_4, .sym .u8 x1_5]), AV.v (.agg [.sb x2_0, .sym .u8 x2_1, .sym .u8 x2_2, .sym .u8 x2_3, .sym .u8 x2_4, .sym .u8 x2_5]), .v (.one (.sb l3)), .v (.one (.sym .u8 l4)), .v (.agg [.sym .i16 x5_0, .sym .i16 x5_1, .sym .i16 x5_2])] [.agg [.bool x0_0, .int .u8 x0_1, .int .u8 x0_2, .int .u8 x0_3, .int .u8 x0_4, .int .u8 x0_5].toArray, .agg [.bool x1_0, .int .u8 x1_1, .int .u8 x1_2, .int .u8 x1_3, .int .u8 x1_4, .int .u8 x1_5].toArray, .agg [.bool x2_0, .int .u8 x2_1, .int .u8 x2_2, .int .u8 x2_3, .int .u8 x2_4, .int .u8 x2_5].toArray, .bool l3, .int .u8 l4, .agg ([x5_0, x5_1, x5_2].map (Value.int .i16)).toArray] := ⟨⟨_, rfl, ⟨.inr rfl, .inr rfl, .inr rfl, .inr rfl, .inr rfl, .inr rfl, trivial⟩⟩, ⟨_, rfl, ⟨.inr rfl, .inr rfl, .inr rfl, .inr rfl, .inr rfl, .inr rfl, trivial⟩⟩, ⟨_, rfl, ⟨.inr rfl, .inr rfl, .inr rfl, .inr rfl, .inr rfl, .inr rfl, trivial⟩⟩, .inr rfl, .inr rfl, ⟨_, rfl, ⟨.inr rfl, .inr rfl, .inr rfl, trivial⟩⟩, trivial⟩
    have h := law_callsD (S := (MF pruneOn)) (fn := Tryz.f3) (pMF pruneOn) Tryz.func3 hlaw hargs W ht rfl
    exact h
abbrev lst := Rows.wholeMapsRow.laid
theorem door_met (os : Os) (args : Array Value) : laidMetH Tryz.prog lst ((World.doorLaid Tryz.prog 4000 os).forCall (fun _ _ => 0) ⟨#[], args, []⟩).memory :=
  laidMetH_of_parts3 (fuel := 8) (laidMet_of_run' 8 (by kernel_rfl) (by kernel_rfl)) (by kernel_rfl) (by kernel_rfl)
set_option maxRecDepth 100000 in
theorem lifted (os : Os) (started : os.Started) (H : Type) (enc : TypeId × Value → H) :
    ReturnsInHanded {} Tryz.checked os 3 .any (fun w args => (Rows.wholeMapsSpec.pre enc Tryz.prog Tryz.f3 [] false w args ∧ laidMetH Tryz.prog lst w) ∧ sizedMet enc Tryz.prog Tryz.f3 (OpenSpec.ofChange Rows.wholeMapsSpec) false w args)
      (Rows.wholeMapsSpec.post enc Tryz.prog Tryz.f3 false true false false) := by
  refine returnsInHanded_of_change_and (C := Tryz.checked) (X := fun w _ => laidMetH Tryz.prog lst w) (fun _ _ _ hh h => h.of_heap hh) own started (by kernel_rfl) Tryz.func3
    (ChangeSpec.witness_shaped (enc := enc) (C := Tryz.checked) (os := os) (X := fun w _ => laidMetH Tryz.prog lst w) false (World.doorLaid Tryz.prog 4000 os) #[.agg #[.bool false, .int .u8 0, .int .u8 0, .int .u8 0, .int .u8 0, .int .u8 0], .agg #[.bool false, .int .u8 0, .int .u8 0, .int .u8 0, .int .u8 0, .int .u8 0], .agg #[.bool false, .int .u8 0, .int .u8 0, .int .u8 0, .int .u8 0, .int .u8 0], .bool false, .int .u8 0, .agg #[.int .i16 0, .int .i16 0, .int .i16 0]] 8 rfl (World.shaped_of_RefB (by kernel_rfl) (by kernel_rfl)) (by kernel_rfl) (by kernel_rfl) (by kernel_rfl) (door_met os _)) ?_
  intro W base args ds gs before hval0 hW _ _ hL _
  have htab : tabAt W := tab_of_laid rfl hL
  have hval : ∀ (j : Nat) t v, Tryz.f3.params[j]? = some t → args[j]? = some v → Value.okWide Tryz.prog W .any base t v := hval0
  have hW' := hW
  obtain ⟨p, q, hA0, hV, rfl, hfz, hnd⟩ := hW
  have hA : DataW.TrodAll enc Tryz.prog W 0 (fun _ => true) true Tryz.f3.params.toList args.toList ds p := hA0
  rw [Tryz.params3] at hA hval
  obtain ⟨v0, vs0, d0, ds0, p0, q0, hargs, rfl, rfl, k0, r0⟩ := trodAll_cons hA
  obtain ⟨v1, vs1, d1, ds1, p1, q1, rfl, rfl, rfl, k1, r1⟩ := trodAll_cons r0
  obtain ⟨v2, vs2, d2, ds2, p2, q2, rfl, rfl, rfl, k2, r2⟩ := trodAll_cons r1
  obtain ⟨v3, vs3, d3, ds3, p3, q3, rfl, rfl, rfl, k3, r3⟩ := trodAll_cons r2
  obtain ⟨v4, vs4, d4, ds4, p4, q4, rfl, rfl, rfl, k4, r4⟩ := trodAll_cons r3
  obtain ⟨v5, vs5, d5, ds5, p5, q5, rfl, rfl, rfl, k5, r5⟩ := trodAll_cons r4
  obtain ⟨rfl, rfl, rfl⟩ := trodAll_nil r5
  obtain rfl : args = #[v0, v1, v2, v3, v4, v5] := by cases args; simp_all
  obtain ⟨rfl, rfl⟩ := trodVars_none hV
  obtain ⟨l0, u0, rfl, rfl, s0⟩ := open_mix 5 [.b, .i .u8, .i .u8, .i .u8, .i .u8, .i .u8] (by kernel_rfl) (by kernel_rfl) (by kernel_rfl) (hval 0 24 v0 rfl rfl) k0
  obtain ⟨l1, u1, rfl, rfl, s1⟩ := open_mix 5 [.b, .i .u8, .i .u8, .i .u8, .i .u8, .i .u8] (by kernel_rfl) (by kernel_rfl) (by kernel_rfl) (hval 1 24 v1 rfl rfl) k1
  obtain ⟨l2, u2, rfl, rfl, s2⟩ := open_mix 5 [.b, .i .u8, .i .u8, .i .u8, .i .u8, .i .u8] (by kernel_rfl) (by kernel_rfl) (by kernel_rfl) (hval 2 24 v2 rfl rfl) k2
  obtain ⟨l3, rfl, rfl, rfl⟩ := open_bool Tryz.underlying4 (hval 3 4 v3 rfl rfl) k3
  obtain ⟨l4, rfl, rfl, rfl, u4⟩ := open_int Tryz.underlying5 (hval 4 5 v4 rfl rfl) k4
  obtain ⟨l5, g5, rfl, rfl, u5, s5⟩ := open_flat 5 [.i16, .i16, .i16] (by kernel_rfl) (by kernel_rfl) (by kernel_rfl) (hval 5 26 v5 rfl rfl) k5
  clear hA0 hval0
  simp only [List.append_nil] at hW'
  refine (walk l0 u0 l1 u1 l2 u2 l3 l4 u4 l5 g5 u5 W htab).mono fun e W' ⟨he, hg⟩ => ?_
  subst he
  exact ⟨_, rfl, post_plain hW' (fun _ _ _ => (trodAll_cons_mk (shut_bool Tryz.underlying4 _) trodAll_mk0))
    (fun sp => (trodAll_cons_mk (s0 _ _ _ _) (trodAll_cons_mk (s1 _ _ _ _) (trodAll_cons_mk (s2 _ _ _ _) (trodAll_cons_mk (shut_bool Tryz.underlying4 _) (trodAll_cons_mk (shut_int Tryz.underlying5 u4) (trodAll_cons_mk (s5 _ _ _ _) trodAll_mk0))))))) (fun _ => rfl)
    hg (ok_one (by kernel_rfl) rfl (okWide_bool_mk Tryz.underlying4 _))⟩
end Go.Proofs.YthjbfklheepfpaaGreatDoor.wholeMaps
