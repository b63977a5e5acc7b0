import Derived.Test.YtcinopdklobldaaGreatDoorCZ5
import Derived.Test.YtcinopdklobldaaGreatDoorRows
import Derived.LaidMore
import Derived.Stop.Joined
import Derived.SevenTiedAt
namespace Go.Proofs.YtcinopdklobldaaGreatDoor.cellDual
open Go Go.AM Go.ChangeShapes Go.WideShapes Go.ChangeAt Go.RowKit
theorem own : ownKnob Tryz.prog.godebug = none := by kernel_rfl
set_option maxRecDepth 100000 in
theorem walk (l0 : List Int) (l1 : List Int) (l2 : List Int) (h0 : l0.length = 6) (h1 : l1.length = 3) (h2 : l2.length = 3) (W : World) : Calls Tryz.prog 8 #[.agg (ints [.i64, .i64, .i64, .i64, .i64, .i64] l0).toArray, .agg (ints [.i64, .i64, .i64] l1).toArray, .agg (ints [.i64, .i64, .i64] l2).toArray] W fun e w' => e = .returned (.bool true) ∧ Fr W (fun _ => False) w' := by
  match l0, h0, l1, h1, l2, h2 with
  | [x0_0, x0_1, x0_2, x0_3, x0_4, x0_5], _, [x1_0, x1_1, x1_2], _, [x2_0, x2_1, x2_2], _ =>
    rw [show ints [.i64, .i64, .i64, .i64, .i64, .i64] [x0_0, x0_1, x0_2, x0_3, x0_4, x0_5] = [x0_0, x0_1, x0_2, x0_3, x0_4, x0_5].map (Value.int .i64) from rfl]
    rw [show ints [.i64, .i64, .i64] [x1_0, x1_1, x1_2] = [x1_0, x1_1, x1_2].map (Value.int .i64) from rfl]
    rw [show ints [.i64, .i64, .i64] [x2_0, x2_1, x2_2] = [x2_0, x2_1, x2_2].map (Value.int .i64) from rfl]
    have hlaw := lawDual x0_0 x0_1 x0_2 x0_3 x0_4 x0_5 x1_0 x1_1 x1_2 x2_0 x2_1 x2_2
    exact law_callsS (S := F2) (fn := Tryz.f8) okF2 soF2 smF2 (vals := [.agg ([x0_0, x0_1, x0_2, x0_3, x0_4, x0_5].map (Value.int .i64)).toArray, .agg ([x1_0, x1_1, x1_2].map (Value.int .i64)).toArray, .agg ([x2_0, x2_1, x2_2].map (Value.int .i64)).toArray]) Tryz.func8 hlaw
      ⟨⟨_, rfl, ⟨.inr rfl, .inr rfl, .inr rfl, .inr rfl, .inr rfl, .inr rfl, trivial⟩⟩, ⟨_, rfl, ⟨.inr rfl, .inr rfl, .inr rfl, trivial⟩⟩, ⟨_, rfl, ⟨.inr rfl, .inr rfl, .inr rfl, trivial⟩⟩, trivial⟩ W
abbrev lst := Rows.cellDualRow.laid
theorem door_met (os : Os) (args : Array Value) : laidMetH Tryz.prog lst ((World.doorLaid Tryz.prog 4000 os).forCall (fun _ _ => 0) ⟨#[], args, []⟩).memory :=
  laidMetH_of_parts3 (fuel := 8) (laidMet_of_run' 8 (by kernel_rfl) (by kernel_rfl)) (by kernel_rfl) (by kernel_rfl)
set_option maxRecDepth 100000 in
theorem lifted (os : Os) (started : os.Started) (H : Type) (enc : TypeId × Value → H) :
    ReturnsInHanded {} Tryz.checked os 8 .any (fun w args => (Rows.cellDualSpec.pre enc Tryz.prog Tryz.f8 [] false w args ∧ laidMetH Tryz.prog lst w) ∧ sizedMet enc Tryz.prog Tryz.f8 (OpenSpec.ofChange Rows.cellDualSpec) false w args)
      (Rows.cellDualSpec.post enc Tryz.prog Tryz.f8 false true false false) := by
  refine returnsInHanded_of_change_and (C := Tryz.checked) (X := fun w _ => laidMetH Tryz.prog lst w) (fun _ _ _ hh h => h.of_heap hh) own started (by kernel_rfl) Tryz.func8
    (ChangeSpec.witness_shaped (enc := enc) (C := Tryz.checked) (os := os) (X := fun w _ => laidMetH Tryz.prog lst w) false (World.doorLaid Tryz.prog 4000 os) #[.agg #[.int .i64 0, .int .i64 0, .int .i64 0, .int .i64 0, .int .i64 0, .int .i64 0], .agg #[.int .i64 0, .int .i64 0, .int .i64 0], .agg #[.int .i64 0, .int .i64 0, .int .i64 0]] 8 rfl (World.shaped_of_RefB (by kernel_rfl) (by kernel_rfl)) (by kernel_rfl) (by kernel_rfl) (by kernel_rfl) (door_met os _)) ?_
  intro W base args ds gs before hval0 hW _ _ hL _
  have hval : ∀ (j : Nat) t v, Tryz.f8.params[j]? = some t → args[j]? = some v → Value.okWide Tryz.prog W .any base t v := hval0
  have hW' := hW
  obtain ⟨p, q, hA0, hV, rfl, hfz, hnd⟩ := hW
  have hA : DataW.TrodAll enc Tryz.prog W 0 (fun _ => true) true Tryz.f8.params.toList args.toList ds p := hA0
  rw [Tryz.params8] at hA hval
  obtain ⟨v0, vs0, d0, ds0, p0, q0, hargs, rfl, rfl, k0, r0⟩ := trodAll_cons hA
  obtain ⟨v1, vs1, d1, ds1, p1, q1, rfl, rfl, rfl, k1, r1⟩ := trodAll_cons r0
  obtain ⟨v2, vs2, d2, ds2, p2, q2, rfl, rfl, rfl, k2, r2⟩ := trodAll_cons r1
  obtain ⟨rfl, rfl, rfl⟩ := trodAll_nil r2
  obtain rfl : args = #[v0, v1, v2] := by cases args; simp_all
  obtain ⟨rfl, rfl⟩ := trodVars_none hV
  obtain ⟨l0, g0, rfl, rfl, -, s0⟩ := open_flat 5 [.i64, .i64, .i64, .i64, .i64, .i64] (by kernel_rfl) (by kernel_rfl) (by kernel_rfl) (hval 0 23 v0 rfl rfl) k0
  obtain ⟨l1, g1, rfl, rfl, -, s1⟩ := open_flat 5 [.i64, .i64, .i64] (by kernel_rfl) (by kernel_rfl) (by kernel_rfl) (hval 1 25 v1 rfl rfl) k1
  obtain ⟨l2, g2, rfl, rfl, -, s2⟩ := open_flat 5 [.i64, .i64, .i64] (by kernel_rfl) (by kernel_rfl) (by kernel_rfl) (hval 2 25 v2 rfl rfl) k2
  clear hA0 hval0
  simp only [List.append_nil] at hW'
  refine (walk l0 l1 l2 g0 g1 g2 W).mono fun e W' ⟨he, hg⟩ => ?_
  subst he
  exact ⟨_, rfl, post_plain hW' (fun _ _ _ => (trodAll_cons_mk (shut_bool Tryz.underlying4 _) trodAll_mk0))
    (fun sp => (trodAll_cons_mk (s0 _ _ _ _) (trodAll_cons_mk (s1 _ _ _ _) (trodAll_cons_mk (s2 _ _ _ _) trodAll_mk0)))) (fun _ => rfl)
    hg (ok_one (by kernel_rfl) rfl (okWide_bool_mk Tryz.underlying4 _))⟩
end Go.Proofs.YtcinopdklobldaaGreatDoor.cellDual
