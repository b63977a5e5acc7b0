import Derived.Test.YtcinopdklobldaaGreatDoorCY1
import Derived.Test.YtcinopdklobldaaGreatDoorRows
import Derived.LaidMore
import Derived.Stop.Joined
import Derived.SevenTiedAt
namespace Go.Proofs.YtcinopdklobldaaGreatDoor.cellCompares
open Go Go.AM Go.ChangeShapes Go.WideShapes Go.ChangeAt Go.RowKit
theorem own : ownKnob Tryz.prog.godebug = none := by kernel_rfl
set_option maxRecDepth 100000 in
theorem walk (l0 : List Int) (l1 : List Int) (h0 : l0.length = 2) (h1 : l1.length = 2) (w0 : intsWf [.i64, .i64] l0) (w1 : intsWf [.i64, .i64] l1) (W : World) : Calls Tryz.prog 6 #[.agg (ints [.i64, .i64] l0).toArray, .agg (ints [.i64, .i64] l1).toArray] W fun e w' => e = .returned (.bool true) ∧ Fr W (fun _ => False) w' := by
  match l0, h0, l1, h1, w0, w1 with
  | [x0_0, x0_1], _, [x1_0, x1_1], _, w0, w1 =>
    rw [show ints [.i64, .i64] [x0_0, x0_1] = [x0_0, x0_1].map (Value.int .i64) from rfl]
    rw [show ints [.i64, .i64] [x1_0, x1_1] = [x1_0, x1_1].map (Value.int .i64) from rfl]
    have hlaw := lawCompares x0_0 x0_1 x1_0 x1_1 w0 w1
    exact law_callsS (S := F1) (fn := Tryz.f6) okF1 soF1 smF1 (vals := [.agg ([x0_0, x0_1].map (Value.int .i64)).toArray, .agg ([x1_0, x1_1].map (Value.int .i64)).toArray]) Tryz.func6 hlaw
      ⟨⟨_, rfl, ⟨.inr rfl, .inr rfl, trivial⟩⟩, ⟨_, rfl, ⟨.inr rfl, .inr rfl, trivial⟩⟩, trivial⟩ W
abbrev lst := Rows.cellComparesRow.laid
theorem door_met (os : Os) (args : Array Value) : laidMetH Tryz.prog lst ((World.doorLaid Tryz.prog 4000 os).forCall (fun _ _ => 0) ⟨#[], args, []⟩).memory :=
  laidMetH_of_parts3 (fuel := 8) (laidMet_of_run' 8 (by kernel_rfl) (by kernel_rfl)) (by kernel_rfl) (by kernel_rfl)
set_option maxRecDepth 100000 in
theorem lifted (os : Os) (started : os.Started) (H : Type) (enc : TypeId × Value → H) :
    ReturnsInHanded {} Tryz.checked os 6 .any (fun w args => (Rows.cellComparesSpec.pre enc Tryz.prog Tryz.f6 [] false w args ∧ laidMetH Tryz.prog lst w) ∧ sizedMet enc Tryz.prog Tryz.f6 (OpenSpec.ofChange Rows.cellComparesSpec) false w args)
      (Rows.cellComparesSpec.post enc Tryz.prog Tryz.f6 false true false false) := by
  refine returnsInHanded_of_change_and (C := Tryz.checked) (X := fun w _ => laidMetH Tryz.prog lst w) (fun _ _ _ hh h => h.of_heap hh) own started (by kernel_rfl) Tryz.func6
    (ChangeSpec.witness_shaped (enc := enc) (C := Tryz.checked) (os := os) (X := fun w _ => laidMetH Tryz.prog lst w) false (World.doorLaid Tryz.prog 4000 os) #[.agg #[.int .i64 0, .int .i64 0], .agg #[.int .i64 0, .int .i64 0]] 8 rfl (World.shaped_of_RefB (by kernel_rfl) (by kernel_rfl)) (by kernel_rfl) (by kernel_rfl) (by kernel_rfl) (door_met os _)) ?_
  intro W base args ds gs before hval0 hW _ _ hL _
  have hval : ∀ (j : Nat) t v, Tryz.f6.params[j]? = some t → args[j]? = some v → Value.okWide Tryz.prog W .any base t v := hval0
  have hW' := hW
  obtain ⟨p, q, hA0, hV, rfl, hfz, hnd⟩ := hW
  have hA : DataW.TrodAll enc Tryz.prog W 0 (fun _ => true) true Tryz.f6.params.toList args.toList ds p := hA0
  rw [Tryz.params6] at hA hval
  obtain ⟨v0, vs0, d0, ds0, p0, q0, hargs, rfl, rfl, k0, r0⟩ := trodAll_cons hA
  obtain ⟨v1, vs1, d1, ds1, p1, q1, rfl, rfl, rfl, k1, r1⟩ := trodAll_cons r0
  obtain ⟨rfl, rfl, rfl⟩ := trodAll_nil r1
  obtain rfl : args = #[v0, v1] := by cases args; simp_all
  obtain ⟨rfl, rfl⟩ := trodVars_none hV
  obtain ⟨l0, g0, rfl, rfl, u0, s0⟩ := open_flat 5 [.i64, .i64] (by kernel_rfl) (by kernel_rfl) (by kernel_rfl) (hval 0 38 v0 rfl rfl) k0
  obtain ⟨l1, g1, rfl, rfl, u1, s1⟩ := open_flat 5 [.i64, .i64] (by kernel_rfl) (by kernel_rfl) (by kernel_rfl) (hval 1 38 v1 rfl rfl) k1
  clear hA0 hval0
  simp only [List.append_nil] at hW'
  refine (walk l0 l1 g0 g1 u0 u1 W).mono fun e W' ⟨he, hg⟩ => ?_
  subst he
  exact ⟨_, rfl, post_plain hW' (fun _ _ _ => (trodAll_cons_mk (shut_bool Tryz.underlying4 _) trodAll_mk0))
    (fun sp => (trodAll_cons_mk (s0 _ _ _ _) (trodAll_cons_mk (s1 _ _ _ _) trodAll_mk0))) (fun _ => rfl)
    hg (ok_one (by kernel_rfl) rfl (okWide_bool_mk Tryz.underlying4 _))⟩
end Go.Proofs.YtcinopdklobldaaGreatDoor.cellCompares
