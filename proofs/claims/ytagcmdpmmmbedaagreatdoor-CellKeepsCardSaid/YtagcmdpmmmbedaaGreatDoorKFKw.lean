import Derived.Test.YtagcmdpmmmbedaaGreatDoorKF2
import Derived.Test.YtagcmdpmmmbedaaGreatDoorRows
import Derived.LaidMore
import Derived.Stop.Joined
import Derived.SevenTiedAt
namespace Go.Proofs.YtagcmdpmmmbedaaGreatDoor.cellKeeps
open Go Go.AM Go.ChangeShapes Go.WideShapes Go.ChangeAt Go.RowKit
theorem own : ownKnob Tryz.prog.godebug = none := by kernel_rfl
set_option maxRecDepth 100000 in
theorem walk (l0 : List Int) (h0 : l0.length = 6) (xs : List cOp.τ) (ad : Option Addr) (c : Nat) (us : List Value) (W : World) (hr : RL [] (flatC cOp xs) us) (hn : ad = none → xs = [] ∧ c = 0)
    (ha : ∀ a, ad = some a → a.spot = none ∧ a.block < W.heap.size ∧ Seen W a.block a.off us) (hsz : xs.length * 96 ≤ 140737488351232) :
    Calls Tryz.prog 3 #[.agg (ints [.i64, .i64, .i64, .i64, .i64, .i64] l0).toArray, .slice ad xs.length c] W fun e w' => e = .returned (.bool true) ∧ Fr W (fun _ => False) w' := by
  match l0, h0 with
  | [x0_0, x0_1, x0_2, x0_3, x0_4, x0_5], _ =>
    rw [show ints [.i64, .i64, .i64, .i64, .i64, .i64] [x0_0, x0_1, x0_2, x0_3, x0_4, x0_5] = [x0_0, x0_1, x0_2, x0_3, x0_4, x0_5].map (Value.int .i64) from rfl]
    have hlaw := lawKeeps x0_0 x0_1 x0_2 x0_3 x0_4 x0_5 xs c hsz
    exact law_callsR oKSL (fn := Tryz.f3) Tryz.func3 hlaw (vals := [.agg ([x0_0, x0_1, x0_2, x0_3, x0_4, x0_5].map (Value.int .i64)).toArray, .slice ad xs.length c]) hr hn ha
      (fun p hp => ⟨⟨_, rfl, ⟨.inr rfl, .inr rfl, .inr rfl, .inr rfl, .inr rfl, .inr rfl, trivial⟩⟩, .inr hp, trivial⟩) rfl
abbrev lst := Rows.cellKeepsRow.laid
theorem door_met (os : Os) (args : Array Value) : laidMetH Tryz.prog lst ((World.doorLaid Tryz.prog 4000 os).forCall (fun _ _ => 0) ⟨#[], args, []⟩).memory :=
  laidMetH_of_parts3 (fuel := 8) (laidMet_of_run' 8 (by kernel_rfl) (by kernel_rfl)) (by kernel_rfl) (by kernel_rfl)
set_option maxRecDepth 100000 in
theorem lifted (os : Os) (started : os.Started) (H : Type) (enc : TypeId × Value → H) :
    ReturnsInHanded {} Tryz.checked os 3 .any (fun w args => (Rows.cellKeepsSpec.pre enc Tryz.prog Tryz.f3 [] false w args ∧ laidMetH Tryz.prog lst w) ∧ sizedMet enc Tryz.prog Tryz.f3 (OpenSpec.ofChange Rows.cellKeepsSpec) false w args)
      (Rows.cellKeepsSpec.post enc Tryz.prog Tryz.f3 false true false false) := by
  refine returnsInHanded_of_change_and (C := Tryz.checked) (X := fun w _ => laidMetH Tryz.prog lst w) (fun _ _ _ hh h => h.of_heap hh) own started (by kernel_rfl) Tryz.func3
    (ChangeSpec.witness_shaped (enc := enc) (C := Tryz.checked) (os := os) (X := fun w _ => laidMetH Tryz.prog lst w) false (World.doorLaid Tryz.prog 4000 os) #[.agg #[.int .i64 0, .int .i64 0, .int .i64 0, .int .i64 0, .int .i64 0, .int .i64 0], .slice none 0 0] 8 rfl (World.shaped_of_RefB (by kernel_rfl) (by kernel_rfl)) (by kernel_rfl) (by kernel_rfl) (by kernel_rfl) (door_met os _)) ?_
  intro W base args ds gs before hval0 hW _ hz hL _
  have hval : ∀ (j : Nat) t v, Tryz.f3.params[j]? = some t → args[j]? = some v → Value.okWide Tryz.prog W .any base t v := hval0
  have hW' := hW
  obtain ⟨p, q, hA0, hV, rfl, hfz, hnd⟩ := hW
  have hA : DataW.TrodAll enc Tryz.prog W 0 (fun _ => true) true Tryz.f3.params.toList args.toList ds p := hA0
  have hz : (DataW.weightsEach Tryz.prog (Tryz.f3.params.toList ++ Rows.cellKeepsSpec.plain.varTypes Tryz.prog) (ds ++ gs)).all (· ≤ reachBytes) = true := hz
  rw [Tryz.params3] at hA hval hz
  obtain ⟨v0, vs0, d0, ds0, p0, q0, hargs, rfl, rfl, k0, r0⟩ := trodAll_cons hA
  obtain ⟨v1, vs1, d1, ds1, p1, q1, rfl, rfl, rfl, k1, r1⟩ := trodAll_cons r0
  obtain ⟨rfl, rfl, rfl⟩ := trodAll_nil r1
  obtain rfl : args = #[v0, v1] := by cases args; simp_all
  obtain ⟨rfl, rfl⟩ := trodVars_none hV
  obtain ⟨l0, g0, rfl, e0, -, s0⟩ := open_flat 5 [.i64, .i64, .i64, .i64, .i64, .i64] (by kernel_rfl) (by kernel_rfl) (by kernel_rfl) (hval 0 23 v0 rfl rfl) k0
  obtain ⟨ad, c, xs, us, rfl, hr, hn, ha, hd, s1⟩ := open_rows 5 cOp [.i64, .i64, .i64, .i64, .i64, .i64, .i64, .i64, .i64, .i64, .i64, .i64] Tryz.underlying24 (by kernel_rfl) (by kernel_rfl) (by decide) intsOp (hval 1 24 v1 rfl rfl) k1
  have hsz : xs.length * 96 ≤ 140737488351232 := by
    rcases hd with ⟨-, rfl⟩ | ⟨el, sp, rfl, hel⟩
    · simp
    · have h1 := sized_slice (j := 1) (t := 24) (e := 32) hz rfl rfl Tryz.underlying24
      rw [show Tryz.prog.bytesOf 32 = 96 by kernel_rfl] at h1
      have h2 : (el.length + sp.length) * 96 ≤ 140737488351232 := h1
      rw [← hel]
      omega
  clear hA0 hval0
  refine (walk l0 g0 xs ad c us W hr hn ha hsz).mono fun e W' ⟨he, hg⟩ => ?_
  subst he
  exact ⟨_, rfl, post_rows hW' (fun _ _ _ => (trodAll_cons_mk (shut_bool Tryz.underlying4 _) trodAll_mk0))
    (trodAll_ex ⟨_, s0 _ _ _ _⟩ (trodAll_ex (s1 W' hg) ⟨_, trodAll_mk0⟩)) (fun _ => rfl) hg⟩
end Go.Proofs.YtagcmdpmmmbedaaGreatDoor.cellKeeps
