/- WholeDistances: for every input the law answers true, and the input reads as it did. No condition. -/
import Derived.Test.YtppbbabmlammpaaAMRow
import Derived.Test.YtppbbabmlammpaaF3z
import Derived.Test.YtppbbabmlammpaaRows
namespace Go.Proofs.Ytppbbabmlammpaa.wholeDistances
open Go Go.AM Go.ChangeShapes Go.WideShapes Go.ChangeAt Go.RowKit
theorem own : ownKnob Try.prog.godebug = none := by kernel_rfl
theorem names_ok : (Try.prog.funcs.toList.all fun fn => !(fn.name == "runtime.NumGoroutine")) = true := by kernel_rfl
theorem fine : Fine Try.prog := ⟨fun f fn h => by
  have h1 := List.all_eq_true.1 names_ok fn (by
    obtain ⟨hi, e⟩ := Array.getElem?_eq_some_iff.1 h
    rw [← e]
    exact Array.getElem_mem_toList hi)
  simpa using h1, by kernel_rfl⟩
theorem sm0 : SpecMono G0 := fun f sp h => by cases h
theorem so0 : SpecOk Try.prog G0 := fun f sp h => by cases h
theorem ok0 : PureOk Try.prog G0 := fun f p h => by cases h
theorem sm1 : SpecMono G1 := sm0
theorem so1 : SpecOk Try.prog G1 := so0
theorem ok1 : PureOk Try.prog G1 := (PureOk.add fine ok0 so0 sm0 (PureOk.add fine ok0 so0 sm0 (PureOk.add fine ok0 so0 sm0 (PureOk.add fine ok0 so0 sm0 (PureOk.add fine ok0 so0 sm0 ok0 h19) h65) h46) h16) h27)
theorem sm2 : SpecMono G2 := sm0
theorem so2 : SpecOk Try.prog G2 := so0
theorem ok2 : PureOk Try.prog G2 := (PureOk.add fine ok1 so1 sm1 (PureOk.add fine ok1 so1 sm1 (PureOk.add fine ok1 so1 sm1 (PureOk.add fine ok1 so1 sm1 (PureOk.add fine ok1 so1 sm1 (PureOk.add fine ok1 so1 sm1 (PureOk.add fine ok1 so1 sm1 (PureOk.add fine ok1 so1 sm1 (PureOk.add fine ok1 so1 sm1 (PureOk.add fine ok1 so1 sm1 ok1 h35) h14) h21) h37) h38) h29) h22) h13) h51) h63)
theorem sm3 : SpecMono G3 := sm0
theorem so3 : SpecOk Try.prog G3 := so0
theorem ok3 : PureOk Try.prog G3 := (PureOk.add fine ok2 so2 sm2 (PureOk.add fine ok2 so2 sm2 (PureOk.add fine ok2 so2 sm2 (PureOk.add fine ok2 so2 sm2 (PureOk.add fine ok2 so2 sm2 (PureOk.add fine ok2 so2 sm2 ok2 h47) h33) h7) h25) h6) h50)
theorem sm4 : SpecMono G4 := sm0
theorem so4 : SpecOk Try.prog G4 := so0
theorem ok4 : PureOk Try.prog G4 := (PureOk.add fine ok3 so3 sm3 (PureOk.add fine ok3 so3 sm3 (PureOk.add fine ok3 so3 sm3 (PureOk.add fine ok3 so3 sm3 (PureOk.add fine ok3 so3 sm3 (PureOk.add fine ok3 so3 sm3 ok3 h34) h20) h10) h24) h40) h49)
theorem sm5 : SpecMono G5 := sm0
theorem so5 : SpecOk Try.prog G5 := so0
theorem ok5 : PureOk Try.prog G5 := (PureOk.add fine ok4 so4 sm4 (PureOk.add fine ok4 so4 sm4 (PureOk.add fine ok4 so4 sm4 ok4 h41) h15) h48)
theorem sm6 : SpecMono G6 := sm0
theorem so6 : SpecOk Try.prog G6 := so0
theorem ok6 : PureOk Try.prog G6 := (PureOk.add fine ok5 so5 sm5 (PureOk.add fine ok5 so5 sm5 ok5 h4) h5)
theorem sm7 : SpecMono G7 := sm0
theorem so7 : SpecOk Try.prog G7 := so0
theorem ok7 : PureOk Try.prog G7 := (PureOk.add fine ok2 so2 sm2 (PureOk.add fine ok3 so3 sm3 (PureOk.add fine ok3 so3 sm3 ok6 h20k) h10k) h6k)
theorem sm8 : SpecMono G8 := sm0
theorem so8 : SpecOk Try.prog G8 := so0
theorem ok8 : PureOk Try.prog G8 := (PureOk.add fine ok7 so7 sm7 ok7 h8)
theorem sm9 : SpecMono G9 := sm0
theorem so9 : SpecOk Try.prog G9 := so0
theorem ok9 : PureOk Try.prog G9 := (PureOk.add fine ok5 so5 sm5 (PureOk.add fine ok8 so8 sm8 ok8 h11) h5k)
theorem start (w : World) : HRel w (fun _ => False) [] [] w :=
  ⟨rfl, ⟨rfl, rfl, rfl, Nat.le_refl _, fun _ _ _ => rfl⟩, fun b x p h _ => by simp at h, fun b p x h _ _ => by simp at h, fun b p x h _ _ => by simp at h, fun b c p q x y h _ _ _ _ _ _ => by simp at h⟩
set_option maxRecDepth 100000 in
theorem walk (xs ys zs : List Int) (k : Int) (hx : xs.length = 9) (hy : ys.length = 3) (hz : zs.length = 3) (hk : (Lit.int .u8 k).wf = true) (w : World) :
    Calls Try.prog 3 #[.agg (xs.map (Value.int .i8)).toArray, .int .u8 k, .agg (ys.map (Value.int .i16)).toArray, .agg (zs.map (Value.int .i16)).toArray] w fun e w' => e = .returned (.bool true) ∧ Fr w (fun _ => False) w' := by
  match xs, hx, ys, hy, zs, hz with
  | [a, b, c, d, e, f, g, h, i], _, [x1, x2, x3], _, [y1, y2, y3], _ =>
    have hk0 : 0 ≤ k := by
      simp only [Lit.wf, Bool.and_eq_true, decide_eq_true_eq] at hk
      exact hk.1
    have hc := call_sound (P := Try.prog) (S := G9) (f := 3) (fn := Try.f3) (A := noAnn) (n := 1000) (h := []) (vals := [.agg ([a, b, c, d, e, f, g, h, i].map (Value.int .i8)).toArray, .int .u8 k, .agg ([x1, x2, x3].map (Value.int .i16)).toArray, .agg ([y1, y2, y3].map (Value.int .i16)).toArray]) fine ok9 so9 sm9 Try.func3 (law3 a b c d e f g h i k x1 x2 x3 y1 y2 y3 hk0) (.inr rfl) (start w)
      ⟨⟨_, rfl, ⟨.inr rfl, .inr rfl, .inr rfl, .inr rfl, .inr rfl, .inr rfl, .inr rfl, .inr rfl, .inr rfl, trivial⟩⟩, .inr rfl, ⟨_, rfl, ⟨.inr rfl, .inr rfl, .inr rfl, trivial⟩⟩, ⟨_, rfl, ⟨.inr rfl, .inr rfl, .inr rfl, trivial⟩⟩, trivial⟩
    refine hc.mono fun e w' hp => ?_
    obtain ⟨v, av, h', pl', rfl, hv, hpe, hR, hval, rfl⟩ := hp
    have hpl : pl' = [] := List.length_eq_zero_iff.1 hR.len
    subst hpl
    rw [(AV.valOf_spec hval).2 v hv]
    exact ⟨rfl, hR.fr⟩
theorem cells23 : Try.prog.cellsOf 23 = 9 := by kernel_rfl
theorem cells22 : Try.prog.cellsOf 22 = 1 := by kernel_rfl
theorem cells25 : Try.prog.cellsOf 25 = 3 := by kernel_rfl
theorem cells24 : Try.prog.cellsOf 24 = 1 := by kernel_rfl
set_option maxRecDepth 100000 in
theorem lifted (os : Os) (started : os.Started) (H : Type) (enc : TypeId × Value → H) :
    ReturnsInHanded {} Try.checked os 3 .any (Rows.wholeDistancesSpec.pre6 enc Try.prog Try.f3 Rows.wholeDistancesRow.domain false) (Rows.wholeDistancesSpec.post enc Try.prog Try.f3 false true false false) := by
  refine returnsInHanded_of_change (C := Try.checked) own started (by kernel_rfl) Try.func3
    (ChangeSpec.witness6 (enc := enc) (C := Try.checked) false ⟨#[], #[.agg #[.int .i8 0, .int .i8 0, .int .i8 0, .int .i8 0, .int .i8 0, .int .i8 0, .int .i8 0, .int .i8 0, .int .i8 0], .int .u8 0, .agg #[.int .i16 0, .int .i16 0, .int .i16 0], .agg #[.int .i16 0, .int .i16 0, .int .i16 0]], []⟩ 8 (by kernel_rfl) (by kernel_rfl) (by kernel_rfl) (by kernel_rfl)) ?_
  intro W base args ds gs before hval0 hW hcnd _
  have hval : ∀ (j : Nat) t v, Try.f3.params[j]? = some t → args[j]? = some v → Value.okWide Try.prog W .any base t v := hval0
  have hW' := hW
  obtain ⟨p, q, hA0, hV, rfl, hfz, hnd⟩ := hW
  have hA : DataW.TrodAll enc Try.prog W 0 (fun _ => true) true Try.f3.params.toList args.toList ds p := hA0
  rw [Try.params3] at hA hval
  obtain ⟨v0, vs0, d0, ds0, p0, q0, hargs, rfl, rfl, h0, r0⟩ := trodAll_cons hA
  obtain ⟨v1, vs1, d1, ds1, p1, q1, rfl, rfl, rfl, h1, r1⟩ := trodAll_cons r0
  obtain ⟨v2, vs2, d2, ds2, p2, q2, rfl, rfl, rfl, h2, r2⟩ := trodAll_cons r1
  obtain ⟨v3, vs3, d3, ds3, p3, q3, rfl, rfl, rfl, h3, r3⟩ := trodAll_cons r2
  obtain ⟨rfl, rfl, rfl⟩ := trodAll_nil r3
  obtain rfl : args = #[v0, v1, v2, v3] := by cases args; simp_all
  obtain ⟨rfl, rfl⟩ := trodVars_none hV
  obtain ⟨xs, hx, rfl, rfl, s0⟩ := open_arr Try.underlying23 Try.underlying22 cells22 cells23 (hval 0 23 v0 rfl rfl) h0
  obtain ⟨k, rfl, rfl, rfl, w1⟩ := open_int Try.underlying5 (hval 1 5 v1 rfl rfl) h1
  obtain ⟨ys, hy, rfl, rfl, s2⟩ := open_arr Try.underlying25 Try.underlying24 cells24 cells25 (hval 2 25 v2 rfl rfl) h2
  obtain ⟨zs, hz, rfl, rfl, s3⟩ := open_arr Try.underlying25 Try.underlying24 cells24 cells25 (hval 3 25 v3 rfl rfl) h3
  clear hA0 hval0
  simp only [List.append_nil] at hW'
  refine (walk xs ys zs k hx hy hz w1 W).mono fun e W' ⟨he, hg⟩ => ?_
  subst he
  exact ⟨_, rfl, post_plain hW' (fun _ _ _ => (trodAll_cons_mk (shut_bool Try.underlying4 _) trodAll_mk0))
    (fun sp => (trodAll_cons_mk (s0 _ _ _ _) (trodAll_cons_mk (shut_int Try.underlying5 w1) (trodAll_cons_mk (s2 _ _ _ _) (trodAll_cons_mk (s3 _ _ _ _) trodAll_mk0))))) (fun _ => rfl)
    hg (ok_one (by kernel_rfl) rfl (okWide_bool_mk Try.underlying4 _))⟩
theorem over : Rows.wholeDistancesRow.holds Try.pinned (OpenSpec.ofChange Rows.wholeDistancesSpec) :=
  OpenClaim.holds_of_wide 3 Try.f3 rfl rfl rfl rfl rfl rfl rfl ⟨rfl, rfl, rfl, rfl, rfl⟩ rfl rfl rfl rfl rfl (by kernel_rfl) Try.func3 (by kernel_rfl)
    (of_decide_eq_true (by kernel_rfl)) (by unfold Func.isWrapper; first | (rw [if_pos (by decide +kernel)]; kernel_rfl) | (rw [if_neg (by decide +kernel)]; exact ⟨rfl, rfl⟩))
    (fun os started H enc _ => lifted os started H enc)
theorem proved : Rows.WholeDistancesSaid :=
  over
#print axioms proved
end Go.Proofs.Ytppbbabmlammpaa.wholeDistances
