import Derived.Test.YtcinopdklobldaaGreatDoorCZ2
import Derived.Test.YtcinopdklobldaaGreatDoorCZ4
open Go Go.AM Go.Proofs
namespace Go.AM
open Dist
set_option maxRecDepth 100000
theorem ratio_ge {N M X Y : Int} (hN : 0 ≤ N) (hf : frm N M = true) (hX : 0 < X) (hY : 0 < Y) (h : M * X ≤ N * Y) :
    ratE N M (X / (Int.gcd X Y : Int)) (Y / (Int.gcd X Y : Int)) = 0 ∧ 0 ≤ ratC N M (X / (Int.gcd X Y : Int)) (Y / (Int.gcd X Y : Int)) := by
  have hg := gcd_pos (A := X) hY
  obtain ⟨dX, dY⟩ := div_g X Y
  have co := co_g (A := X) hY
  generalize X / (Int.gcd X Y : Int) = p at *
  generalize Y / (Int.gcd X Y : Int) = q at *
  generalize (Int.gcd X Y : Int) = g at *
  have hq : 0 < q := by
    rcases Int.lt_trichotomy q 0 with h | h | h
    · have := Int.mul_neg_of_pos_of_neg hg h; omega
    · rw [h, Int.mul_zero] at dY; omega
    · exact h
  have hf2 : frm p q = true := by rw [frm_pos hq, decide_eq_true co]
  obtain ⟨k1, k2⟩ := rat_good hf hf2
  rw [← k1, ← k2]
  refine ⟨rfl, ?_⟩
  have h1 : g * (p * M) ≤ g * (N * q) := by
    have e1 : g * (p * M) = M * X := by rw [dX]; grind
    have e2 : g * (N * q) = N * Y := by rw [dY]; grind
    rw [e1, e2]; exact h
  have h2 := Int.le_of_mul_le_mul_left h1 hg
  rcases Int.lt_trichotomy (N * q - p * M) 0 with k | k | k
  · omega
  · rw [k]; exact Int.le_refl 0
  · rw [sgn_hi k]; omega
theorem ginv_end {a b : Int} (x : { p : Int × Int // GInv a b p }) (h : x.val.snd = 0) : x.val.fst = (Int.gcd a b : Int) := by
  obtain ⟨⟨p, q⟩, hp, hq, hg⟩ := x
  simp only at h hp hg ⊢
  subst h
  rw [← hg]; simp; omega
theorem ginv_step {a b : Int} (x : { p : Int × Int // GInv a b p }) (h : ¬ x.val.snd = 0) : ∃ z : { p : Int × Int // GInv a b p }, z.val.snd.toNat < x.val.snd.toNat ∧ z.val.fst = x.val.snd ∧ z.val.snd = x.val.fst.tmod x.val.snd := by
  obtain ⟨⟨p, q⟩, hp, hq, hg⟩ := x
  simp only at h hp hq hg ⊢
  have hq0 : 0 < q := by omega
  refine ⟨⟨(q, p.tmod q), ⟨hq, Int.tmod_nonneg q hp, ?_⟩⟩, ?_, rfl, rfl⟩
  · rw [← hg]
    simp only
    rw [Int.tmod_eq_emod_of_nonneg hp]
    have e := Int.gcd_add_mul_left_right q (p % q) (p / q)
    rw [Int.emod_add_mul_ediv] at e
    rw [← e, Int.gcd_comm]
  · have := Int.tmod_lt_of_pos p hq0
    have := Int.tmod_nonneg q hp
    show (p.tmod q).toNat < q.toNat
    omega
theorem div_wrap {A g : Int} (hA : 0 ≤ A ∧ A ≤ 100000000000000000) (hg : 0 < g) : IntKind.i64.wrap (A.tdiv g) = A / g ∧ InR (A / g) := by
  have := quo_bd hA hg
  rw [Int.tdiv_eq_ediv_of_nonneg hA.1, wr_id (by omega) (by omega)]
  exact ⟨rfl, by unfold InR; omega⟩
theorem lawDual (a b c d e f h1 h2 h3 u1 u2 u3 : Int) : LawS F2 3000 Tryz.f8 [M6 a b c d e f, V h1 h2 h3, V u1 u2 u3] (AQ a b c d e f h1 h2 h3 (spN a b c d e f h1 h2 h3) (spD a b c d e f h1 h2 h3)) := by
  constructor
  rw [nflawdual]
  have yes : ∀ {b : Bool}, b = true → (AV.v (PV.one (SV.sb b))).valOf = some (Value.bool true) ∧ ([] : Heap) = [] := fun h => by subst h; exact ⟨rfl, rfl⟩
  by_cases hE : ¬ spE a b c d e f h1 h2 h3 = 0
  · refine ⟨fun _ => ⟨fun _ => ⟨rfl, rfl⟩, fun h => absurd (by simpa using h) hE⟩, fun h => absurd (by simpa using h) hE⟩
  have hE := Decidable.not_not.1 hE
  cases hu : within 40 u1 u2 u3 with
  | false => exact ⟨fun h => absurd hE (by simpa using h), fun _ => ⟨fun _ => ⟨fun _ => ⟨rfl, rfl⟩, fun _ => ⟨fun _ => ⟨rfl, rfl⟩, fun h => absurd h (by decide)⟩⟩, fun h => absurd h (by decide)⟩⟩
  | true =>
  cases hh : within 40 h1 h2 h3 with
  | false => exact ⟨fun h => absurd hE (by simpa using h), fun _ => ⟨fun h => absurd h (by decide), fun _ => ⟨fun _ => ⟨fun _ => ⟨rfl, rfl⟩, fun _ => ⟨fun _ => ⟨rfl, rfl⟩, fun _ => yes rfl⟩⟩, fun h => absurd h (by decide)⟩⟩⟩
  | true =>
  refine ⟨fun h => absurd hE (by simpa using h), fun _ => ⟨fun h => absurd h (by decide), fun _ => ⟨fun h => absurd h (by decide), fun _ => ?_⟩⟩⟩
  obtain ⟨bu1, bu2, bu3⟩ := within40 hu
  obtain ⟨bh1, bh2, bh3⟩ := within40 hh
  have p5 : ∀ {x : Int}, -80 ≤ x ∧ x ≤ 80 → P5 x := fun h => by unfold P5; omega
  have p3 : ∀ {x : Int}, -40 ≤ x ∧ x ≤ 40 → P3 x := fun h => by unfold P3; omega
  have q1 : P5 h1 := p5 (by omega)
  have q2 : P5 h2 := p5 (by omega)
  have q3 : P5 h3 := p5 (by omega)
  have hk : checkC a b c d e f = 0 := by
    unfold spE at hE
    rw [over512_no q1 q2 q3] at hE
    exact hE
  obtain ⟨ha, hb, hc, hd, he, hf, s2, s3⟩ := check_spec hk
  have ha0 : 0 < a := by omega
  obtain ⟨-, eN, eD, bN, bD⟩ := sp_low hk q1 q2 q3
  obtain ⟨-, nnA, bA⟩ := spA_big hk q1 q2 q3
  have eu : dotE (checkC a b c d e f) (over3 u1 u2 u3) (over3 u1 u2 u3) = 0 := by rw [hk, over3_no (p3 bu1) (p3 bu2) (p3 bu3)]; rfl
  obtain ⟨qU, bU1, bU2⟩ := prod9_big ha.2 hb.2 hc.2 hd he hf (p3 bu1) (p3 bu2) (p3 bu3) (p3 bu1) (p3 bu2) (p3 bu3)
  have nnU := bil_nn ha0 s2 s3 u1 u2 u3
  rw [eu, if_pos rfl, qU]
  have m1 := mul_bd (a := h1) (b := u1) (A := 40) (B := 40) bh1 bu1
  have m2 := mul_bd (a := h2) (b := u2) (A := 40) (B := 40) bh2 bu2
  have m3 := mul_bd (a := h3) (b := u3) (A := 40) (B := 40) bh3 bu3
  have eH : IntKind.i64.wrap (IntKind.i64.wrap (IntKind.i64.wrap (h1 * u1) + IntKind.i64.wrap (h2 * u2)) + IntKind.i64.wrap (h3 * u3)) = h1 * u1 + h2 * u2 + h3 * u3 := by
    rw [wr_id (n := h1 * u1) (by omega) (by omega), wr_id (n := h2 * u2) (by omega) (by omega), wr_id (n := h3 * u3) (by omega) (by omega), wr_id (n := h1 * u1 + h2 * u2) (by omega) (by omega), wr_id (by omega) (by omega)]
  rw [eH]
  have hd1 := dual ha0 s2 s3 h1 h2 h3 u1 u2 u3
  have bH : -4800 ≤ h1 * u1 + h2 * u2 + h3 * u3 ∧ h1 * u1 + h2 * u2 + h3 * u3 ≤ 4800 := by omega
  generalize h1 * u1 + h2 * u2 + h3 * u3 = H at *
  have mH := mul_bd bH bH
  have hHn := sq_nn H
  have eHH : IntKind.i64.wrap (H * H) = H * H := wr_id (by omega) (by omega)
  rw [eHH]
  generalize bil a b c d e f u1 u2 u3 u1 u2 u3 = U at *
  have hD3 : 0 < detM a b c d e f := s3
  have co := co_g (A := adjF a b c d e f h1 h2 h3) hD3
  have dg := div_g (adjF a b c d e f h1 h2 h3) (detM a b c d e f)
  have hg := gcd_pos (A := adjF a b c d e f h1 h2 h3) hD3
  -- the second spacings
  have w2 : ∀ {x : Int}, -40 ≤ x ∧ x ≤ 40 → IntKind.i64.wrap (2 * x) = 2 * x := fun h => wr_id (by omega) (by omega)
  have wm : ∀ {x : Int}, -40 ≤ x ∧ x ≤ 40 → IntKind.i64.wrap (0 - x) = -x := fun h => by rw [wr_id (by omega) (by omega)]; omega
  obtain ⟨f0, fN, fD, -, -⟩ := sp_low hk (x := 2 * h1) (y := 2 * h2) (z := 2 * h3) (p5 (by omega)) (p5 (by omega)) (p5 (by omega))
  obtain ⟨g0, gN, gD, -, -⟩ := sp_low hk (x := -h1) (y := -h2) (z := -h3) (p5 (by omega)) (p5 (by omega)) (p5 (by omega))
  rw [adjF_two] at fN fD
  rw [adjF_neg] at gN gD
  obtain ⟨k, -, k1, k2, k3⟩ := four_low hD3 nnA eN eD
  rw [← fN] at k1
  rw [← fD] at k2
  have hz : spN a b c d e f h1 h2 h3 = 0 → spD a b c d e f h1 h2 h3 = 1 := fun h0 => by
    rw [← eN, ← eD, h0, Int.gcd_zero_left] at co
    omega
  have hfrm : frm (spN a b c d e f h1 h2 h3) (spD a b c d e f h1 h2 h3) = true := by
    rw [frm_pos (by omega), eN, eD, decide_eq_true co]
  have hrat : spD a b c d e f h1 h2 h3 * (H * H) ≤ spN a b c d e f h1 h2 h3 * U := by
    rw [← eN, ← eD] at dg
    generalize (Int.gcd (adjF a b c d e f h1 h2 h3) (detM a b c d e f) : Int) = g at *
    refine Int.le_of_mul_le_mul_left (a := g) ?_ hg
    have x1 : g * (spD a b c d e f h1 h2 h3 * (H * H)) = detM a b c d e f * (H * H) := by
      have := dg.2
      calc g * (spD a b c d e f h1 h2 h3 * (H * H)) = (g * spD a b c d e f h1 h2 h3) * (H * H) := by grind
        _ = _ := by rw [← this]
    have x2 : g * (spN a b c d e f h1 h2 h3 * U) = adjF a b c d e f h1 h2 h3 * U := by
      have := dg.1
      calc g * (spN a b c d e f h1 h2 h3 * U) = (g * spN a b c d e f h1 h2 h3) * U := by grind
        _ = _ := by rw [← this]
    rw [x1, x2]
    exact hd1
  refine ⟨fun h => by simp at h, fun _ => ⟨fun h => by simp at h; omega, fun _ => ⟨fun h => by simp at h; omega, fun _ => ⟨⟨fun hU => ⟨fun hH => ⟨⟨⟨(H * H, U), ⟨by omega, by omega, rfl⟩⟩, ?_⟩, fun x => ⟨fun hx => ?_, fun hx => ?_⟩⟩, fun _ => ⟨PUnit.unit, ?_⟩⟩, fun _ => ⟨PUnit.unit, ?_⟩⟩, fun _ => ?_⟩⟩⟩⟩
  · repeat' apply And.intro
    all_goals first | trivial | rfl
  · have hU : 0 < U := by simpa using hU
    have hH0 : H ≠ 0 := by simpa using hH
    have hHH : 0 < H * H := sq_pos hH0
    have hx0 : x.val.snd = 0 := by simpa using hx
    have hxg := ginv_end x hx0
    have hgp := gcd_pos (A := H * H) hU
    rw [hxg]
    obtain ⟨d1, d2⟩ := div_wrap (A := H * H) ⟨by omega, by omega⟩ hgp
    obtain ⟨d3, d4⟩ := div_wrap (A := U) ⟨nnU, by omega⟩ hgp
    obtain ⟨r1, r2⟩ := ratio_ge bN.1 hfrm hHH hU hrat
    rw [d1, d3, r1]
    refine ⟨fun h => by omega, fun h => by omega, ⟨⟨⟨by omega, by omega⟩, by omega, by omega⟩, d2, d4⟩, fun h => by simp at h, fun _ => ⟨fun h => by simp at h; omega, fun _ => ⟨PUnit.unit, ?_⟩⟩⟩
    repeat' apply And.intro
    all_goals first | trivial | rfl
  · have hx0 : ¬ x.val.snd = 0 := by simpa using hx
    obtain ⟨z, z1, z2, z3⟩ := ginv_step x hx0
    refine ⟨hx0, z, z1, ⟨rfl, rfl, z2, z3, trivial⟩, ?_⟩
    repeat' apply And.intro
    all_goals first | trivial | rfl
  · repeat' apply And.intro
    all_goals first | trivial | rfl
  · repeat' apply And.intro
    all_goals first | trivial | rfl
  · rw [w2 bh1, w2 bh2, w2 bh3, wm bh1, wm bh2, wm bh3]
    exact tail_dual bN bD f0 g0 (gN.trans eN.symm) (gD.trans eD.symm) k1 k2 k3 hz
theorem oF2 : OkS P F2 := ((⟨okD10, soD10, smD10⟩ : OkS P D10).add1 fine (⟨okD6, soD6, smD6⟩ : OkS P D6) hc25).add fine hcCompare
theorem okF2 : PureOk Tryz.prog F2 := oF2.pure
theorem soF2 : SpecOk Tryz.prog F2 := oF2.spec
theorem smF2 : SpecMono F2 := oF2.mono
end Go.AM
