import Derived.Test.YtppbbabmlammpaaDoorTG9
set_option linter.unusedVariables false
set_option linter.unusedSimpArgs false
open Go Go.AM Go.Proofs
namespace Go.AM
open Dist
set_option maxRecDepth 100000
theorem HRel.reread [Glob] {w0 : World} {Sx : Marks} {pl : List Pl} {h : Heap} {w : World} (hR : HRel w0 Sx pl h w) {b T : Nat} {cs cs' : List SV} (hg : h[b]? = some (.row T cs)) (hc : ∀ vs, RL pl cs vs → RL pl cs' vs) : HRel w0 Sx pl (AM.set h b (.row T cs')) w := by
  have hset : ∀ (c : Nat) x, (AM.set h b (.row T cs'))[c]? = some x → (c = b ∧ x = .row T cs') ∨ (c ≠ b ∧ h[c]? = some x) := fun c x hx => by
    by_cases e : b = c
    · subst e
      rw [get_set_same hg] at hx
      exact .inl ⟨rfl, (Option.some.inj hx).symm⟩
    · rw [get_set_other e] at hx
      exact .inr ⟨fun h => e h.symm, hx⟩
  have old : ∀ (c : Nat) x, (AM.set h b (.row T cs'))[c]? = some x → ∃ y, h[c]? = some y ∧ (∀ p, x.alive p = y.alive p) ∧ ∀ p, x.rd p = y.rd p := fun c x hx => by
    rcases hset c x hx with ⟨rfl, rfl⟩ | ⟨_, hx⟩
    · exact ⟨_, hg, fun _ => rfl, fun _ => rfl⟩
    · exact ⟨x, hx, fun _ => rfl, fun _ => rfl⟩
  refine ⟨by rw [set_eq, List.length_set]; exact hR.len, hR.fr, ?_, ?_, ?_, ?_, ?_, hR.rok⟩
  · intro c x q hx hq
    rcases hset c x hx with ⟨rfl, rfl⟩ | ⟨_, hx⟩
    · obtain ⟨vs, h1, h2⟩ := hR.hb c _ q hg hq
      exact ⟨vs, hc vs h1, h2⟩
    · exact hR.hb c x q hx hq
  · intro c q x hq hx ha
    obtain ⟨y, h1, h2, _⟩ := old c x hx
    exact hR.lt c q y hq h1 (by rw [← h2]; exact ha)
  · intro c q x hq hx ha
    obtain ⟨y, h1, h2, _⟩ := old c x hx
    exact hR.own c q y hq h1 (by rw [← h2]; exact ha)
  · intro c d q r x y hq hr hx hy ha hb
    obtain ⟨x', h1, h2, _⟩ := old c x hx
    obtain ⟨y', h3, h4, _⟩ := old d y hy
    exact hR.inj c d q r x' y' hq hr h1 h3 (by rw [← h2]; exact ha) (by rw [← h4]; exact hb)
  · intro c q x hq hx hd
    obtain ⟨y, h1, _, h2⟩ := old c x hx
    exact hR.ro c q y hq h1 (by rw [← h2]; exact hd)
def splitSpec (sp : ASpec) : ASpec := fun args h K => match args with
  | .v (.one (.ptr rb 0)) :: _ => sp args h (fun v h' => match get? h' rb with
    | some (.row T [a, b, c, .sym .i64 p]) => (p < 0 → p = -1 ∧ K v (set h' rb (.row T [a, b, c, .con .i64 (-1)]))) ∧ (0 ≤ p → K v (set h' rb (.row T [a, b, c, .sym .i64 (Int.ofNat p.toNat)])))
    | _ => False)
  | _ => False
theorem OkS.split [Glob] {P : Program} {S : Sums} (h : OkS P S) {f : Nat} {sp : ASpec} (hf : S.spec f = some sp) : OkS P (S.addSp f (splitSpec sp)) := by
  refine ⟨h.pure, ⟨fun g sp' hg => ?_, h.spec.2⟩, fun g sp' hg => ?_⟩
  · by_cases e : g = f
    · subst e
      simp only [Sums.addSp, if_true] at hg
      cases hg
      obtain ⟨hfn, hrun⟩ := h.spec.1 g sp hf
      refine ⟨hfn, fun args hh K hsp w0 Sx pl w vals hR hargs => ?_⟩
      unfold splitSpec at hsp
      split at hsp
      · rename_i rb os
        refine (hrun _ _ _ hsp w0 Sx pl w vals hR hargs).mono ?_
        rintro e w' ⟨v, av, h', pl', rfl, hv, hpe, hR', hK⟩
        split at hK
        · rename_i T a b c p hg
          rw [get?_eq] at hg
          by_cases hp : p < 0
          · obtain ⟨e, hk⟩ := hK.1 hp
            refine ⟨v, av, _, pl', rfl, hv, hpe, hR'.reread hg (fun vs hvs => ?_), hk⟩
            match vs, hvs with
            | [_, _, _, _], hvs => exact ⟨hvs.1, hvs.2.1, hvs.2.2.1, hvs.2.2.2.1.imp (fun h => by cases h) (fun h => by subst e; exact h), trivial⟩
          · have hp : 0 ≤ p := by omega
            refine ⟨v, av, _, pl', rfl, hv, hpe, hR'.reread hg (fun vs hvs => ?_), hK.2 hp⟩
            have e : p = Int.ofNat p.toNat := (Int.toNat_of_nonneg hp).symm
            rw [← e]
            exact hvs
        · exact hK.elim
      · exact hsp.elim
    · simp only [Sums.addSp, if_neg e] at hg
      exact h.spec.1 g sp' hg
  · by_cases e : g = f
    · subst e
      simp only [Sums.addSp, if_true] at hg
      cases hg
      intro args hh K K' hK hx
      unfold splitSpec at hx ⊢
      split at hx
      · refine h.mono g sp hf _ _ _ _ (fun v h' hk => ?_) hx
        split at hk
        · exact ⟨fun hp => ⟨(hk.1 hp).1, hK _ _ (hk.1 hp).2⟩, fun hp => hK _ _ (hk.2 hp)⟩
        · exact hk.elim
      · exact hx.elim
    · simp only [Sums.addSp, if_neg e] at hg
      exact h.mono g sp' hg
def qFormD : PSpec
  | [.v (.agg [.sym .i64 a, .sym .i64 b, .sym .i64 c, .sym .i64 d, .sym .i64 e, .sym .i64 f, .sym .i64 g, .sym .i64 h, .sym .i64 i])] => .ok (.v (.one (.sym .i64 (matE a b c d e f g h i))))
  | _ => .fail
theorem nfdform (a b c d e f g h i : Int) (K : KV) : call P (Z5 stdOn) noAnn 10000 Tryd.f42 [.v (.agg [.sym .i64 a, .sym .i64 b, .sym .i64 c, .sym .i64 d, .sym .i64 e, .sym .i64 f, .sym .i64 g, .sym .i64 h, .sym .i64 i])] [] K = ((decide (a < (-1000 : Int)) = true → K (AV.v (PV.one (SV.con IntKind.i64 (4 : Int)))) []) ∧ (decide (a < (-1000 : Int)) = false → (decide ((1000 : Int) < a) = true → K (AV.v (PV.one (SV.con IntKind.i64 (4 : Int)))) []) ∧ (decide ((1000 : Int) < a) = false → (decide (b < (-1000 : Int)) = true → K (AV.v (PV.one (SV.con IntKind.i64 (4 : Int)))) []) ∧ (decide (b < (-1000 : Int)) = false → (decide ((1000 : Int) < b) = true → K (AV.v (PV.one (SV.con IntKind.i64 (4 : Int)))) []) ∧ (decide ((1000 : Int) < b) = false → (decide (c < (-1000 : Int)) = true → K (AV.v (PV.one (SV.con IntKind.i64 (4 : Int)))) []) ∧ (decide (c < (-1000 : Int)) = false → (decide ((1000 : Int) < c) = true → K (AV.v (PV.one (SV.con IntKind.i64 (4 : Int)))) []) ∧ (decide ((1000 : Int) < c) = false → (decide (d < (-1000 : Int)) = true → K (AV.v (PV.one (SV.con IntKind.i64 (4 : Int)))) []) ∧ (decide (d < (-1000 : Int)) = false → (decide ((1000 : Int) < d) = true → K (AV.v (PV.one (SV.con IntKind.i64 (4 : Int)))) []) ∧ (decide ((1000 : Int) < d) = false → (decide (e < (-1000 : Int)) = true → K (AV.v (PV.one (SV.con IntKind.i64 (4 : Int)))) []) ∧ (decide (e < (-1000 : Int)) = false → (decide ((1000 : Int) < e) = true → K (AV.v (PV.one (SV.con IntKind.i64 (4 : Int)))) []) ∧ (decide ((1000 : Int) < e) = false → (decide (f < (-1000 : Int)) = true → K (AV.v (PV.one (SV.con IntKind.i64 (4 : Int)))) []) ∧ (decide (f < (-1000 : Int)) = false → (decide ((1000 : Int) < f) = true → K (AV.v (PV.one (SV.con IntKind.i64 (4 : Int)))) []) ∧ (decide ((1000 : Int) < f) = false → (decide (g < (-1000 : Int)) = true → K (AV.v (PV.one (SV.con IntKind.i64 (4 : Int)))) []) ∧ (decide (g < (-1000 : Int)) = false → (decide ((1000 : Int) < g) = true → K (AV.v (PV.one (SV.con IntKind.i64 (4 : Int)))) []) ∧ (decide ((1000 : Int) < g) = false → (decide (h < (-1000 : Int)) = true → K (AV.v (PV.one (SV.con IntKind.i64 (4 : Int)))) []) ∧ (decide (h < (-1000 : Int)) = false → (decide ((1000 : Int) < h) = true → K (AV.v (PV.one (SV.con IntKind.i64 (4 : Int)))) []) ∧ (decide ((1000 : Int) < h) = false → (decide (i < (-1000 : Int)) = true → K (AV.v (PV.one (SV.con IntKind.i64 (4 : Int)))) []) ∧ (decide (i < (-1000 : Int)) = false → (decide ((1000 : Int) < i) = true → K (AV.v (PV.one (SV.con IntKind.i64 (4 : Int)))) []) ∧ (decide ((1000 : Int) < i) = false → ((!decide (IntKind.i64.wrap (IntKind.i64.wrap (IntKind.i64.wrap ((0 : Int) + IntKind.i64.wrap (IntKind.i64.wrap (IntKind.i64.wrap (a * e) * i) - IntKind.i64.wrap (IntKind.i64.wrap (a * f) * h))) + IntKind.i64.wrap (IntKind.i64.wrap (IntKind.i64.wrap (b * f) * g) - IntKind.i64.wrap (IntKind.i64.wrap (b * d) * i))) + IntKind.i64.wrap (IntKind.i64.wrap (IntKind.i64.wrap (c * d) * h) - IntKind.i64.wrap (IntKind.i64.wrap (c * e) * g))) = (1 : Int))) = true → ((!decide (IntKind.i64.wrap (IntKind.i64.wrap (IntKind.i64.wrap ((0 : Int) + IntKind.i64.wrap (IntKind.i64.wrap (IntKind.i64.wrap (a * e) * i) - IntKind.i64.wrap (IntKind.i64.wrap (a * f) * h))) + IntKind.i64.wrap (IntKind.i64.wrap (IntKind.i64.wrap (b * f) * g) - IntKind.i64.wrap (IntKind.i64.wrap (b * d) * i))) + IntKind.i64.wrap (IntKind.i64.wrap (IntKind.i64.wrap (c * d) * h) - IntKind.i64.wrap (IntKind.i64.wrap (c * e) * g))) = (-1 : Int))) = true → K (AV.v (PV.one (SV.con IntKind.i64 (3 : Int)))) []) ∧ ((!decide (IntKind.i64.wrap (IntKind.i64.wrap (IntKind.i64.wrap ((0 : Int) + IntKind.i64.wrap (IntKind.i64.wrap (IntKind.i64.wrap (a * e) * i) - IntKind.i64.wrap (IntKind.i64.wrap (a * f) * h))) + IntKind.i64.wrap (IntKind.i64.wrap (IntKind.i64.wrap (b * f) * g) - IntKind.i64.wrap (IntKind.i64.wrap (b * d) * i))) + IntKind.i64.wrap (IntKind.i64.wrap (IntKind.i64.wrap (c * d) * h) - IntKind.i64.wrap (IntKind.i64.wrap (c * e) * g))) = (-1 : Int))) = false → K (AV.v (PV.one (SV.con IntKind.i64 (0 : Int)))) [])) ∧ ((!decide (IntKind.i64.wrap (IntKind.i64.wrap (IntKind.i64.wrap ((0 : Int) + IntKind.i64.wrap (IntKind.i64.wrap (IntKind.i64.wrap (a * e) * i) - IntKind.i64.wrap (IntKind.i64.wrap (a * f) * h))) + IntKind.i64.wrap (IntKind.i64.wrap (IntKind.i64.wrap (b * f) * g) - IntKind.i64.wrap (IntKind.i64.wrap (b * d) * i))) + IntKind.i64.wrap (IntKind.i64.wrap (IntKind.i64.wrap (c * d) * h) - IntKind.i64.wrap (IntKind.i64.wrap (c * e) * g))) = (1 : Int))) = false → K (AV.v (PV.one (SV.con IntKind.i64 (0 : Int)))) [])))))))))))))))))))) := by kernel_rfl
def ddet (a b c d e f g h i : Int) : Int := IntKind.i64.wrap (IntKind.i64.wrap (IntKind.i64.wrap ((0 : Int) + IntKind.i64.wrap (IntKind.i64.wrap (IntKind.i64.wrap (a * e) * i) - IntKind.i64.wrap (IntKind.i64.wrap (a * f) * h))) + IntKind.i64.wrap (IntKind.i64.wrap (IntKind.i64.wrap (b * f) * g) - IntKind.i64.wrap (IntKind.i64.wrap (b * d) * i))) + IntKind.i64.wrap (IntKind.i64.wrap (IntKind.i64.wrap (c * d) * h) - IntKind.i64.wrap (IntKind.i64.wrap (c * e) * g)))
theorem ddet_eq {a b c d e f g h i : Int} (ho : over9 a b c d e f g h i = false) : ddet a b c d e f g h i = det9 a b c d e f g h i := by
  rw [det9_id ho]
  obtain ⟨ha, hb, hc, hd, he, hf, hg, hh, hi⟩ := over9_false.1 ho
  have a1 := mul_bd ha he
  have a2 := mul_bd a1 hi
  have a3 := mul_bd ha hf
  have a4 := mul_bd a3 hh
  have b1 := mul_bd hb hf
  have b2 := mul_bd b1 hg
  have b3 := mul_bd hb hd
  have b4 := mul_bd b3 hi
  have c1 := mul_bd hc hd
  have c2 := mul_bd c1 hh
  have c3 := mul_bd hc he
  have c4 := mul_bd c3 hg
  unfold ddet
  rw [wr_id (n := a * e) (by omega) (by omega), wr_id (n := a * e * i) (by omega) (by omega), wr_id (n := a * f) (by omega) (by omega), wr_id (n := a * f * h) (by omega) (by omega), wr_id (n := a * e * i - a * f * h) (by omega) (by omega), wr_id (n := 0 + (a * e * i - a * f * h)) (by omega) (by omega)]
  rw [wr_id (n := b * f) (by omega) (by omega), wr_id (n := b * f * g) (by omega) (by omega), wr_id (n := b * d) (by omega) (by omega), wr_id (n := b * d * i) (by omega) (by omega), wr_id (n := b * f * g - b * d * i) (by omega) (by omega), wr_id (n := 0 + (a * e * i - a * f * h) + (b * f * g - b * d * i)) (by omega) (by omega)]
  rw [wr_id (n := c * d) (by omega) (by omega), wr_id (n := c * d * h) (by omega) (by omega), wr_id (n := c * e) (by omega) (by omega), wr_id (n := c * e * g) (by omega) (by omega), wr_id (n := c * d * h - c * e * g) (by omega) (by omega), wr_id (by omega) (by omega)]
  unfold detI
  grind
theorem hFormD : Holds P (Z5 stdOn) 42 qFormD := by
  refine holdsA (fn := Tryd.f42) noAnn 10000 rfl (by kernel_rfl) (by kernel_rfl) fun args av hg => ?_
  unfold qFormD at hg
  split at hg
  · rename_i a b c d e f g h i
    rw [gives_ok hg]
    refine ⟨rfl, .int .i64 (matE a b c d e f g h i), rfl, ?_⟩
    rw [nfdform]
    have ov : ¬ (B1 a ∧ B1 b ∧ B1 c ∧ B1 d ∧ B1 e ∧ B1 f ∧ B1 g ∧ B1 h ∧ B1 i) → (4 : Int) = matE a b c d e f g h i := fun hn => by
      cases ho : over9 a b c d e f g h i with
      | false => exact absurd (over9_false.1 ho) hn
      | true => rw [matE, if_pos ho]
    have nov : (B1 a ∧ B1 b ∧ B1 c ∧ B1 d ∧ B1 e ∧ B1 f ∧ B1 g ∧ B1 h ∧ B1 i) → matE a b c d e f g h i = (if ddet a b c d e f g h i = 1 then 0 else if ddet a b c d e f g h i = -1 then 0 else 3) := fun hn => by
      have ho := over9_false.2 hn
      rw [ddet_eq ho, matE, if_neg (by rw [ho]; decide)]
    change _ ∧ _
    rw [show IntKind.i64.wrap (IntKind.i64.wrap (IntKind.i64.wrap ((0 : Int) + IntKind.i64.wrap (IntKind.i64.wrap (IntKind.i64.wrap (a * e) * i) - IntKind.i64.wrap (IntKind.i64.wrap (a * f) * h))) + IntKind.i64.wrap (IntKind.i64.wrap (IntKind.i64.wrap (b * f) * g) - IntKind.i64.wrap (IntKind.i64.wrap (b * d) * i))) + IntKind.i64.wrap (IntKind.i64.wrap (IntKind.i64.wrap (c * d) * h) - IntKind.i64.wrap (IntKind.i64.wrap (c * e) * g))) = ddet a b c d e f g h i from rfl]
    generalize matE a b c d e f g h i = m at *
    generalize ddet a b c d e f g h i = q at *
    unfold B1 at ov nov
    repeat' (first | intro _ | apply And.intro)
    all_goals simp only [decide_eq_true_eq, decide_eq_false_iff_not, Bool.not_eq_true', Bool.not_eq_false'] at *
    all_goals first
      | rfl
      | (refine (leafC (n := 4) (m := m) (ov (by omega))).1)
      | (refine (leafC (n := 0) (m := m) (by rw [nov (by omega)]; first | rw [if_pos (by assumption)] | rw [if_neg (by assumption), if_pos (by assumption)])).1)
      | (refine (leafC (n := 3) (m := m) (by rw [nov (by omega), if_neg (by assumption), if_neg (by assumption)])).1)
  · exact (gives_fail hg).elim
def qRowN : ASpec := stSpec 89 100 dtkC qRowD
def qTakN : ASpec := stSpec 89 100 dtkC qTakeD
def qFraN : ASpec := stSpec 89 100 dtkC qFracD
def Z7 (o : OnB) : Sums := ((((Z6 o).add 42 qFormD).addSp 41 (splitSpec qRowN)).addSp 40 (splitSpec qTakN)).addSp 48 (splitSpec qFraN)
theorem pZ7 (o : OnB) : OkS P (Z7 o) := ((((pZ6 o).add1 fine (pZ5 stdOn) hFormD).split (f := 41) (sp := qRowN) rfl).split (f := 40) (sp := qTakN) rfl).split (f := 48) (sp := qFraN) rfl
end Go.AM
