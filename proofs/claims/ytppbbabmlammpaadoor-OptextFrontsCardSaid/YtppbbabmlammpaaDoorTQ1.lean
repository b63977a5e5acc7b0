import Derived.Test.YtppbbabmlammpaaDoorTQ0
set_option linter.unusedVariables false
set_option linter.unusedSimpArgs false
open Go Go.AM Go.Proofs
namespace Go.AM
open Dist
set_option maxRecDepth 100000
theorem wk_digs {d : List UInt8} (h : digs d) : wk d = 110 := by
  obtain ⟨h1, h2⟩ := h
  cases d with
  | nil => exact absurd rfl h1
  | cons b r =>
    show kindR b.toNat = 110
    unfold kindR
    rw [if_pos (digR_b (h2 b (by simp)))]
theorem step_num {ys : List Tok} {x : RS} {j : Nat} (hj : sgN ys x.st = j) (hc : ¬ (x.first = false ∧ sgB ys x.st = false)) (hk : (tk ys j).kind = 110) (hl : j + 1 < ys.length) (hn : ¬ (tk ys (j + 1)).kind = 120) :
    stepR ys x = if 0 ≤ (frS ys j x.again).2.1 then .inr (x.err (frS ys j x.again).2.1 (frS ys j x.again).2.2) else .inl ⟨(frS ys j x.again).2.2, x.e0, x.e1, x.e2, sgV ys x.st * (frS ys j x.again).1, x.s0, x.s1, x.s2, true, false⟩ := by
  unfold stepR
  rw [if_neg hc, hj, nx_at hl, if_neg (fun h => hn h.2), if_neg (by rw [hk]; decide), if_pos hk]
theorem fr_a {ys : List Tok} {j : Nat} {g : Bool} (l1 : j + 1 < ys.length) (h1 : (tk ys (j + 1)).kind = 46) : (frS ys j g).2.1 = (tk ys j).pos ∨ ((frS ys j g).2.1 = -1 ∧ (frS ys j g).2.2 = j + 1) := by
  unfold frS
  rw [nx_at l1]
  split
  · exact .inl rfl
  · rw [if_pos (by rw [h1]; decide)]; exact .inr ⟨rfl, rfl⟩
theorem fr_b {ys : List Tok} {j : Nat} {g : Bool} (l1 : j + 1 < ys.length) (l2 : j + 1 + 1 < ys.length) (h1 : (tk ys (j + 1)).kind = 47) (h2 : (tk ys (j + 1 + 1)).kind = 46) : (frS ys j g).2.1 = (tk ys j).pos ∨ (frS ys j g).2.1 = (tk ys (j + 1 + 1)).pos := by
  unfold frS
  rw [nx_at l1, nx_at l2]
  split
  · exact .inl rfl
  · rw [if_neg (by rw [h1]; decide), if_pos (by rw [h2]; decide)]; exact .inr rfl
theorem fr_c {ys : List Tok} {j : Nat} {g : Bool} (l1 : j + 1 < ys.length) (l2 : j + 1 + 1 < ys.length) (l3 : j + 1 + 1 + 1 < ys.length) (h1 : (tk ys (j + 1)).kind = 47) (h2 : (tk ys (j + 1 + 1)).kind = 110) :
    (frS ys j g).2.1 = (tk ys j).pos ∨ ((frS ys j g).2.1 = -1 ∧ (frS ys j g).2.2 = j + 1 + 1 + 1) := by
  unfold frS
  rw [nx_at l1, nx_at l2, nx_at l3]
  split
  · exact .inl rfl
  · rw [if_neg (by rw [h1]; decide), if_neg (by rw [h2]; decide)]
    split
    · exact .inl rfl
    · exact .inr ⟨rfl, rfl⟩
theorem row_cut {ys : List Tok} {x : RS} {p : Pg} {n k : Nat} {next : Rd} (hs : saysAt ys x.st p.w) (hk : k = x.st + p.w.length) (hl : k + 1 = ys.length) (he : (tk ys k).kind = 46) (hE : 0 ≤ (tk ys k).pos) (hN : p.r ≠ [] → 0 ≤ (tk ys (x.st + p.s.w.length)).pos) (ok : p.ok x.first) :
    rowT ys (rowR ys (n + 2) x) 44 next = rdZ (tk ys k).pos 12 ∨ (p.r ≠ [] ∧ rowT ys (rowR ys (n + 2) x) 44 next = rdZ (tk ys (x.st + p.s.w.length)).pos 12) := by
  have hw : p.w.length = p.s.w.length + p.r.length := by rw [p.wr, List.length_append]
  rw [p.wr] at hs
  obtain ⟨h1, h2⟩ := saysAt_app hs
  have hE2 : ∀ r : RR, r.fault = -1 → r.st = k → rowT ys r 44 next = rdZ (tk ys k).pos 12 := fun r f s => by
    unfold rowT; rw [f, s, if_neg (by decide), if_pos (by rw [he]; decide)]
  have hF : ∀ (r : RR) (q : Int), 0 ≤ q → r.fault = q → rowT ys r 44 next = rdZ q 12 := fun r q h f => by
    unfold rowT; rw [f, if_pos h]
  have hS : ∀ (y : RS) (m : Nat), y.first = false → y.st = k → rowT ys (rowR ys (m + 1) y) 44 next = rdZ (tk ys k).pos 12 := fun y m f s => by
    rw [row_stop f (by rw [s, he]; decide)]; exact hE2 _ rfl s
  by_cases hr : p.r = []
  · left
    have kk : k = x.st + p.s.w.length := by rw [hk, hw, hr]; rfl
    have hno : p.s = .no → ¬ (tk ys x.st).kind = 43 := fun e => by
      have : k = x.st := by rw [kk, e]; rfl
      rw [← this, he]; decide
    obtain ⟨s1, _, _⟩ := sg_at h1 hno
    by_cases hc : x.first = false ∧ sgB ys x.st = false
    · have : stepR ys x = .inr ⟨x.e0, x.e1, x.e2, x.parts, -1, sgN ys x.st⟩ := if_pos hc
      rw [rowR, this]
      exact hE2 _ rfl (by rw [kk]; exact s1)
    · have : stepR ys x = .inr (x.err (tk ys k).pos k) := by
        unfold stepR
        rw [if_neg hc, s1, ← kk, if_neg (by rw [he]; rintro ⟨h, _⟩; cases h), if_neg (by rw [he]; decide), if_neg (by rw [he]; decide)]
      rw [rowR, this]
      exact hF _ _ hE rfl
  · -- a number stands there
    have kj : (tk ys (x.st + p.s.w.length)).kind = 110 := by
      cases p with
      | sg s => exact absurd rfl hr
      | num s d => exact h2.1.trans (wk_digs ok.2)
      | sl s d => exact h2.1.trans (wk_digs ok.2)
      | den s d e => exact h2.1.trans (wk_digs ok.2.1)
    have hno : p.s = .no → ¬ (tk ys x.st).kind = 43 := fun e => by
      rw [show x.st = x.st + p.s.w.length by rw [e]; rfl, kj]; decide
    obtain ⟨s1, _, s3⟩ := sg_at h1 hno
    have hc : ¬ (x.first = false ∧ sgB ys x.st = false) := by
      have hf : x.first = true ∨ p.s ≠ .no := by
        cases p with
        | sg s => exact absurd rfl hr
        | num s d => exact ok.1
        | sl s d => exact ok.1
        | den s d e => exact ok.1
      rintro ⟨f1, f2⟩
      rcases hf with f | f
      · rw [f] at f1; cases f1
      · rw [s3 f] at f2; cases f2
    have l1 : x.st + p.s.w.length + 1 < ys.length := by
      have : 0 < p.r.length := List.length_pos_iff.2 hr
      omega
    have hfr : ¬ (tk ys (x.st + p.s.w.length + 1)).kind = 120 ∧ ((frS ys (x.st + p.s.w.length) x.again).2.1 = (tk ys (x.st + p.s.w.length)).pos ∨ (frS ys (x.st + p.s.w.length) x.again).2.1 = (tk ys k).pos ∨ ((frS ys (x.st + p.s.w.length) x.again).2.1 = -1 ∧ (frS ys (x.st + p.s.w.length) x.again).2.2 = k)) := by
      cases p with
      | sg s => exact absurd rfl hr
      | num s d =>
        have kk : k = x.st + s.w.length + 1 := by rw [hk, hw]; rfl
        rw [kk] at he
        refine ⟨by show ¬ (tk ys (x.st + s.w.length + 1)).kind = 120; rw [he]; decide, ?_⟩
        rw [kk]
        rcases fr_a (g := x.again) l1 he with h | h
        · exact .inl h
        · exact .inr (.inr h)
      | sl s d =>
        have kk : k = x.st + s.w.length + 1 + 1 := by rw [hk, hw]; rfl
        rw [kk] at he hl
        have h47 : (tk ys (x.st + s.w.length + 1)).kind = 47 := h2.2.2.2.1
        refine ⟨by show ¬ (tk ys (x.st + s.w.length + 1)).kind = 120; rw [h47]; decide, ?_⟩
        rw [kk]
        rcases fr_b (g := x.again) l1 (by show x.st + s.w.length + 1 + 1 < ys.length; omega) h47 he with h | h
        · exact .inl h
        · exact .inr (.inl h)
      | den s d e =>
        have kk : k = x.st + s.w.length + 1 + 1 + 1 := by rw [hk, hw]; rfl
        rw [kk] at he hl
        have h47 : (tk ys (x.st + s.w.length + 1)).kind = 47 := h2.2.2.2.1
        have h110 : (tk ys (x.st + s.w.length + 1 + 1)).kind = 110 := h2.2.2.2.2.2.2.1.trans (wk_digs ok.2.2)
        refine ⟨by show ¬ (tk ys (x.st + s.w.length + 1)).kind = 120; rw [h47]; decide, ?_⟩
        rw [kk]
        rcases fr_c (g := x.again) l1 (by show x.st + s.w.length + 1 + 1 < ys.length; omega) (by show x.st + s.w.length + 1 + 1 + 1 < ys.length; omega) h47 h110 with h | h
        · exact .inl h
        · exact .inr (.inr h)
    have hst := step_num s1 hc kj l1 hfr.1
    have hN := hN hr
    rcases hfr.2 with h | h | h
    · refine .inr ⟨hr, ?_⟩
      rw [rowR, hst, h, if_pos hN]
      exact hF _ _ hN rfl
    · left
      rw [rowR, hst, h, if_pos hE]
      exact hF _ _ hE rfl
    · left
      rw [rowR, hst, h.1, if_neg (by decide), h.2]
      exact hS _ n rfl rfl
def sdB (b : UInt8) : Prop := b = 47 ∨ digB b
theorem pg_bytes {p : Pg} {f : Bool} (ok : p.ok f) : ∀ b ∈ p.r.flatten, sdB b := by
  intro b hb
  cases p with
  | sg s => cases hb
  | num s d => simp only [Pg.r, List.flatten_cons, List.flatten_nil, List.append_nil] at hb; exact .inr (ok.2.2 b hb)
  | sl s d =>
    simp only [Pg.r, List.flatten_cons, List.flatten_nil, List.append_nil] at hb
    rcases List.mem_append.1 hb with hb | hb
    · exact .inr (ok.2.2 b hb)
    · exact .inl (List.mem_singleton.1 hb)
  | den s d e =>
    simp only [Pg.r, List.flatten_cons, List.flatten_nil, List.append_nil] at hb
    rcases List.mem_append.1 hb with hb | hb
    · exact .inr (ok.2.1.2 b hb)
    · rcases List.mem_append.1 hb with hb | hb
      · exact .inl (List.mem_singleton.1 hb)
      · exact .inr (ok.2.2.2 b hb)
theorem pg_ne {p : Pg} {f : Bool} (ok : p.ok f) (hr : p.r ≠ []) : 0 < p.r.flatten.length := by
  have h : ∀ {d : List UInt8}, digs d → 0 < d.length := fun h => List.length_pos_iff.2 h.1
  cases p with
  | sg s => exact absurd rfl hr
  | num s d => have := h ok.2; simp only [Pg.r, List.flatten_cons, List.length_append]; omega
  | sl s d => have := h ok.2; simp only [Pg.r, List.flatten_cons, List.length_append]; omega
  | den s d e => have := h ok.2.1; simp only [Pg.r, List.flatten_cons, List.length_append]; omega
theorem cut_row {A : List (List UInt8)} {l : List Trm} {p : Pg} (okl : okM (rs0 A.length) l) (okp : p.ok (appL (rs0 A.length) l).first) (next : Rd) :
    ∃ q : Nat, rowT (toksW (A ++ (wordsL l ++ p.w))) (rowF (toksW (A ++ (wordsL l ++ p.w))) A.length) 44 next = rdZ q 12 ∧ (q = (A ++ (wordsL l ++ p.w)).flatten.length ∨ (q < (A ++ (wordsL l ++ p.w)).flatten.length ∧ ∀ b ∈ (A ++ (wordsL l ++ p.w)).flatten.drop q, sdB b)) := by
  have hsay := toksW_says (A ++ (wordsL l ++ p.w))
  have hend := toksW_end (A ++ (wordsL l ++ p.w))
  have hlen := toksW_len (A ++ (wordsL l ++ p.w))
  have hnum : ∀ d r, p.r = d :: r → tk (toksW (A ++ (wordsL l ++ p.w))) (A.length + (wordsL l).length + p.s.w.length) = ⟨wk d, d, (A ++ (wordsL l ++ p.s.w)).flatten.length⟩ := fun d r e => by
    have := toksW_at (A ++ (wordsL l ++ p.s.w)) r d
    rw [← e] at this
    rw [show A ++ (wordsL l ++ p.w) = (A ++ (wordsL l ++ p.s.w)) ++ p.r by rw [p.wr]; simp]
    rw [show A.length + (wordsL l).length + p.s.w.length = (A ++ (wordsL l ++ p.s.w)).length by simp [Nat.add_assoc]]
    exact this
  have hdrop : (A ++ (wordsL l ++ p.w)).flatten = (A ++ (wordsL l ++ p.s.w)).flatten ++ p.r.flatten := by
    rw [← List.flatten_append, p.wr]; simp
  generalize hys : toksW (A ++ (wordsL l ++ p.w)) = ys at *
  obtain ⟨_, hsay⟩ := saysAt_app hsay
  obtain ⟨g1, g2⟩ := saysAt_app hsay
  rw [Nat.zero_add] at g1 g2
  simp only [List.length_append] at hend hlen
  have hst : (appL (rs0 A.length) l).st = A.length + (wordsL l).length := appL_st l (rs0 A.length)
  have hnext : l ≠ [] → ¬ (tk ys (A.length + (wordsL l).length)).kind = 47 ∧ ¬ (tk ys (A.length + (wordsL l).length)).kind = 120 := fun hne => by
    have hf := appL_first l (rs0 A.length) (.inr hne)
    rw [hf] at okp
    have h43 : p.s ≠ .no → (tk ys (A.length + (wordsL l).length)).kind = 43 := fun h => by
      rw [p.wr] at g2
      have g3 := (saysAt_app g2).1
      generalize p.s = s at *
      cases s with
      | no => exact absurd rfl h
      | plus => exact g3.1
      | minus => exact g3.1
    have hno : p.s = .no → (tk ys (A.length + (wordsL l).length)).kind = 46 := fun h => by
      have hr : p.r = [] := by
        cases p with
        | sg s => rfl
        | num s d => exact absurd h (okp.1.resolve_left (by decide))
        | sl s d => exact absurd h (okp.1.resolve_left (by decide))
        | den s d e => exact absurd h (okp.1.resolve_left (by decide))
      have hw : p.w = [] := by rw [p.wr, h, hr]; rfl
      rw [hw] at hend
      rw [show A.length + (wordsL l).length = A.length + ((wordsL l).length + ([] : List (List UInt8)).length) by simp, hend]
    by_cases h : p.s = .no
    · rw [hno h]; decide
    · rw [h43 h]; decide
  have hlw := words_len l
  have hgo := row_go l (rs0 A.length) (ys.length + 1) (by omega) g1 okl hnext
  have hF : rowF ys A.length = rowR ys (ys.length + 1 - l.length) (appL (rs0 A.length) l) := hgo
  obtain ⟨n, hn⟩ : ∃ n, ys.length + 1 - l.length = n + 2 := ⟨ys.length + 1 - l.length - 2, by omega⟩
  rw [hF, hn]
  have hk : A.length + ((wordsL l).length + p.w.length) = (appL (rs0 A.length) l).st + p.w.length := by rw [hst]; omega
  have hcut := row_cut (ys := ys) (x := appL (rs0 A.length) l) (p := p) (n := n) (k := A.length + ((wordsL l).length + p.w.length)) (next := next) (by rw [hst]; exact g2) hk (by omega) (by rw [hend]) (by rw [hend]; exact Int.natCast_nonneg _) (fun hr => by
    obtain ⟨d, r, e⟩ := List.exists_cons_of_ne_nil hr
    rw [hst, hnum d r e]
    exact Int.natCast_nonneg _) okp
  rcases hcut with h | ⟨hr, h⟩
  · rw [hend] at h
    exact ⟨_, h, .inl rfl⟩
  · obtain ⟨d, r, e⟩ := List.exists_cons_of_ne_nil hr
    rw [hst, hnum d r e] at h
    refine ⟨_, h, .inr ⟨?_, ?_⟩⟩
    · have := pg_ne okp hr
      rw [hdrop, List.length_append]
      omega
    · rw [hdrop, List.drop_left]
      exact pg_bytes okp
end Go.AM
