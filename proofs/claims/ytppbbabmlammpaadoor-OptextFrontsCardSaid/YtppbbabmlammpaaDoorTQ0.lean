import Derived.Test.YtppbbabmlammpaaDoorPH
import Derived.Test.YtppbbabmlammpaaDoorTD3
set_option linter.unusedVariables false
set_option linter.unusedSimpArgs false
open Go Go.AM Go.Proofs
namespace Go.AM
open Dist
set_option maxRecDepth 100000
def tokW : Nat → List (List UInt8) → List Tok
  | _, [] => []
  | p, w :: l => ⟨wk w, w, p⟩ :: tokW (p + w.length) l
theorem lexW : ∀ (ws : List (List UInt8)) (u : List UInt8) (pos : Nat) (l : List Tok) (op : Bool), (∀ w ∈ ws, wordOk w) → alt op ws → ∃ op', lexP (ws.flatten ++ u) pos l op = lexP u (pos + ws.flatten.length) (l ++ tokW pos ws) op'
  | [], u, pos, l, op, _, _ => ⟨op, by simp [tokW]⟩
  | w :: ws, u, pos, l, op, hw, ha => by
    obtain ⟨op', h⟩ := lexW ws u (pos + w.length) (l ++ [⟨wk w, w, pos⟩]) (isDig w) (fun v hv => hw v (by simp [hv])) ha.2
    refine ⟨op', ?_⟩
    rw [List.flatten_cons, List.append_assoc, lex_word (hw w (by simp)) _ _ _ _ ha.1, h]
    simp [tokW, Nat.add_assoc]
theorem says_tokW : ∀ (ws : List (List UInt8)) (p : Nat), says (tokW p ws) ws
  | [], _ => trivial
  | _ :: ws, p => ⟨rfl, rfl, says_tokW ws _⟩
theorem tokW_len : ∀ (ws : List (List UInt8)) (p : Nat), (tokW p ws).length = ws.length
  | [], _ => rfl
  | _ :: ws, p => by simp [tokW, tokW_len ws]
theorem tokW_app : ∀ (a b : List (List UInt8)) (p : Nat), tokW p (a ++ b) = tokW p a ++ tokW (p + a.flatten.length) b
  | [], b, p => by simp [tokW]
  | w :: a, b, p => by
    show _ :: tokW _ (a ++ b) = _ :: (tokW _ a ++ _)
    rw [tokW_app a b, List.flatten_cons, List.length_append, Nat.add_assoc]
theorem words_asc {ws : List (List UInt8)} (h : ∀ w ∈ ws, wordOk w) : asc ws.flatten := fun b hb => by
  obtain ⟨w, hw, hb⟩ := List.mem_flatten.1 hb
  exact word_asc (h w hw) b hb
def toksW (ws : List (List UInt8)) : List Tok := tokW 0 ws ++ [⟨46, [], ws.flatten.length⟩]
theorem toks_words {ws : List (List UInt8)} (hw : ∀ w ∈ ws, wordOk w) (ha : alt false ws) : toks ws.flatten = toksW ws := by
  unfold toks toksW
  obtain ⟨op', h⟩ := lexW ws [] 0 [] false hw ha
  rw [List.append_nil] at h
  rw [lex_toks (words_asc hw) ws.flatten _ 0 [] false rfl (Nat.lt_succ_self _), h]
  rfl
theorem toksW_len (ws : List (List UInt8)) : (toksW ws).length = ws.length + 1 := by simp [toksW, tokW_len]
theorem toksW_says (ws : List (List UInt8)) : saysAt (toksW ws) 0 ws := says_at (pre := []) (says_tokW ws 0)
theorem toksW_end (ws : List (List UInt8)) : tk (toksW ws) ws.length = ⟨46, [], ws.flatten.length⟩ := by
  unfold tk toksW
  rw [← tokW_len ws 0]
  simp [List.getD_eq_getElem?_getD]
theorem toksW_at (a b : List (List UInt8)) (w : List UInt8) : tk (toksW (a ++ w :: b)) a.length = ⟨wk w, w, a.flatten.length⟩ := by
  unfold tk toksW
  rw [tokW_app, ← tokW_len a 0]
  simp [List.getD_eq_getElem?_getD, tokW]
theorem app43 {ys : List Tok} {x : RS} {u : Trm} (hf : x.first = false) (o : u.ok x) (h : saysAt ys x.st u.w) : (tk ys x.st).kind = 43 := by
  have hu : u.sg ≠ .no := by
    cases u with
    | lt s k l => exact o.1.resolve_left (by rw [hf]; decide)
    | fr s n d => exact o.1.resolve_left (by rw [hf]; decide)
  cases u with
  | lt s k l => cases s with
    | no => exact absurd rfl hu
    | plus => exact h.1
    | minus => exact h.1
  | fr s n d => cases s with
    | no => exact absurd rfl hu
    | plus => exact h.1
    | minus => exact h.1
theorem row_go {ys : List Tok} : ∀ (l : List Trm) (x : RS) (n : Nat), l.length ≤ n → saysAt ys x.st (wordsL l) → okM x l → (l ≠ [] → ¬ (tk ys (x.st + (wordsL l).length)).kind = 47 ∧ ¬ (tk ys (x.st + (wordsL l).length)).kind = 120) → rowR ys n x = rowR ys (n - l.length) (appL x l)
  | [], x, n, _, _, _, _ => rfl
  | t :: l, x, 0, hn, _, _, _ => by simp at hn
  | t :: l, x, n + 1, hn, hs, ok, he => by
    obtain ⟨o1, o2⟩ := ok
    obtain ⟨h1, h2⟩ := saysAt_app hs
    have ea := app_st x t
    have el : (wordsL (t :: l)).length = t.w.length + (wordsL l).length := by show (t.w ++ wordsL l).length = _; rw [List.length_append]
    have he := he (by simp)
    rw [el, ← Nat.add_assoc, ← ea.1] at he
    have h2 : saysAt ys (x.st + t.w.length) (wordsL l) := h2
    rw [← ea.1] at h2
    have hnext : ¬ (tk ys (x.st + t.w.length)).kind = 47 ∧ ¬ (tk ys (x.st + t.w.length)).kind = 120 := by
      rw [← ea.1]
      cases l with
      | nil => exact he
      | cons u l =>
        have := app43 ea.2 o2.1 (saysAt_app h2).1
        omega
    have hstep : stepR ys x = .inl (x.app t) := by
      cases t with
      | lt s k l => exact step_lt h1 o1
      | fr s n d => exact step_fr h1 o1 (fun _ => hnext)
    rw [rowR, hstep]
    show rowR ys n (x.app t) = _
    rw [row_go l (x.app t) n (by simpa using hn) h2 o2 (fun _ => he), List.length_cons, Nat.add_sub_add_right]
    rfl
theorem row_stop {ys : List Tok} {x : RS} {n : Nat} (hf : x.first = false) (h : ¬ (tk ys x.st).kind = 43) : rowR ys (n + 1) x = ⟨x.e0, x.e1, x.e2, x.parts, -1, x.st⟩ := by
  have hs : stepR ys x = .inr ⟨x.e0, x.e1, x.e2, x.parts, -1, x.st⟩ := by
    unfold stepR
    rw [if_pos ⟨hf, decide_eq_false h⟩]
    unfold sgN
    rw [if_neg h]
  rw [rowR, hs]
theorem appL_first : ∀ (l : List Trm) (x : RS), (x.first = false ∨ l ≠ []) → (appL x l).first = false
  | [], x, h => h.resolve_right (fun h => h rfl)
  | t :: l, x, _ => appL_first l (x.app t) (.inl (app_st x t).2)
inductive Pg
  | sg (s : Sg)
  | num (s : Sg) (d : List UInt8)
  | sl (s : Sg) (d : List UInt8)
  | den (s : Sg) (d d' : List UInt8)
def Pg.w : Pg → List (List UInt8)
  | .sg s => s.w
  | .num s d => s.w ++ [d]
  | .sl s d => s.w ++ [d, [47]]
  | .den s d e => s.w ++ [d, [47], e]
def Pg.s : Pg → Sg
  | .sg s => s
  | .num s _ => s
  | .sl s _ => s
  | .den s _ _ => s
def Pg.r : Pg → List (List UInt8)
  | .sg _ => []
  | .num _ d => [d]
  | .sl _ d => [d, [47]]
  | .den _ d e => [d, [47], e]
theorem Pg.wr : ∀ p : Pg, p.w = p.s.w ++ p.r
  | .sg s => (List.append_nil _).symm
  | .num _ _ => rfl
  | .sl _ _ => rfl
  | .den _ _ _ => rfl
def Pg.ok (first : Bool) : Pg → Prop
  | .sg _ => True
  | .num s d => (first = true ∨ s ≠ .no) ∧ digs d
  | .sl s d => (first = true ∨ s ≠ .no) ∧ digs d
  | .den s d e => (first = true ∨ s ≠ .no) ∧ digs d ∧ digs e
theorem digs_take {w : List UInt8} (h : digs w) (j : Nat) : w.take j = [] ∨ digs (w.take j) := by
  by_cases e : w.take j = []
  · exact .inl e
  · exact .inr ⟨e, fun b hb => h.2 b (List.mem_of_mem_take hb)⟩
theorem sg_take (s : Sg) (u : List UInt8) (j : Nat) : (s.w.flatten ++ u).take j = [] ∨ ∃ j', (s.w.flatten ++ u).take j = s.w.flatten ++ u.take j' ∧ j = s.w.flatten.length + j' := by
  have hl : s.w.flatten.length ≤ 1 := by cases s <;> simp [Sg.w]
  rcases Nat.eq_zero_or_pos j with rfl | hj
  · exact .inl rfl
  · refine .inr ⟨j - s.w.flatten.length, ?_, by omega⟩
    rw [List.take_append, List.take_of_length_le (by omega)]
theorem cutTrm {t : Trm} {x : RS} (ok : t.ok x) {j : Nat} (hj : j < t.w.flatten.length) : ∃ p : Pg, p.ok x.first ∧ t.w.flatten.take j = p.w.flatten := by
  have nil : ∀ {l : List UInt8}, l = [] → ∃ p : Pg, p.ok x.first ∧ l = p.w.flatten := fun h => ⟨.sg .no, trivial, h⟩
  cases t with
  | lt s k l =>
    obtain ⟨o1, o2, o3⟩ := ok
    have e : (Trm.lt s k l).w.flatten = s.w.flatten ++ ((numW k).flatten ++ [l]) := by simp [Trm.w]
    rw [e] at hj ⊢
    rcases sg_take s ((numW k).flatten ++ [l]) j with h | ⟨j', h, ej⟩
    · exact nil h
    · rw [h]
      have hj : j' ≤ (numW k).flatten.length := by
        simp only [List.length_append, List.length_cons, List.length_nil] at hj
        omega
      rw [List.take_append_of_le_length hj]
      cases k with
      | none => exact ⟨.sg s, trivial, by simp [numW, Pg.w]⟩
      | some n =>
        rcases digs_take (itoa_digs n (by have := o2 n rfl; omega)) j' with h | h
        · exact ⟨.sg s, trivial, by simp only [numW, List.flatten_cons, List.flatten_nil, List.append_nil, h, Pg.w]⟩
        · exact ⟨.num s ((Lib.itoa n).take j'), ⟨o1, h⟩, by simp [numW, Pg.w]⟩
  | fr s n d =>
    obtain ⟨o1, o2, o3, o4, o5⟩ := ok
    have hn := itoa_digs n o2
    have e : (Trm.fr s n d).w.flatten = s.w.flatten ++ (Lib.itoa n ++ (denW d).flatten) := by simp [Trm.w]
    rw [e] at hj ⊢
    rcases sg_take s (Lib.itoa n ++ (denW d).flatten) j with h | ⟨j', h, ej⟩
    · exact nil h
    · rw [h]
      rcases Nat.lt_or_ge (Lib.itoa n).length j' with h1 | h1
      · rw [List.take_append, List.take_of_length_le (by omega)]
        cases d with
        | none =>
          simp only [denW, List.flatten_nil, List.append_nil, List.length_append] at hj
          omega
        | some m =>
          obtain ⟨k, hk⟩ : ∃ k, j' - (Lib.itoa n).length = k + 1 := ⟨j' - (Lib.itoa n).length - 1, by omega⟩
          rw [hk]
          have e2 : (denW (some m)).flatten.take (k + 1) = 47 :: (Lib.itoa m).take k := by simp [denW]
          rw [e2]
          rcases digs_take (itoa_digs m (by have := o5 m rfl; omega)) k with h | h
          · exact ⟨.sl s (Lib.itoa n), ⟨o1, hn⟩, by rw [h]; simp [Pg.w]⟩
          · exact ⟨.den s (Lib.itoa n) ((Lib.itoa m).take k), ⟨o1, hn, h⟩, by simp [Pg.w]⟩
      · rw [List.take_append_of_le_length h1]
        rcases digs_take hn j' with h | h
        · exact ⟨.sg s, trivial, by rw [h]; simp [Pg.w]⟩
        · exact ⟨.num s ((Lib.itoa n).take j'), ⟨o1, h⟩, by simp [Pg.w]⟩
theorem cutRow : ∀ (l : List Trm) (x : RS), okM x l → ∀ j ≤ (txt l).length, ∃ (l' : List Trm) (p : Pg), okM x l' ∧ p.ok (appL x l').first ∧ l'.length ≤ l.length ∧ (txt l).take j = (wordsL l' ++ p.w).flatten
  | [], x, _, j, _ => ⟨[], .sg .no, trivial, trivial, Nat.le_refl _, by simp [txt, wordsL, Pg.w, Sg.w]⟩
  | t :: l, x, ok, j, hj => by
    have e : txt (t :: l) = t.w.flatten ++ txt l := by unfold txt; rw [show wordsL (t :: l) = t.w ++ wordsL l from rfl, List.flatten_append]
    rw [e] at hj ⊢
    rcases Nat.lt_or_ge j t.w.flatten.length with h | h
    · obtain ⟨p, h1, h2⟩ := cutTrm ok.1 h
      exact ⟨[], p, trivial, h1, by simp, by rw [List.take_append_of_le_length (by omega), h2]; rfl⟩
    · obtain ⟨l', p, h1, h2, h3, h4⟩ := cutRow l (x.app t) ok.2 (j - t.w.flatten.length) (by rw [List.length_append] at hj; omega)
      refine ⟨t :: l', p, ⟨ok.1, h1⟩, h2, by simpa using h3, ?_⟩
      rw [List.take_append, List.take_of_length_le h, h4]
      show _ = ((t.w ++ wordsL l') ++ p.w).flatten
      simp
theorem alt_pg {p : Pg} {first op : Bool} (ok : p.ok first) (h : op = true → first = false) : alt op p.w := by
  have hs : ∀ {s : Sg}, (first = true ∨ s ≠ .no) → s = .no → op = false := fun h1 h2 => by
    cases op with
    | false => rfl
    | true => exact absurd h2 (h1.resolve_left (by rw [h rfl]; decide))
  have hd : ∀ {d : List UInt8} {l : List (List UInt8)}, digs d → alt true l → alt false (d :: l) := fun {d l} h1 h2 => by
    have e : isDig d = true := by
      obtain ⟨g1, g2⟩ := h1
      cases d with
      | nil => exact absurd rfl g1
      | cons b r => exact digR_b (g2 b (by simp))
    exact ⟨(fun e => nomatch e), by rw [e]; exact h2⟩
  cases p with
  | sg s =>
    show alt op s.w
    cases s with
    | no => trivial
    | plus => exact alt_sym (by simp [symB]) trivial
    | minus => exact alt_sym (by simp [symB]) trivial
  | num s d => exact alt_sg (hs ok.1) (hd ok.2 trivial)
  | sl s d => exact alt_sg (hs ok.1) (hd ok.2 (alt_sym (by simp [symB]) trivial))
  | den s d e => exact alt_sg (hs ok.1) (hd ok.2.1 (alt_sym (by simp [symB]) (hd ok.2.2 trivial)))
theorem alt_rowp : ∀ {l : List Trm} {x : RS} {op : Bool} {p : Pg}, okM x l → p.ok (appL x l).first → (op = true → x.first = false) → alt op (wordsL l ++ p.w)
  | [], _, _, _, _, h, hop => alt_pg h hop
  | t :: l, x, op, p, ok, h, hop => by
    show alt op ((t.w ++ wordsL l) ++ p.w)
    rw [List.append_assoc]
    exact alt_trm ok.1 hop (alt_rowp ok.2 h (fun _ => (app_st x t).2))
theorem wordOk_pg {p : Pg} {first : Bool} (ok : p.ok first) : ∀ w ∈ p.w, wordOk w := by
  have hsg : ∀ s : Sg, ∀ w ∈ s.w, wordOk w := fun s w hw => by
    cases s with
    | no => cases hw
    | plus => exact .inr ⟨43, by simp [symB], List.mem_singleton.1 hw⟩
    | minus => exact .inr ⟨45, by simp [symB], List.mem_singleton.1 hw⟩
  have h47 : wordOk [47] := .inr ⟨47, by simp [symB], rfl⟩
  intro w hw
  rw [p.wr] at hw
  rcases List.mem_append.1 hw with hw | hw
  · exact hsg _ w hw
  · cases p with
    | sg s => cases hw
    | num s d => rw [List.mem_singleton.1 hw]; exact .inl ok.2
    | sl s d =>
      rcases List.mem_cons.1 hw with rfl | hw
      · exact .inl ok.2
      · rw [List.mem_singleton.1 hw]; exact h47
    | den s d e =>
      rcases List.mem_cons.1 hw with rfl | hw
      · exact .inl ok.2.1
      · rcases List.mem_cons.1 hw with rfl | hw
        · exact h47
        · rw [List.mem_singleton.1 hw]; exact .inl ok.2.2
end Go.AM
