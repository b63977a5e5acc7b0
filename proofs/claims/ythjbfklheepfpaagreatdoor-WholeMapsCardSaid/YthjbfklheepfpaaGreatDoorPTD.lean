import Derived.Test.YthjbfklheepfpaaGreatDoorPT3
import Derived.Test.YthjbfklheepfpaaGreatDoorPTC
set_option linter.unusedVariables false
set_option linter.unusedSimpArgs false
set_option maxHeartbeats 4000000
open Go Go.AM Go.Proofs
namespace Go.AM
open Dist
set_option maxRecDepth 100000
def okM : RS → List Trm → Prop
  | _, [] => True
  | x, t :: l => t.ok x ∧ okM (x.app t) l
theorem okM_app : ∀ {a b : List Trm} {x : RS}, okM x a → okM (appL x a) b → okM x (a ++ b)
  | [], _, _, _, h => h
  | _ :: _, _, _, h1, h => ⟨h1.1, okM_app h1.2 h⟩
theorem appL_app : ∀ (a b : List Trm) (x : RS), appL x (a ++ b) = appL (appL x a) b
  | [], _, _ => rfl
  | _ :: a, b, _ => appL_app a b _
theorem okL_of : ∀ {l : List Trm} {x : RS}, okM x l → (appL x l).first = false → okL x l
  | [], _, _, h => h
  | _ :: _, _, h1, h => ⟨h1.1, okL_of h1.2 h⟩
theorem wordsL_app : ∀ (a b : List Trm), wordsL (a ++ b) = wordsL a ++ wordsL b
  | [], _ => rfl
  | t :: a, b => by
    show t.w ++ wordsL (a ++ b) = t.w ++ wordsL a ++ wordsL b
    rw [wordsL_app a b, List.append_assoc]
def Inv (ts : List Trm) (a b c p : Int) (g : Bool) : Prop := ∀ st, okM (rs0 st) ts ∧ ∃ st', appL (rs0 st) ts = ⟨st', a, b, c, p, decide (a ≠ 0), decide (b ≠ 0), decide (c ≠ 0), g, ts.isEmpty⟩
theorem inv_nil : Inv [] 0 0 0 0 false := fun st => ⟨trivial, st, rfl⟩
theorem app_empty (ts : List Trm) (t : Trm) : (ts ++ [t]).isEmpty = false := by cases ts <;> rfl
theorem lt_ne {s : Sg} {k : Option Int} (hk : ∀ n, k = some n → 1 ≤ n ∧ n ≤ 1000) : s.v * k.getD 1 ≠ 0 := by
  have : 1 ≤ k.getD 1 := by cases k with
    | none => simp
    | some n => exact (hk n rfl).1
  cases s <;> simp only [Sg.v] <;> omega
theorem inv_x {ts : List Trm} {b c p : Int} {g : Bool} {s : Sg} {k : Option Int} (h : Inv ts 0 b c p g) (hs : ts = [] ∨ s ≠ .no) (hk : ∀ n, k = some n → 1 ≤ n ∧ n ≤ 1000) : Inv (ts ++ [.lt s k 120]) (s.v * k.getD 1) b c p g := fun st => by
  obtain ⟨h1, st', h2⟩ := h st
  refine ⟨okM_app h1 ?_, st' + (Trm.lt s k 120).w.length, ?_⟩
  · rw [h2]
    exact ⟨⟨hs.imp (fun e => by rw [e]; rfl) id, hk, .inl ⟨rfl, rfl⟩⟩, trivial⟩
  · rw [appL_app, h2, app_empty, decide_eq_true (lt_ne hk)]
    rfl
theorem inv_y {ts : List Trm} {a c p : Int} {g : Bool} {s : Sg} {k : Option Int} (h : Inv ts a 0 c p g) (hs : ts = [] ∨ s ≠ .no) (hk : ∀ n, k = some n → 1 ≤ n ∧ n ≤ 1000) : Inv (ts ++ [.lt s k 121]) a (s.v * k.getD 1) c p g := fun st => by
  obtain ⟨h1, st', h2⟩ := h st
  refine ⟨okM_app h1 ?_, st' + (Trm.lt s k 121).w.length, ?_⟩
  · rw [h2]
    exact ⟨⟨hs.imp (fun e => by rw [e]; rfl) id, hk, .inr (.inl ⟨rfl, rfl⟩)⟩, trivial⟩
  · rw [appL_app, h2, app_empty, decide_eq_true (lt_ne hk)]
    rfl
theorem inv_z {ts : List Trm} {a b p : Int} {g : Bool} {s : Sg} {k : Option Int} (h : Inv ts a b 0 p g) (hs : ts = [] ∨ s ≠ .no) (hk : ∀ n, k = some n → 1 ≤ n ∧ n ≤ 1000) : Inv (ts ++ [.lt s k 122]) a b (s.v * k.getD 1) p g := fun st => by
  obtain ⟨h1, st', h2⟩ := h st
  refine ⟨okM_app h1 ?_, st' + (Trm.lt s k 122).w.length, ?_⟩
  · rw [h2]
    exact ⟨⟨hs.imp (fun e => by rw [e]; rfl) id, hk, .inr (.inr ⟨rfl, rfl⟩)⟩, trivial⟩
  · rw [appL_app, h2, app_empty, decide_eq_true (lt_ne hk)]
    rfl
theorem inv_f {ts : List Trm} {a b c p : Int} {s : Sg} {n : Int} {d : Option Int} (h : Inv ts a b c p false) (hs : ts = [] ∨ s ≠ .no) (h0 : 0 ≤ n) (h1 : n ≤ 999) (hd : ∀ m, d = some m → 1 ≤ m ∧ m ≤ 999 ∧ (24 * n).tmod m = 0) : Inv (ts ++ [.fr s n d]) a b c (s.v * (24 * n).tdiv (d.getD 1)) true := fun st => by
  obtain ⟨g1, st', g2⟩ := h st
  refine ⟨okM_app g1 ?_, st' + (Trm.fr s n d).w.length, ?_⟩
  · rw [g2]
    exact ⟨⟨hs.imp (fun e => by rw [e]; rfl) id, h0, h1, rfl, hd⟩, trivial⟩
  · rw [appL_app, g2, app_empty]
    rfl
theorem alt_any {op : Bool} : ∀ {l : List (List UInt8)}, alt true l → alt op l
  | [], _ => trivial
  | _ :: _, h => ⟨fun _ => h.1 rfl, h.2⟩
theorem sym_word {b : UInt8} (h : symB b) : isDig [b] = false := by rcases h with e | e | e | e | e | e | e <;> subst e <;> rfl
theorem dig_word {n : Int} (h : 0 ≤ n) : isDig (Lib.itoa n) = true := by
  obtain ⟨h1, h2⟩ := itoa_digs n h
  generalize Lib.itoa n = s at *
  cases s with
  | nil => exact absurd rfl h1
  | cons b r => exact digR_b (h2 b (by simp))
theorem alt_sym {b : UInt8} {op : Bool} {l : List (List UInt8)} (h : symB b) (hl : alt false l) : alt op ([b] :: l) := ⟨fun _ => sym_word h, by rw [sym_word h]; exact hl⟩
theorem alt_num {n : Int} {l : List (List UInt8)} (h : 0 ≤ n) (hl : alt true l) : alt false (Lib.itoa n :: l) := ⟨(fun e => nomatch e), by rw [dig_word h]; exact hl⟩
theorem alt_sg {s : Sg} {op : Bool} {l : List (List UInt8)} (h : s = .no → op = false) (hl : alt false l) : alt op (s.w ++ l) := by
  cases s with
  | no => rw [h rfl]; exact hl
  | plus => exact alt_sym (by simp [symB]) hl
  | minus => exact alt_sym (by simp [symB]) hl
theorem sym_let {l : UInt8} (h : l = 120 ∨ l = 121 ∨ l = 122) : symB l := by rcases h with e | e | e <;> simp [symB, e]
theorem alt_trm {t : Trm} {x : RS} {op : Bool} {l : List (List UInt8)} (ok : t.ok x) (h : op = true → x.first = false) (hl : alt true l) : alt op (t.w ++ l) := by
  have hop : x.first = true → op = false := fun e => by
    cases op with
    | false => rfl
    | true => rw [h rfl] at e; cases e
  cases t with
  | lt s k c =>
    obtain ⟨o1, o2, o3⟩ := ok
    have hc : c = 120 ∨ c = 121 ∨ c = 122 := by rcases o3 with h | h | h <;> simp [h.1]
    show alt op ((s.w ++ (numW k ++ [[c]])) ++ l)
    rw [List.append_assoc]
    refine alt_sg (fun e => ?_) ?_
    · rcases o1 with f | f
      · exact hop f
      · exact absurd e f
    · cases k with
      | none => exact alt_sym (sym_let hc) (alt_any hl)
      | some n => exact alt_num (by have := o2 n rfl; omega) (alt_sym (sym_let hc) (alt_any hl))
  | fr s n d =>
    obtain ⟨o1, o2, o3, o4, o5⟩ := ok
    show alt op ((s.w ++ (Lib.itoa n :: denW d)) ++ l)
    rw [List.append_assoc]
    refine alt_sg (fun e => ?_) ?_
    · rcases o1 with f | f
      · exact hop f
      · exact absurd e f
    · cases d with
      | none => exact alt_num o2 hl
      | some m => exact alt_num o2 (alt_sym (by simp [symB]) (alt_num (by have := o5 m rfl; omega) hl))
theorem alt_words : ∀ {l : List Trm} {x : RS} {op : Bool} {r : List (List UInt8)}, okM x l → (op = true → x.first = false) → alt true r → alt op (wordsL l ++ r)
  | [], _, _, _, _, _, hr => alt_any hr
  | t :: l, x, op, r, ok, h, hr => by
    show alt op ((t.w ++ wordsL l) ++ r)
    rw [List.append_assoc]
    exact alt_trm ok.1 h (alt_words ok.2 (fun _ => (app_st x t).2) hr)
theorem wordOk_trm {t : Trm} {x : RS} (ok : t.ok x) : ∀ w ∈ t.w, wordOk w := by
  have hsg : ∀ s : Sg, ∀ w ∈ s.w, wordOk w := fun s w hw => by
    cases s with
    | no => cases hw
    | plus => exact .inr ⟨43, by simp [symB], List.mem_singleton.1 hw⟩
    | minus => exact .inr ⟨45, by simp [symB], List.mem_singleton.1 hw⟩
  intro w hw
  cases t with
  | lt s k c =>
    obtain ⟨o1, o2, o3⟩ := ok
    have hc : c = 120 ∨ c = 121 ∨ c = 122 := by rcases o3 with h | h | h <;> simp [h.1]
    rcases List.mem_append.1 hw with hw | hw
    · exact hsg s w hw
    · rcases List.mem_append.1 hw with hw | hw
      · cases k with
        | none => cases hw
        | some n => rw [List.mem_singleton.1 hw]; exact .inl (itoa_digs n (by have := o2 n rfl; omega))
      · exact .inr ⟨c, sym_let hc, List.mem_singleton.1 hw⟩
  | fr s n d =>
    obtain ⟨o1, o2, o3, o4, o5⟩ := ok
    rcases List.mem_append.1 hw with hw | hw
    · exact hsg s w hw
    · rcases List.mem_cons.1 hw with hw | hw
      · rw [hw]; exact .inl (itoa_digs n o2)
      · cases d with
        | none => cases hw
        | some m =>
          rcases List.mem_cons.1 hw with hw | hw
          · exact .inr ⟨47, by simp [symB], hw⟩
          · rw [List.mem_singleton.1 hw]; exact .inl (itoa_digs m (by have := o5 m rfl; omega))
theorem wordOk_words : ∀ {l : List Trm} {x : RS}, okM x l → ∀ w ∈ wordsL l, wordOk w
  | [], _, _, _, hw => by cases hw
  | t :: l, x, ok, w, hw => by
    rcases List.mem_append.1 (show w ∈ t.w ++ wordsL l from hw) with hw | hw
    · exact wordOk_trm ok.1 w hw
    · exact wordOk_words ok.2 w hw
def words3 (l0 l1 l2 : List Trm) : List (List UInt8) := wordsL l0 ++ ([44] :: (wordsL l1 ++ ([44] :: wordsL l2)))
theorem inv_row {ys : List Tok} {l : List Trm} {st : Nat} {a b c p : Int} {g : Bool} (hi : Inv l a b c p g) (hne : l ≠ []) (hs : saysAt ys st (wordsL l)) (hl : st + (wordsL l).length < ys.length) (he : (tk ys (st + (wordsL l).length)).kind = 44 ∨ (tk ys (st + (wordsL l).length)).kind = 46) :
    rowF ys st = ⟨a, b, c, p, -1, st + (wordsL l).length⟩ := by
  obtain ⟨h1, st', h2⟩ := hi st
  have hf : l.isEmpty = false := by cases l with
    | nil => exact absurd rfl hne
    | cons _ _ => rfl
  rw [rowF_terms hs hl (okL_of h1 (by rw [h2]; exact hf)) he, h2]
theorem read_rows {n : Nat} {l0 l1 l2 : List Trm} {a b c d e f g h i x y z : Int} {g0 g1 g2 : Bool} (i0 : Inv l0 a b c x g0) (i1 : Inv l1 d e f y g1) (i2 : Inv l2 g h i z g2) (n0 : l0 ≠ []) (n1 : l1 ≠ []) (n2 : l2 ≠ [])
    (hl : (flat n (words3 l0 l1 l2)).length ≤ 65536) : readF (flat n (words3 l0 l1 l2)) = madeR a b c d e f g h i x y z := by
  have m0 := (i0 0).1
  have m1 := (i1 0).1
  have m2 := (i2 0).1
  have hw : ∀ w ∈ words3 l0 l1 l2, wordOk w := fun w hw => by
    rcases List.mem_append.1 hw with hw | hw
    · exact wordOk_words m0 w hw
    · rcases List.mem_cons.1 hw with hw | hw
      · exact .inr ⟨44, by simp [symB], hw⟩
      · rcases List.mem_append.1 hw with hw | hw
        · exact wordOk_words m1 w hw
        · rcases List.mem_cons.1 hw with hw | hw
          · exact .inr ⟨44, by simp [symB], hw⟩
          · exact wordOk_words m2 w hw
  have c44 : symB 44 := by simp [symB]
  have ha : alt false (words3 l0 l1 l2) := by
    refine alt_words m0 (fun e => by cases e) (alt_sym c44 (alt_words m1 (fun e => by cases e) (alt_sym c44 ?_)))
    have := alt_words (op := false) (r := []) m2 (fun e => by cases e) trivial
    rwa [List.append_nil] at this
  obtain ⟨ts, t1, t2⟩ := toks_flat (n := n) hw ha
  rw [readF, if_neg (by omega), t2]
  generalize hys : ts ++ [(⟨46, [], ((flat n (words3 l0 l1 l2)).length : Nat)⟩ : Tok)] = ys
  have hsay := says_at (e := ⟨46, [], ((flat n (words3 l0 l1 l2)).length : Nat)⟩) (pre := []) t1
  rw [List.nil_append, hys] at hsay
  have hsay : saysAt ys 0 (words3 l0 l1 l2) := hsay
  have hlen : ∀ {ts : List Tok} {ws : List (List UInt8)}, says ts ws → ts.length = ws.length := fun {ts} => by
    induction ts with
    | nil => intro ws h; cases ws with
      | nil => rfl
      | cons _ _ => exact h.elim
    | cons t ts ih => intro ws h; cases ws with
      | nil => exact h.elim
      | cons _ _ => rw [List.length_cons, List.length_cons, ih h.2.2]
  have hy : ys.length = (words3 l0 l1 l2).length + 1 := by rw [← hys, List.length_append, hlen t1]; rfl
  have hlast : (tk ys (words3 l0 l1 l2).length).kind = 46 := by
    rw [← hlen t1, ← hys]
    unfold tk
    simp [List.getD_eq_getElem?_getD]
  have hL : (words3 l0 l1 l2).length = (wordsL l0).length + 1 + (wordsL l1).length + 1 + (wordsL l2).length := by
    unfold words3
    simp only [List.length_append, List.length_cons]
    omega
  rw [hL] at hlast hy
  obtain ⟨s0, hsay⟩ := saysAt_app hsay
  obtain ⟨q1, _, q3, hsay⟩ := hsay
  obtain ⟨s1, hsay⟩ := saysAt_app hsay
  obtain ⟨r1, _, r3, s2⟩ := hsay
  have q1 : (tk ys (0 + (wordsL l0).length)).kind = 44 := q1
  have r1 : (tk ys (0 + (wordsL l0).length + 1 + (wordsL l1).length)).kind = 44 := r1
  have e0 : row0 ys = ⟨a, b, c, x, -1, 0 + (wordsL l0).length⟩ := inv_row i0 n0 s0 (by omega) (.inl q1)
  have e1 : row1 ys = ⟨d, e, f, y, -1, 0 + (wordsL l0).length + 1 + (wordsL l1).length⟩ := by
    unfold row1
    rw [e0, nx_at (show 0 + (wordsL l0).length + 1 < ys.length by omega)]
    exact inv_row i1 n1 s1 (by omega) (.inl r1)
  have e2 : row2 ys = ⟨g, h, i, z, -1, 0 + (wordsL l0).length + 1 + (wordsL l1).length + 1 + (wordsL l2).length⟩ := by
    unfold row2
    rw [e1, nx_at (show 0 + (wordsL l0).length + 1 + (wordsL l1).length + 1 < ys.length by omega)]
    exact inv_row i2 n2 s2 (by omega) (.inr (by rw [Nat.zero_add]; exact hlast))
  unfold readT rowT
  rw [e0, e1, e2]
  simp only [q1, r1, Nat.zero_add, hlast, not_true_eq_false, if_false]
  rw [if_neg (by decide), if_neg (by simpa using q1), if_neg (by decide), if_neg (by simpa using r1), if_neg (by decide)]
end Go.AM
open Go Go.AM Go.Proofs
namespace Go.AM
open Dist
set_option maxRecDepth 100000
theorem mulE_one2 (p q r s t u v w k l m n : Int) : mulE p q r s t u v w k l m n 1 0 0 0 1 0 0 0 1 0 0 0 = opE p q r s t u v w k l m n := by
  have e1 : matE 1 0 0 0 1 0 0 0 1 = 0 := by decide
  have e2 : tbad 0 0 0 = false := by decide
  unfold mulE opE
  rw [e1, e2]
  rcases matE_cases p q r s t u v w k with ⟨h2, _⟩ | ⟨h2, _⟩ | ⟨h2, h3, _⟩
  · simp [h2]
  · simp [h2]
  · obtain ⟨hp, hq, hr, hs, ht, hu, hv, hw, hk⟩ := over9_false.1 h3
    have b1 : B1 1 := by unfold B1; omega
    have b0 : B1 0 := by unfold B1; omega
    have : mulO p q r s t u v w k l m n 1 0 0 0 1 0 0 0 1 0 0 0 = false := by
      unfold mulO
      rw [pr_id hp hq hr b1 b0 b0, pr_id hp hq hr b0 b1 b0, pr_id hp hq hr b0 b0 b1, pr_id hs ht hu b1 b0 b0, pr_id hs ht hu b0 b1 b0, pr_id hs ht hu b0 b0 b1, pr_id hv hw hk b1 b0 b0, pr_id hv hw hk b0 b1 b0, pr_id hv hw hk b0 b0 b1]
      refine over9_false.2 ?_
      simp only [Int.mul_one, Int.mul_zero, Int.add_zero, Int.zero_add]
      exact ⟨hp, hq, hr, hs, ht, hu, hv, hw, hk⟩
    simp [h2, this]
theorem flat0 : ∀ ws : List (List UInt8), flat 0 ws = ws.flatten
  | [] => rfl
  | w :: ws => by
    show bl 0 ++ (w ++ flat 0 ws) = _
    rw [flat0 ws]
    rfl
def txt (ts : List Trm) : List UInt8 := (wordsL ts).flatten
theorem txt_app (a : List Trm) (t : Trm) : txt (a ++ [t]) = txt a ++ t.w.flatten := by
  unfold txt
  rw [wordsL_app, List.flatten_append]
  show _ ++ (t.w ++ []).flatten = _
  rw [List.append_nil]
theorem itoa_ne (n : Int) : Lib.itoa n ≠ [] := by
  unfold Lib.itoa
  split
  · simp
  · exact (dec_facts _).1.1
theorem trm_ne (t : Trm) : t.w.flatten ≠ [] := by
  intro h
  cases t with
  | lt s k l => simp [Trm.w] at h
  | fr s n d => simp [Trm.w, itoa_ne] at h
theorem txt_nil : ∀ {a : List Trm}, txt a = [] ↔ a = []
  | [] => ⟨fun _ => rfl, fun _ => rfl⟩
  | t :: a => ⟨fun h => by
      have : t.w.flatten ++ txt a = [] := by rw [← h]; unfold txt; rw [show wordsL (t :: a) = t.w ++ wordsL a from rfl, List.flatten_append]
      exact absurd (List.append_eq_nil_iff.1 this).1 (trm_ne t), fun h => by cases h⟩
def entT (ts : List Trm) (x : Int) (l : UInt8) : List Trm :=
  if x = 0 then ts else if x < 0 then ts ++ [.lt .minus (if x = -1 then none else some (-x)) l] else ts ++ [.lt (if ts.isEmpty = true then .no else .plus) (if x = 1 then none else some x) l]
theorem ent_txt (ts : List Trm) (x : Int) (l : UInt8) : txt (entT ts x l) = ent (txt ts) x l := by
  unfold entT ent
  by_cases h0 : x = 0
  · rw [if_pos h0, if_pos h0]
  · rw [if_neg h0, if_neg h0]
    by_cases h1 : x < 0
    · rw [if_pos h1, if_pos h1, txt_app]
      by_cases h2 : x = -1
      · rw [if_pos h2, if_pos h2]; rfl
      · rw [if_neg h2, if_neg h2]; simp [Trm.w, Sg.w, numW]
    · rw [if_neg h1, if_neg h1, txt_app]
      cases ts with
      | nil =>
        rw [if_pos (show txt [] = [] from rfl)]
        by_cases h2 : x = 1
        · rw [if_pos h2, if_pos h2]; rfl
        · rw [if_neg h2, if_neg h2]; simp [Trm.w, Sg.w, numW, txt, wordsL]
      | cons t ts =>
        rw [if_neg (show ¬ txt (t :: ts) = [] from fun h => by cases txt_nil.1 h)]
        by_cases h2 : x = 1
        · rw [if_pos h2, if_pos h2]; rfl
        · rw [if_neg h2, if_neg h2]; simp [Trm.w, Sg.w, numW]
theorem ent_k {x : Int} {s : Sg} (h0 : x ≠ 0) (h1 : -1000 ≤ x) (h2 : x ≤ 1000) :
    (x < 0 → (∀ n, (if x = -1 then none else some (-x)) = some n → 1 ≤ n ∧ n ≤ 1000) ∧ Sg.minus.v * (if x = -1 then none else some (-x)).getD 1 = x) ∧
    (¬ x < 0 → s ≠ .minus → (∀ n, (if x = 1 then none else some x) = some n → 1 ≤ n ∧ n ≤ 1000) ∧ s.v * (if x = 1 then none else some x).getD 1 = x) := by
  refine ⟨fun h => ?_, fun h hs => ?_⟩
  · split
    · rename_i e
      subst e
      exact ⟨fun n h => by (cases h), rfl⟩
    · refine ⟨fun n h => by injection h; omega, ?_⟩
      show -1 * (-x) = x
      omega
  · have : s.v = 1 := by cases s with
      | no => rfl
      | plus => rfl
      | minus => exact absurd rfl hs
    rw [this]
    split
    · rename_i e
      subst e
      exact ⟨fun n h => by (cases h), rfl⟩
    · refine ⟨fun n h => by injection h; omega, ?_⟩
      show 1 * x = x
      omega
theorem ent_s (ts : List Trm) : (ts = [] ∨ (if ts.isEmpty = true then Sg.no else Sg.plus) ≠ .no) ∧ (if ts.isEmpty = true then Sg.no else Sg.plus) ≠ .minus := by
  cases ts with
  | nil => exact ⟨.inl rfl, fun h => by cases h⟩
  | cons t ts => exact ⟨.inr (fun h => by cases h), fun h => by cases h⟩
theorem ent_x {ts : List Trm} {b c p x : Int} {g : Bool} (h : Inv ts 0 b c p g) (h1 : -1000 ≤ x) (h2 : x ≤ 1000) : Inv (entT ts x 120) x b c p g := by
  unfold entT
  by_cases h0 : x = 0
  · rw [if_pos h0, h0]; exact h
  · rw [if_neg h0]
    by_cases hn : x < 0
    · rw [if_pos hn]
      obtain ⟨k1, k2⟩ := (ent_k (s := .no) h0 h1 h2).1 hn
      have := inv_x (s := .minus) h (.inr (fun h => nomatch h)) k1
      rwa [k2] at this
    · rw [if_neg hn]
      obtain ⟨k1, k2⟩ := (ent_k h0 h1 h2).2 hn (ent_s ts).2
      have := inv_x h (ent_s ts).1 k1
      rwa [k2] at this
theorem ent_y {ts : List Trm} {a c p x : Int} {g : Bool} (h : Inv ts a 0 c p g) (h1 : -1000 ≤ x) (h2 : x ≤ 1000) : Inv (entT ts x 121) a x c p g := by
  unfold entT
  by_cases h0 : x = 0
  · rw [if_pos h0, h0]; exact h
  · rw [if_neg h0]
    by_cases hn : x < 0
    · rw [if_pos hn]
      obtain ⟨k1, k2⟩ := (ent_k (s := .no) h0 h1 h2).1 hn
      have := inv_y (s := .minus) h (.inr (fun h => nomatch h)) k1
      rwa [k2] at this
    · rw [if_neg hn]
      obtain ⟨k1, k2⟩ := (ent_k h0 h1 h2).2 hn (ent_s ts).2
      have := inv_y h (ent_s ts).1 k1
      rwa [k2] at this
theorem ent_z {ts : List Trm} {a b p x : Int} {g : Bool} (h : Inv ts a b 0 p g) (h1 : -1000 ≤ x) (h2 : x ≤ 1000) : Inv (entT ts x 122) a b x p g := by
  unfold entT
  by_cases h0 : x = 0
  · rw [if_pos h0, h0]; exact h
  · rw [if_neg h0]
    by_cases hn : x < 0
    · rw [if_pos hn]
      obtain ⟨k1, k2⟩ := (ent_k (s := .no) h0 h1 h2).1 hn
      have := inv_z (s := .minus) h (.inr (fun h => nomatch h)) k1
      rwa [k2] at this
    · rw [if_neg hn]
      obtain ⟨k1, k2⟩ := (ent_k h0 h1 h2).2 hn (ent_s ts).2
      have := inv_z h (ent_s ts).1 k1
      rwa [k2] at this
def frN (t : Int) : Int := t.tdiv ((Int.gcd t 24 : Nat) : Int)
def frD (t : Int) : Int := Int.tdiv 24 ((Int.gcd t 24 : Nat) : Int)
theorem fr_ok {t : Int} (h0 : 0 < t) (h1 : t < 24) : 0 ≤ frN t ∧ frN t ≤ 999 ∧ 1 ≤ frD t ∧ frD t ≤ 999 ∧ (24 * frN t).tmod (frD t) = 0 ∧ (24 * frN t).tdiv (frD t) = t := by
  rcases fr_cases (Int.le_of_lt h0) h1 with h | h | h | h | h | h | h | h | h | h | h | h | h | h | h | h | h | h | h | h | h | h | h | h <;> first
    | (exfalso; omega)
    | (rw [h]; decide)
def frTrm (s : Sg) (t : Int) : Trm := if t = 0 then .fr s 0 none else .fr s (frN t) (some (frD t))
theorem fr_txt (s : Sg) (t : Int) : (frTrm s t).w.flatten = s.w.flatten ++ frT t := by
  unfold frTrm frT
  by_cases h : t = 0
  · rw [if_pos h, if_pos h]
    have : Lib.itoa 0 = [48] := by unfold Lib.itoa; rw [if_neg (by decide)]; show Lib.decDigits 0 = _; rw [Lib.decDigits, dif_pos (by decide)]; rfl
    simp [Trm.w, denW, this]
  · rw [if_neg h, if_neg h]
    simp [Trm.w, denW, frN, frD]
theorem inv_frT {ts : List Trm} {a b c p t : Int} {s : Sg} (h : Inv ts a b c p false) (hs : ts = [] ∨ s ≠ .no) (h0 : 0 ≤ t) (h1 : t < 24) : Inv (ts ++ [frTrm s t]) a b c (s.v * t) true := by
  unfold frTrm
  by_cases h2 : t = 0
  · rw [if_pos h2, h2]
    have := inv_f (n := 0) (d := none) h hs (by decide) (by decide) (fun m h => by cases h)
    rwa [show s.v * (24 * 0 : Int).tdiv ((none : Option Int).getD 1) = s.v * 0 from rfl] at this
  · rw [if_neg h2]
    obtain ⟨f1, f2, f3, f4, f5, f6⟩ := fr_ok (by omega : 0 < t) h1
    have := inv_f (n := frN t) (d := some (frD t)) h hs f1 f2 (fun m h => by injection h with h; subst h; exact ⟨f3, f4, f5⟩)
    rwa [show s.v * (24 * frN t).tdiv ((some (frD t)).getD 1) = s.v * t by rw [Option.getD_some, f6]] at this
def rowTs (a b c t : Int) : List Trm := if t = 0 then entT (entT (entT [] a 120) b 121) c 122 else entT (entT (entT [] a 120) b 121) c 122 ++ [frTrm .plus t]
theorem rowTs_txt {a b c t : Int} (h0 : 0 ≤ t) (h1 : t < 24) : txt (rowTs a b c t) = rowW a b c t := by
  have e : txt (entT (entT (entT [] a 120) b 121) c 122) = rowP a b c 3 := by rw [ent_txt, ent_txt, ent_txt]; rfl
  unfold rowTs rowW
  by_cases h : t = 0
  · rw [if_pos h, if_pos h, e]
  · have em : mdR t = t := by have := (mdR_bd t).2.2; omega
    rw [if_neg h, if_neg h, txt_app, e, fr_txt, em]
    rfl
theorem entT_len (ts : List Trm) (x : Int) (l : UInt8) : (entT ts x l).length ≤ ts.length + 1 ∧ (ts ≠ [] → entT ts x l ≠ []) ∧ (x ≠ 0 → entT ts x l ≠ []) := by
  unfold entT
  split
  · rename_i h; exact ⟨by omega, id, fun h2 => absurd h h2⟩
  · split <;> simp
theorem rowTs_inv {a b c t : Int} (ha : -1000 ≤ a ∧ a ≤ 1000) (hb : -1000 ≤ b ∧ b ≤ 1000) (hc : -1000 ≤ c ∧ c ≤ 1000) (h0 : 0 ≤ t) (h1 : t < 24) : ∃ g, Inv (rowTs a b c t) a b c t g := by
  have e : Inv (entT (entT (entT [] a 120) b 121) c 122) a b c 0 false := ent_z (ent_y (ent_x inv_nil ha.1 ha.2) hb.1 hb.2) hc.1 hc.2
  unfold rowTs
  by_cases h : t = 0
  · rw [if_pos h, h]; exact ⟨_, e⟩
  · rw [if_neg h]
    have := inv_frT (s := .plus) (t := t) e (.inr (fun h => by cases h)) h0 h1
    rw [show Sg.plus.v * t = t from Int.one_mul t] at this
    exact ⟨_, this⟩
theorem rowTs_ne {a b c t : Int} (h : ¬ (a = 0 ∧ b = 0 ∧ c = 0)) : rowTs a b c t ≠ [] ∧ (rowTs a b c t).length ≤ 4 := by
  have e1 := entT_len [] a 120
  have e2 := entT_len (entT [] a 120) b 121
  have e3 := entT_len (entT (entT [] a 120) b 121) c 122
  simp only [List.length_nil] at e1
  have hne : entT (entT (entT [] a 120) b 121) c 122 ≠ [] := by
    by_cases hc : c = 0
    · by_cases hb : b = 0
      · exact e3.2.1 (e2.2.1 (e1.2.2 (fun ha => h ⟨ha, hb, hc⟩)))
      · exact e3.2.1 (e2.2.2 hb)
    · exact e3.2.2 hc
  unfold rowTs
  split
  · exact ⟨hne, by omega⟩
  · refine ⟨by simp, ?_⟩
    simp only [List.length_append, List.length_cons, List.length_nil]
    omega
theorem itoa_len {n : Int} (h0 : 0 ≤ n) (h1 : n ≤ 1000) : (Lib.itoa n).length ≤ 21 := Lib.itoa_length_le n (by omega) (by omega)
theorem len_trm {t : Trm} {x : RS} (ok : t.ok x) : t.w.flatten.length ≤ 44 ∧ t.w.length ≤ 4 := by
  have hsg : ∀ s : Sg, s.w.flatten.length ≤ 1 ∧ s.w.length ≤ 1 := fun s => by cases s <;> simp [Sg.w]
  cases t with
  | lt s k l =>
    obtain ⟨o1, o2, o3⟩ := ok
    have := hsg s
    have hk : (numW k).flatten.length ≤ 21 ∧ (numW k).length ≤ 1 := by
      cases k with
      | none => simp [numW]
      | some n =>
        have := itoa_len (n := n) (by have := o2 n rfl; omega) (o2 n rfl).2
        simp [numW]
        omega
    simp only [Trm.w, List.flatten_append, List.length_append, List.flatten_cons, List.flatten_nil, List.length_cons, List.length_nil]
    omega
  | fr s n d =>
    obtain ⟨o1, o2, o3, o4, o5⟩ := ok
    have := hsg s
    have hn := itoa_len o2 (by omega : n ≤ 1000)
    have hd : (denW d).flatten.length ≤ 22 ∧ (denW d).length ≤ 2 := by
      cases d with
      | none => simp [denW]
      | some m =>
        have := itoa_len (n := m) (by have := o5 m rfl; omega) (by have := o5 m rfl; omega)
        simp [denW]
        omega
    simp only [Trm.w, List.flatten_append, List.length_append, List.flatten_cons, List.length_cons]
    omega
theorem len_words : ∀ {l : List Trm} {x : RS}, okM x l → (wordsL l).flatten.length ≤ 44 * l.length ∧ (wordsL l).length ≤ 4 * l.length
  | [], _, _ => by simp [wordsL]
  | t :: l, x, ok => by
    have h1 := len_trm ok.1
    have h2 := len_words ok.2
    simp only [wordsL, List.flatten_append, List.length_append, List.length_cons]
    omega
theorem len_flat (n : Nat) : ∀ ws : List (List UInt8), (flat n ws).length = (ws.length + 1) * n + ws.flatten.length
  | [] => by simp [flat, bl]
  | w :: ws => by
    simp only [flat, bl, List.length_append, List.length_replicate, len_flat n ws, List.flatten_cons, List.length_cons]
    rw [Nat.add_mul (ws.length + 1) 1 n, Nat.one_mul]
    omega
theorem read_rows4 {n : Nat} {l0 l1 l2 : List Trm} {a b c d e f g h i x y z : Int} {g0 g1 g2 : Bool} (i0 : Inv l0 a b c x g0) (i1 : Inv l1 d e f y g1) (i2 : Inv l2 g h i z g2) (n0 : l0 ≠ [] ∧ l0.length ≤ 4) (n1 : l1 ≠ [] ∧ l1.length ≤ 4) (n2 : l2 ≠ [] ∧ l2.length ≤ 4) (hn : n ≤ 1000) :
    readF (flat n (words3 l0 l1 l2)) = madeR a b c d e f g h i x y z := by
  refine read_rows i0 i1 i2 n0.1 n1.1 n2.1 ?_
  have m0 := len_words (i0 0).1
  have m1 := len_words (i1 0).1
  have m2 := len_words (i2 0).1
  rw [len_flat]
  have e1 : (words3 l0 l1 l2).length ≤ 50 := by
    simp only [words3, List.length_append, List.length_cons]
    omega
  have e2 : (words3 l0 l1 l2).flatten.length ≤ 530 := by
    simp only [words3, List.flatten_append, List.length_append, List.flatten_cons, List.length_cons, List.length_nil]
    omega
  have e3 : ((words3 l0 l1 l2).length + 1) * n ≤ 51 * 1000 := Nat.mul_le_mul (by omega) hn
  omega
def mapT (a b c d e f g h i x y z : Int) : List UInt8 := rowW a b c x ++ ([44] ++ (rowW d e f y ++ ([44] ++ rowW g h i z)))
theorem det_rows {a b c d e f g h i : Int} (hd : detI a b c d e f g h i = 1 ∨ detI a b c d e f g h i = -1) : ¬ (a = 0 ∧ b = 0 ∧ c = 0) ∧ ¬ (d = 0 ∧ e = 0 ∧ f = 0) ∧ ¬ (g = 0 ∧ h = 0 ∧ i = 0) := by
  unfold detI at hd
  refine ⟨?_, ?_, ?_⟩ <;> rintro ⟨rfl, rfl, rfl⟩ <;> simp at hd
theorem made_form {a b c d e f g h i x y z : Int} (ho : opE a b c d e f g h i x y z = 0) : madeR a b c d e f g h i x y z = ⟨a, b, c, d, e, f, g, h, i, x, y, z, 0, 0⟩ := by
  obtain ⟨o1, o2, o3⟩ := opE_zero.1 ho
  obtain ⟨hx, hy, hz⟩ := tbad_false.1 o1
  unfold madeR
  rw [matE_of o2 o3, md24_eq, md24_eq, md24_eq]
  simp only [mkO, if_true]
  rw [Int.emod_eq_of_lt hx.1 hx.2, Int.emod_eq_of_lt hy.1 hy.2, Int.emod_eq_of_lt hz.1 hz.2]
theorem mapT_words {a b c d e f g h i x y z : Int} (ho : opE a b c d e f g h i x y z = 0) : mapT a b c d e f g h i x y z = flat 0 (words3 (rowTs a b c x) (rowTs d e f y) (rowTs g h i z)) := by
  obtain ⟨o1, _, _⟩ := opE_zero.1 ho
  obtain ⟨hx, hy, hz⟩ := tbad_false.1 o1
  rw [flat0]
  unfold words3 mapT
  rw [List.flatten_append, List.flatten_cons, List.flatten_append, List.flatten_cons]
  rw [show (wordsL (rowTs a b c x)).flatten = rowW a b c x from rowTs_txt hx.1 hx.2, show (wordsL (rowTs d e f y)).flatten = rowW d e f y from rowTs_txt hy.1 hy.2, show (wordsL (rowTs g h i z)).flatten = rowW g h i z from rowTs_txt hz.1 hz.2]
theorem read_map {n : Nat} {a b c d e f g h i x y z : Int} (ho : opE a b c d e f g h i x y z = 0) (hn : n ≤ 1000) : readF (flat n (words3 (rowTs a b c x) (rowTs d e f y) (rowTs g h i z))) = ⟨a, b, c, d, e, f, g, h, i, x, y, z, 0, 0⟩ := by
  obtain ⟨o1, o2, o3⟩ := opE_zero.1 ho
  obtain ⟨hx, hy, hz⟩ := tbad_false.1 o1
  obtain ⟨ha, hb, hc, hd, he, hf, hg, hh, hi⟩ := over9_false.1 o2
  obtain ⟨d0, d1, d2⟩ := det_rows o3
  obtain ⟨_, i0⟩ := rowTs_inv ha hb hc hx.1 hx.2
  obtain ⟨_, i1⟩ := rowTs_inv hd he hf hy.1 hy.2
  obtain ⟨_, i2⟩ := rowTs_inv hg hh hi hz.1 hz.2
  rw [read_rows4 i0 i1 i2 (rowTs_ne d0) (rowTs_ne d1) (rowTs_ne d2) hn, made_form ho]
theorem read_write {a b c d e f g h i x y z : Int} (ho : opE a b c d e f g h i x y z = 0) : readF (mapT a b c d e f g h i x y z) = ⟨a, b, c, d, e, f, g, h, i, x, y, z, 0, 0⟩ := by
  rw [mapT_words ho]
  exact read_map ho (by omega)
end Go.AM
