import Derived.Test.YtppbbabmlammpaaDoorTC6
/- Plain laws: fractions written are read; what is read is in form, or the fault lies in the text. -/
open Go Go.AM Go.Proofs
namespace Go.AM
open Dist
set_option maxRecDepth 100000
theorem frS_at {ys : List Tok} {q : Nat} {n : Int} {d : Option Int} (hs : saysAt ys q (Lib.itoa n :: denW d)) (h0 : 0 ≤ n) (h1 : n ≤ 999) (hd : ∀ m, d = some m → 1 ≤ m ∧ m ≤ 999 ∧ (24 * n).tmod m = 0) (hn : d = none → ¬ (tk ys (q + 1)).kind = 47) :
    frS ys q false = ((24 * n).tdiv (d.getD 1), -1, q + (Lib.itoa n :: denW d).length) := by
  obtain ⟨n1, n2, n3, k4⟩ := hs
  have hx : numV (tk ys q).text 999 = n := by rw [n2, numV_itoa h0 h1 (by omega)]
  unfold frS
  cases d with
  | none =>
    rw [hx, nx_at n3, if_neg (by rintro (f | f); omega; cases f), if_pos (hn rfl), Option.getD_none, Int.tdiv_one]
    rfl
  | some m =>
    obtain ⟨b0, b1, b2⟩ := hd m rfl
    obtain ⟨k1, k2, k3, q1, q2, q3, _⟩ := k4
    have k1 : (tk ys (q + 1)).kind = 47 := k1
    rw [wk_itoa (by omega)] at q1
    rw [hx, nx_at n3, nx_at k3, nx_at q3, q2, numV_itoa (by omega) b1 (by omega), if_neg (by rintro (f | f); omega; cases f), if_neg (by rw [k1]; simp), if_neg (by rw [q1]; simp), if_neg (by rintro (f | f); omega; exact f b2)]
    rfl
theorem mdR_id {r : Int} (h0 : 0 ≤ r) (h1 : r < 24) : mdR r = r := by have := (mdR_bd r).2.2; omega
theorem says_len : ∀ {ts : List Tok} {ws : List (List UInt8)}, says ts ws → ts.length = ws.length
  | [], [], _ => rfl
  | _ :: _, _ :: _, h => by rw [List.length_cons, List.length_cons, says_len h.2.2]
  | [], _ :: _, h => h.elim
  | _ :: _, [], h => h.elim
/-- A FRACTION THAT IS WRITTEN IS READ -/
theorem read_frT {r : Int} (h0 : 0 ≤ r) (h1 : r < 24) : rfracF (frT r) = (r, 0, 0) := by
  have key : ∀ (n : Int) (d : Option Int), 0 ≤ n → n ≤ 999 → (∀ m, d = some m → 1 ≤ m ∧ m ≤ 999 ∧ (24 * n).tmod m = 0) → (24 * n).tdiv (d.getD 1) = r → rfracF (Lib.itoa n :: denW d).flatten = (r, 0, 0) := by
    intro n d g0 g1 gd gr
    have ok : (Trm.fr .no n d).ok (rs0 0) := ⟨.inl rfl, g0, g1, rfl, gd⟩
    have hw : ∀ w ∈ Lib.itoa n :: denW d, wordOk w := wordOk_trm ok
    have ha : alt false (Lib.itoa n :: denW d) := by
      have := alt_trm (op := false) (l := []) ok (fun e => by cases e) trivial
      rwa [List.append_nil] at this
    obtain ⟨ts, t1, t2⟩ := toks_flat (n := 0) hw ha
    rw [flat0] at t2
    have hl := len_trm ok
    rw [rfracF, if_neg (by
      have : (Lib.itoa n :: denW d).flatten.length ≤ 44 := hl.1
      omega), t2]
    have hsay := says_at (e := ⟨46, [], ((Lib.itoa n :: denW d).flatten.length : Nat)⟩) (pre := []) t1
    have hy := says_len t1
    generalize hys : ts ++ [(⟨46, [], ((Lib.itoa n :: denW d).flatten.length : Nat)⟩ : Tok)] = ys
    rw [List.nil_append, hys] at hsay
    have hsay : saysAt ys 0 (Lib.itoa n :: denW d) := hsay
    have hlast : (tk ys (Lib.itoa n :: denW d).length).kind = 46 := by
      rw [← hy, ← hys]
      unfold tk
      simp [List.getD_eq_getElem?_getD]
    have k0 : (tk ys 0).kind = 110 := by rw [hsay.1, wk_itoa g0]
    have e1 : sgN ys 0 = 0 := if_neg (by rw [k0]; decide)
    have e2 : sgV ys 0 = 1 := if_neg (by rw [k0]; rintro ⟨f, _⟩; cases f)
    have e3 := frS_at hsay g0 g1 gd (fun hd => by subst hd; rw [show (0 + 1 : Nat) = (Lib.itoa n :: denW none).length from rfl, hlast]; decide)
    rw [rfracT, e1, e2, e3, if_neg (by rw [k0]; simp), if_neg (show ¬ (0 : Int) ≤ -1 by decide), if_neg (by simp only [Nat.zero_add]; rw [hlast]; simp), gr, Int.one_mul, mdR_id h0 h1]
  by_cases hz : r = 0
  · subst hz
    have := key 0 none (by decide) (by decide) (fun m h => by cases h) (by decide)
    rw [show (Lib.itoa 0 :: denW none).flatten = frT 0 from (fr_txt .no 0)] at this
    exact this
  · obtain ⟨f1, f2, f3, f4, f5, f6⟩ := fr_ok (by omega : 0 < r) h1
    have := key (frN r) (some (frD r)) f1 f2 (fun m h => by injection h with h; subst h; exact ⟨f3, f4, f5⟩) f6
    have e : (Lib.itoa (frN r) :: denW (some (frD r))).flatten = frT r := by
      have := fr_txt .no r
      unfold frTrm at this
      rw [if_neg hz] at this
      exact this
    rwa [e] at this
/- places of faults -/
def PosOk (n : Nat) (l : List Tok) : Prop := ∀ t ∈ l, 0 ≤ t.pos ∧ t.pos ≤ n
theorem addLast_pos {n : Nat} {l : List Tok} {u : List UInt8} (h : PosOk n l) (hl : 0 < l.length) : PosOk n (addLast l u) := fun t ht => by
  unfold addLast at ht
  rcases List.mem_or_eq_of_mem_set ht with ht | ht
  · exact h t ht
  · subst ht
    exact (h _ (tk_mem hl) : 0 ≤ (tk l (l.length - 1)).pos ∧ _)
theorem stepT_pos {n : Nat} {l : List Tok} {op : Bool} {i : Nat} {r : Int} (h : PosOk n l) (hl : op = true → 0 < l.length) (hi : i ≤ n) : PosOk n (stepT l op i r).1 ∧ ((stepT l op i r).2 = true → 0 < (stepT l op i r).1.length) := by
  unfold stepT
  split
  · rename_i hd
    exact ⟨addLast_pos h (hl hd.2), fun _ => by rw [addLast_len]; exact hl hd.2⟩
  · split
    · rename_i h32
      refine ⟨h, fun h => ?_⟩
      have := digR_iff.1 h
      omega
    · refine ⟨fun t ht => ?_, fun _ => by simp⟩
      rcases List.mem_append.1 ht with ht | ht
      · exact h t ht
      · rw [List.mem_singleton.1 ht]
        exact ⟨by simp, by simp; omega⟩
theorem toksP_pos {s : List UInt8} : ∀ (n pos : Nat) (l : List Tok) (op : Bool), PosOk s.length l → (op = true → 0 < l.length) → PosOk s.length (toksP s n pos l op)
  | 0, _, _, _, h, _ => h
  | n + 1, pos, l, op, h, hl => by
    unfold toksP
    split
    · rename_i hp
      have := stepT_pos (op := op) (r := (runeL s pos).1) h hl (Nat.le_of_lt hp)
      exact toksP_pos n _ _ _ this.1 this.2
    · exact h
theorem toks_pos (s : List UInt8) : PosOk s.length (toks s) := fun t ht => by
  rcases List.mem_append.1 ht with ht | ht
  · exact toksP_pos _ 0 [] false (fun t ht => by cases ht) (fun h => by cases h) t ht
  · rw [List.mem_singleton.1 ht]
    exact ⟨by simp, by simp⟩
theorem tk_pos {n : Nat} {l : List Tok} (h : PosOk n l) (i : Nat) : 0 ≤ (tk l i).pos ∧ (tk l i).pos ≤ n := by
  unfold tk
  rw [List.getD_eq_getElem?_getD]
  rcases Nat.lt_or_ge i l.length with hi | hi
  · rw [List.getElem?_eq_getElem hi]
    exact h _ (List.getElem_mem hi)
  · rw [List.getElem?_eq_none hi]
    simp
def FltOk (n : Nat) (f : Int) : Prop := f = -1 ∨ (0 ≤ f ∧ f ≤ n)
theorem frS_flt {n : Nat} {ys : List Tok} (h : PosOk n ys) (st : Nat) (again : Bool) : FltOk n (frS ys st again).2.1 := by
  unfold frS
  repeat' split
  all_goals first
    | exact .inl rfl
    | exact .inr (tk_pos h _)
theorem letP_flt {n : Nat} {ys : List Tok} (h : PosOk n ys) (x : RS) (sk : Int) (q : Nat) : ∀ r, letP ys x sk q = .inr r → FltOk n r.fault := by
  intro r hr
  unfold letP at hr
  repeat' split at hr
  all_goals first
    | cases hr; done
    | (cases hr; exact .inr (tk_pos h _))
theorem stepR_flt {n : Nat} {ys : List Tok} (h : PosOk n ys) (x : RS) : ∀ r, stepR ys x = .inr r → FltOk n r.fault := by
  intro r hr
  unfold stepR at hr
  split at hr
  · cases hr; exact .inl rfl
  · split at hr
    · split at hr
      · cases hr; exact .inr (tk_pos h _)
      · exact letP_flt h _ _ _ r hr
    · split at hr
      · exact letP_flt h _ _ _ r hr
      · split at hr
        · split at hr
          · cases hr; exact frS_flt h _ _
          · cases hr
        · cases hr; exact .inr (tk_pos h _)
theorem rowR_flt {n : Nat} {ys : List Tok} (h : PosOk n ys) : ∀ (m : Nat) (x : RS), FltOk n (rowR ys m x).fault
  | 0, _ => .inr ⟨Int.le_refl _, by show (0 : Int) ≤ n; omega⟩
  | m + 1, x => by
    unfold rowR
    cases hs : stepR ys x with
    | inl y => exact rowR_flt h m y
    | inr r => exact stepR_flt h x r hs
/-- what is read: a map in form, or a fault -/
def rdOk (n : Nat) (r : Rd) : Prop := (r.err = 0 ∧ r.at' = 0 ∧ opE r.a r.b r.c r.d r.e r.f r.g r.h r.i r.x r.y r.z = 0) ∨ (r.err ≠ 0 ∧ r = rdZ r.at' r.err ∧ 0 ≤ r.at' ∧ r.at' ≤ n)
theorem made_ok (m : Nat) (a b c d e f g h i x y z : Int) : rdOk m (madeR a b c d e f g h i x y z) := by
  rcases matE_cases a b c d e f g h i with ⟨h1, _⟩ | ⟨h1, _⟩ | ⟨h1, h2, h3⟩
  · refine .inr ?_
    unfold madeR
    rw [h1]
    refine ⟨show (4 : Int) ≠ 0 by decide, rfl, Int.le_refl _, by show (0 : Int) ≤ m; omega⟩
  · refine .inr ?_
    unfold madeR
    rw [h1]
    refine ⟨show (3 : Int) ≠ 0 by decide, rfl, Int.le_refl _, by show (0 : Int) ≤ m; omega⟩
  · refine .inl ?_
    unfold madeR
    rw [h1, md24_eq, md24_eq, md24_eq]
    simp only [mkO, if_true]
    refine ⟨trivial, trivial, opE_zero.2 ⟨tbad_false.2 ?_, h2, h3⟩⟩
    omega
theorem rowT_ok {n : Nat} {ys : List Tok} (h : PosOk n ys) {r : RR} (hr : FltOk n r.fault) {k : Int} {next : Rd} (hn : rdOk n next) : rdOk n (rowT ys r k next) := by
  unfold rowT
  split
  · rename_i h0
    refine .inr ⟨show (12 : Int) ≠ 0 by decide, rfl, h0, ?_⟩
    rcases hr with hr | hr
    · omega
    · exact hr.2
  · split
    · exact .inr ⟨show (12 : Int) ≠ 0 by decide, rfl, tk_pos h _⟩
    · exact hn
theorem readF_ok (s : List UInt8) : rdOk s.length (readF s) := by
  unfold readF
  split
  · exact .inr ⟨by decide, rfl, Int.le_refl _, by show (0 : Int) ≤ s.length; omega⟩
  · have h := toks_pos s
    generalize toks s = ys at *
    exact rowT_ok h (rowR_flt h _ _) (rowT_ok h (rowR_flt h _ _) (rowT_ok h (rowR_flt h _ _) (made_ok _ _ _ _ _ _ _ _ _ _ _ _ _)))
end Go.AM
