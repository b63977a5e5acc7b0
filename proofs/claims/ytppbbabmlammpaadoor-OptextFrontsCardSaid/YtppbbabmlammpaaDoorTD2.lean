import Derived.Test.YtppbbabmlammpaaDoorPT3
import Derived.Test.YtppbbabmlammpaaDoorTC3
set_option linter.unusedVariables false
set_option linter.unusedSimpArgs false
open Go Go.AM Go.Proofs
namespace Go.AM
open Dist
set_option maxRecDepth 100000
def okM : RS → List Trm → Prop
  | _, [] => True
  | x, t :: l => t.ok x ∧ okM (x.app t) l
theorem okM_app : ∀ {a b : List Trm} {x : RS}, okM x a → okM (appL x a) b → okM x (a ++ b)
  | [], _, _, _, h => h
  | _ :: _, _, _, h1, h => ⟨h1.1, okM_app h1.2 h⟩
theorem appL_app : ∀ (a b : List Trm) (x : RS), appL x (a ++ b) = appL (appL x a) b
  | [], _, _ => rfl
  | _ :: a, b, _ => appL_app a b _
theorem okL_of : ∀ {l : List Trm} {x : RS}, okM x l → (appL x l).first = false → okL x l
  | [], _, _, h => h
  | _ :: _, _, h1, h => ⟨h1.1, okL_of h1.2 h⟩
theorem wordsL_app : ∀ (a b : List Trm), wordsL (a ++ b) = wordsL a ++ wordsL b
  | [], _ => rfl
  | t :: a, b => by
    show t.w ++ wordsL (a ++ b) = t.w ++ wordsL a ++ wordsL b
    rw [wordsL_app a b, List.append_assoc]
def Inv (ts : List Trm) (a b c p : Int) (g : Bool) : Prop := ∀ st, okM (rs0 st) ts ∧ ∃ st', appL (rs0 st) ts = ⟨st', a, b, c, p, decide (a ≠ 0), decide (b ≠ 0), decide (c ≠ 0), g, ts.isEmpty⟩
theorem inv_nil : Inv [] 0 0 0 0 false := fun st => ⟨trivial, st, rfl⟩
theorem app_empty (ts : List Trm) (t : Trm) : (ts ++ [t]).isEmpty = false := by cases ts <;> rfl
theorem lt_ne {s : Sg} {k : Option Int} (hk : ∀ n, k = some n → 1 ≤ n ∧ n ≤ 1000) : s.v * k.getD 1 ≠ 0 := by
  have : 1 ≤ k.getD 1 := by cases k with
    | none => simp
    | some n => exact (hk n rfl).1
  cases s <;> simp only [Sg.v] <;> omega
theorem inv_x {ts : List Trm} {b c p : Int} {g : Bool} {s : Sg} {k : Option Int} (h : Inv ts 0 b c p g) (hs : ts = [] ∨ s ≠ .no) (hk : ∀ n, k = some n → 1 ≤ n ∧ n ≤ 1000) : Inv (ts ++ [.lt s k 120]) (s.v * k.getD 1) b c p g := fun st => by
  obtain ⟨h1, st', h2⟩ := h st
  refine ⟨okM_app h1 ?_, st' + (Trm.lt s k 120).w.length, ?_⟩
  · rw [h2]
    exact ⟨⟨hs.imp (fun e => by rw [e]; rfl) id, hk, .inl ⟨rfl, rfl⟩⟩, trivial⟩
  · rw [appL_app, h2, app_empty, decide_eq_true (lt_ne hk)]
    rfl
theorem inv_y {ts : List Trm} {a c p : Int} {g : Bool} {s : Sg} {k : Option Int} (h : Inv ts a 0 c p g) (hs : ts = [] ∨ s ≠ .no) (hk : ∀ n, k = some n → 1 ≤ n ∧ n ≤ 1000) : Inv (ts ++ [.lt s k 121]) a (s.v * k.getD 1) c p g := fun st => by
  obtain ⟨h1, st', h2⟩ := h st
  refine ⟨okM_app h1 ?_, st' + (Trm.lt s k 121).w.length, ?_⟩
  · rw [h2]
    exact ⟨⟨hs.imp (fun e => by rw [e]; rfl) id, hk, .inr (.inl ⟨rfl, rfl⟩)⟩, trivial⟩
  · rw [appL_app, h2, app_empty, decide_eq_true (lt_ne hk)]
    rfl
theorem inv_z {ts : List Trm} {a b p : Int} {g : Bool} {s : Sg} {k : Option Int} (h : Inv ts a b 0 p g) (hs : ts = [] ∨ s ≠ .no) (hk : ∀ n, k = some n → 1 ≤ n ∧ n ≤ 1000) : Inv (ts ++ [.lt s k 122]) a b (s.v * k.getD 1) p g := fun st => by
  obtain ⟨h1, st', h2⟩ := h st
  refine ⟨okM_app h1 ?_, st' + (Trm.lt s k 122).w.length, ?_⟩
  · rw [h2]
    exact ⟨⟨hs.imp (fun e => by rw [e]; rfl) id, hk, .inr (.inr ⟨rfl, rfl⟩)⟩, trivial⟩
  · rw [appL_app, h2, app_empty, decide_eq_true (lt_ne hk)]
    rfl
theorem inv_f {ts : List Trm} {a b c p : Int} {s : Sg} {n : Int} {d : Option Int} (h : Inv ts a b c p false) (hs : ts = [] ∨ s ≠ .no) (h0 : 0 ≤ n) (h1 : n ≤ 999) (hd : ∀ m, d = some m → 1 ≤ m ∧ m ≤ 999 ∧ (24 * n).tmod m = 0) : Inv (ts ++ [.fr s n d]) a b c (s.v * (24 * n).tdiv (d.getD 1)) true := fun st => by
  obtain ⟨g1, st', g2⟩ := h st
  refine ⟨okM_app g1 ?_, st' + (Trm.fr s n d).w.length, ?_⟩
  · rw [g2]
    exact ⟨⟨hs.imp (fun e => by rw [e]; rfl) id, h0, h1, rfl, hd⟩, trivial⟩
  · rw [appL_app, g2, app_empty]
    rfl
theorem alt_any {op : Bool} : ∀ {l : List (List UInt8)}, alt true l → alt op l
  | [], _ => trivial
  | _ :: _, h => ⟨fun _ => h.1 rfl, h.2⟩
theorem sym_word {b : UInt8} (h : symB b) : isDig [b] = false := by rcases h with e | e | e | e | e | e | e <;> subst e <;> rfl
theorem dig_word {n : Int} (h : 0 ≤ n) : isDig (Lib.itoa n) = true := by
  obtain ⟨h1, h2⟩ := itoa_digs n h
  generalize Lib.itoa n = s at *
  cases s with
  | nil => exact absurd rfl h1
  | cons b r => exact digR_b (h2 b (by simp))
theorem alt_sym {b : UInt8} {op : Bool} {l : List (List UInt8)} (h : symB b) (hl : alt false l) : alt op ([b] :: l) := ⟨fun _ => sym_word h, by rw [sym_word h]; exact hl⟩
theorem alt_num {n : Int} {l : List (List UInt8)} (h : 0 ≤ n) (hl : alt true l) : alt false (Lib.itoa n :: l) := ⟨(fun e => nomatch e), by rw [dig_word h]; exact hl⟩
theorem alt_sg {s : Sg} {op : Bool} {l : List (List UInt8)} (h : s = .no → op = false) (hl : alt false l) : alt op (s.w ++ l) := by
  cases s with
  | no => rw [h rfl]; exact hl
  | plus => exact alt_sym (by simp [symB]) hl
  | minus => exact alt_sym (by simp [symB]) hl
theorem sym_let {l : UInt8} (h : l = 120 ∨ l = 121 ∨ l = 122) : symB l := by rcases h with e | e | e <;> simp [symB, e]
theorem alt_trm {t : Trm} {x : RS} {op : Bool} {l : List (List UInt8)} (ok : t.ok x) (h : op = true → x.first = false) (hl : alt true l) : alt op (t.w ++ l) := by
  have hop : x.first = true → op = false := fun e => by
    cases op with
    | false => rfl
    | true => rw [h rfl] at e; cases e
  cases t with
  | lt s k c =>
    obtain ⟨o1, o2, o3⟩ := ok
    have hc : c = 120 ∨ c = 121 ∨ c = 122 := by rcases o3 with h | h | h <;> simp [h.1]
    show alt op ((s.w ++ (numW k ++ [[c]])) ++ l)
    rw [List.append_assoc]
    refine alt_sg (fun e => ?_) ?_
    · rcases o1 with f | f
      · exact hop f
      · exact absurd e f
    · cases k with
      | none => exact alt_sym (sym_let hc) (alt_any hl)
      | some n => exact alt_num (by have := o2 n rfl; omega) (alt_sym (sym_let hc) (alt_any hl))
  | fr s n d =>
    obtain ⟨o1, o2, o3, o4, o5⟩ := ok
    show alt op ((s.w ++ (Lib.itoa n :: denW d)) ++ l)
    rw [List.append_assoc]
    refine alt_sg (fun e => ?_) ?_
    · rcases o1 with f | f
      · exact hop f
      · exact absurd e f
    · cases d with
      | none => exact alt_num o2 hl
      | some m => exact alt_num o2 (alt_sym (by simp [symB]) (alt_num (by have := o5 m rfl; omega) hl))
theorem alt_words : ∀ {l : List Trm} {x : RS} {op : Bool} {r : List (List UInt8)}, okM x l → (op = true → x.first = false) → alt true r → alt op (wordsL l ++ r)
  | [], _, _, _, _, _, hr => alt_any hr
  | t :: l, x, op, r, ok, h, hr => by
    show alt op ((t.w ++ wordsL l) ++ r)
    rw [List.append_assoc]
    exact alt_trm ok.1 h (alt_words ok.2 (fun _ => (app_st x t).2) hr)
theorem wordOk_trm {t : Trm} {x : RS} (ok : t.ok x) : ∀ w ∈ t.w, wordOk w := by
  have hsg : ∀ s : Sg, ∀ w ∈ s.w, wordOk w := fun s w hw => by
    cases s with
    | no => cases hw
    | plus => exact .inr ⟨43, by simp [symB], List.mem_singleton.1 hw⟩
    | minus => exact .inr ⟨45, by simp [symB], List.mem_singleton.1 hw⟩
  intro w hw
  cases t with
  | lt s k c =>
    obtain ⟨o1, o2, o3⟩ := ok
    have hc : c = 120 ∨ c = 121 ∨ c = 122 := by rcases o3 with h | h | h <;> simp [h.1]
    rcases List.mem_append.1 hw with hw | hw
    · exact hsg s w hw
    · rcases List.mem_append.1 hw with hw | hw
      · cases k with
        | none => cases hw
        | some n => rw [List.mem_singleton.1 hw]; exact .inl (itoa_digs n (by have := o2 n rfl; omega))
      · exact .inr ⟨c, sym_let hc, List.mem_singleton.1 hw⟩
  | fr s n d =>
    obtain ⟨o1, o2, o3, o4, o5⟩ := ok
    rcases List.mem_append.1 hw with hw | hw
    · exact hsg s w hw
    · rcases List.mem_cons.1 hw with hw | hw
      · rw [hw]; exact .inl (itoa_digs n o2)
      · cases d with
        | none => cases hw
        | some m =>
          rcases List.mem_cons.1 hw with hw | hw
          · exact .inr ⟨47, by simp [symB], hw⟩
          · rw [List.mem_singleton.1 hw]; exact .inl (itoa_digs m (by have := o5 m rfl; omega))
theorem wordOk_words : ∀ {l : List Trm} {x : RS}, okM x l → ∀ w ∈ wordsL l, wordOk w
  | [], _, _, _, hw => by cases hw
  | t :: l, x, ok, w, hw => by
    rcases List.mem_append.1 (show w ∈ t.w ++ wordsL l from hw) with hw | hw
    · exact wordOk_trm ok.1 w hw
    · exact wordOk_words ok.2 w hw
def words3 (l0 l1 l2 : List Trm) : List (List UInt8) := wordsL l0 ++ ([44] :: (wordsL l1 ++ ([44] :: wordsL l2)))
theorem inv_row {ys : List Tok} {l : List Trm} {st : Nat} {a b c p : Int} {g : Bool} (hi : Inv l a b c p g) (hne : l ≠ []) (hs : saysAt ys st (wordsL l)) (hl : st + (wordsL l).length < ys.length) (he : (tk ys (st + (wordsL l).length)).kind = 44 ∨ (tk ys (st + (wordsL l).length)).kind = 46) :
    rowF ys st = ⟨a, b, c, p, -1, st + (wordsL l).length⟩ := by
  obtain ⟨h1, st', h2⟩ := hi st
  have hf : l.isEmpty = false := by cases l with
    | nil => exact absurd rfl hne
    | cons _ _ => rfl
  rw [rowF_terms hs hl (okL_of h1 (by rw [h2]; exact hf)) he, h2]
end Go.AM
