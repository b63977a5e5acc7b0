import Derived.Test.YtppbbabmlammpaaDoorPT3
import Derived.Test.YtppbbabmlammpaaDoorTC3
set_option linter.unusedVariables false
set_option linter.unusedSimpArgs false
open Go Go.AM Go.Proofs
namespace Go.AM
open Dist
set_option maxRecDepth 100000
theorem alt_any {op : Bool} : ∀ {l : List (List UInt8)}, alt true l → alt op l
  | [], _ => trivial
  | _ :: _, h => ⟨fun _ => h.1 rfl, h.2⟩
theorem sym_word {b : UInt8} (h : symB b) : isDig [b] = false := by rcases h with e | e | e | e | e | e | e <;> subst e <;> rfl
theorem dig_word {n : Int} (h : 0 ≤ n) : isDig (Lib.itoa n) = true := by
  obtain ⟨h1, h2⟩ := itoa_digs n h
  generalize Lib.itoa n = s at *
  cases s with
  | nil => exact absurd rfl h1
  | cons b r => exact digR_b (h2 b (by simp))
theorem alt_sym {b : UInt8} {op : Bool} {l : List (List UInt8)} (h : symB b) (hl : alt false l) : alt op ([b] :: l) := ⟨fun _ => sym_word h, by rw [sym_word h]; exact hl⟩
theorem alt_num {n : Int} {l : List (List UInt8)} (h : 0 ≤ n) (hl : alt true l) : alt false (Lib.itoa n :: l) := ⟨(fun e => nomatch e), by rw [dig_word h]; exact hl⟩
theorem alt_sg {s : Sg} {op : Bool} {l : List (List UInt8)} (h : s = .no → op = false) (hl : alt false l) : alt op (s.w ++ l) := by
  cases s with
  | no => rw [h rfl]; exact hl
  | plus => exact alt_sym (by simp [symB]) hl
  | minus => exact alt_sym (by simp [symB]) hl
theorem sym_let {l : UInt8} (h : l = 120 ∨ l = 121 ∨ l = 122) : symB l := by rcases h with e | e | e <;> simp [symB, e]
theorem alt_trm {t : Trm} {x : RS} {op : Bool} {l : List (List UInt8)} (ok : t.ok x) (h : op = true → x.first = false) (hl : alt true l) : alt op (t.w ++ l) := by
  have hop : x.first = true → op = false := fun e => by
    cases op with
    | false => rfl
    | true => rw [h rfl] at e; cases e
  cases t with
  | lt s k c =>
    obtain ⟨o1, o2, o3⟩ := ok
    have hc : c = 120 ∨ c = 121 ∨ c = 122 := by rcases o3 with h | h | h <;> simp [h.1]
    show alt op ((s.w ++ (numW k ++ [[c]])) ++ l)
    rw [List.append_assoc]
    refine alt_sg (fun e => ?_) ?_
    · rcases o1 with f | f
      · exact hop f
      · exact absurd e f
    · cases k with
      | none => exact alt_sym (sym_let hc) (alt_any hl)
      | some n => exact alt_num (by have := o2 n rfl; omega) (alt_sym (sym_let hc) (alt_any hl))
  | fr s n d =>
    obtain ⟨o1, o2, o3, o4, o5⟩ := ok
    show alt op ((s.w ++ (Lib.itoa n :: denW d)) ++ l)
    rw [List.append_assoc]
    refine alt_sg (fun e => ?_) ?_
    · rcases o1 with f | f
      · exact hop f
      · exact absurd e f
    · cases d with
      | none => exact alt_num o2 hl
      | some m => exact alt_num o2 (alt_sym (by simp [symB]) (alt_num (by have := o5 m rfl; omega) hl))
theorem wordOk_trm {t : Trm} {x : RS} (ok : t.ok x) : ∀ w ∈ t.w, wordOk w := by
  have hsg : ∀ s : Sg, ∀ w ∈ s.w, wordOk w := fun s w hw => by
    cases s with
    | no => cases hw
    | plus => exact .inr ⟨43, by simp [symB], List.mem_singleton.1 hw⟩
    | minus => exact .inr ⟨45, by simp [symB], List.mem_singleton.1 hw⟩
  intro w hw
  cases t with
  | lt s k c =>
    obtain ⟨o1, o2, o3⟩ := ok
    have hc : c = 120 ∨ c = 121 ∨ c = 122 := by rcases o3 with h | h | h <;> simp [h.1]
    rcases List.mem_append.1 hw with hw | hw
    · exact hsg s w hw
    · rcases List.mem_append.1 hw with hw | hw
      · cases k with
        | none => cases hw
        | some n => rw [List.mem_singleton.1 hw]; exact .inl (itoa_digs n (by have := o2 n rfl; omega))
      · exact .inr ⟨c, sym_let hc, List.mem_singleton.1 hw⟩
  | fr s n d =>
    obtain ⟨o1, o2, o3, o4, o5⟩ := ok
    rcases List.mem_append.1 hw with hw | hw
    · exact hsg s w hw
    · rcases List.mem_cons.1 hw with hw | hw
      · rw [hw]; exact .inl (itoa_digs n o2)
      · cases d with
        | none => cases hw
        | some m =>
          rcases List.mem_cons.1 hw with hw | hw
          · exact .inr ⟨47, by simp [symB], hw⟩
          · rw [List.mem_singleton.1 hw]; exact .inl (itoa_digs m (by have := o5 m rfl; omega))
end Go.AM
