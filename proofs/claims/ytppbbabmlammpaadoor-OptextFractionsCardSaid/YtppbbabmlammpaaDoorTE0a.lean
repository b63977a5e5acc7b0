import Derived.Test.YtppbbabmlammpaaDoorTD3
set_option linter.unusedVariables false
set_option linter.unusedSimpArgs false
open Go Go.AM Go.Proofs
namespace Go.AM
open Dist
set_option maxRecDepth 100000
theorem frS_at {ys : List Tok} {q : Nat} {n : Int} {d : Option Int} (hs : saysAt ys q (Lib.itoa n :: denW d)) (h0 : 0 ≤ n) (h1 : n ≤ 999) (hd : ∀ m, d = some m → 1 ≤ m ∧ m ≤ 999 ∧ (24 * n).tmod m = 0) (hn : d = none → ¬ (tk ys (q + 1)).kind = 47) :
    frS ys q false = ((24 * n).tdiv (d.getD 1), -1, q + (Lib.itoa n :: denW d).length) := by
  obtain ⟨n1, n2, n3, k4⟩ := hs
  have hx : numV (tk ys q).text 999 = n := by rw [n2, numV_itoa h0 h1 (by omega)]
  unfold frS
  cases d with
  | none =>
    rw [hx, nx_at n3, if_neg (by rintro (f | f); omega; cases f), if_pos (hn rfl), Option.getD_none, Int.tdiv_one]
    rfl
  | some m =>
    obtain ⟨b0, b1, b2⟩ := hd m rfl
    obtain ⟨k1, k2, k3, q1, q2, q3, _⟩ := k4
    have k1 : (tk ys (q + 1)).kind = 47 := k1
    rw [wk_itoa (by omega)] at q1
    rw [hx, nx_at n3, nx_at k3, nx_at q3, q2, numV_itoa (by omega) b1 (by omega), if_neg (by rintro (f | f); omega; cases f), if_neg (by rw [k1]; simp), if_neg (by rw [q1]; simp), if_neg (by rintro (f | f); omega; exact f b2)]
    rfl
theorem mdR_id {r : Int} (h0 : 0 ≤ r) (h1 : r < 24) : mdR r = r := by have := (mdR_bd r).2.2; omega
theorem says_len : ∀ {ts : List Tok} {ws : List (List UInt8)}, says ts ws → ts.length = ws.length
  | [], [], _ => rfl
  | _ :: _, _ :: _, h => by rw [List.length_cons, List.length_cons, says_len h.2.2]
  | [], _ :: _, h => h.elim
  | _ :: _, [], h => h.elim
theorem read_frT {r : Int} (h0 : 0 ≤ r) (h1 : r < 24) : rfracF (frT r) = (r, 0, 0) := by
  have key : ∀ (n : Int) (d : Option Int), 0 ≤ n → n ≤ 999 → (∀ m, d = some m → 1 ≤ m ∧ m ≤ 999 ∧ (24 * n).tmod m = 0) → (24 * n).tdiv (d.getD 1) = r → rfracF (Lib.itoa n :: denW d).flatten = (r, 0, 0) := by
    intro n d g0 g1 gd gr
    have ok : (Trm.fr .no n d).ok (rs0 0) := ⟨.inl rfl, g0, g1, rfl, gd⟩
    have hw : ∀ w ∈ Lib.itoa n :: denW d, wordOk w := wordOk_trm ok
    have ha : alt false (Lib.itoa n :: denW d) := by
      have := alt_trm (op := false) (l := []) ok (fun e => by cases e) trivial
      rwa [List.append_nil] at this
    obtain ⟨ts, t1, t2⟩ := toks_flat (n := 0) hw ha
    rw [flat0] at t2
    have hl := len_trm ok
    rw [rfracF, if_neg (by
      have : (Lib.itoa n :: denW d).flatten.length ≤ 44 := hl.1
      omega), t2]
    have hsay := says_at (e := ⟨46, [], ((Lib.itoa n :: denW d).flatten.length : Nat)⟩) (pre := []) t1
    have hy := says_len t1
    generalize hys : ts ++ [(⟨46, [], ((Lib.itoa n :: denW d).flatten.length : Nat)⟩ : Tok)] = ys
    rw [List.nil_append, hys] at hsay
    have hsay : saysAt ys 0 (Lib.itoa n :: denW d) := hsay
    have hlast : (tk ys (Lib.itoa n :: denW d).length).kind = 46 := by
      rw [← hy, ← hys]
      unfold tk
      simp [List.getD_eq_getElem?_getD]
    have k0 : (tk ys 0).kind = 110 := by rw [hsay.1, wk_itoa g0]
    have e1 : sgN ys 0 = 0 := if_neg (by rw [k0]; decide)
    have e2 : sgV ys 0 = 1 := if_neg (by rw [k0]; rintro ⟨f, _⟩; cases f)
    have e3 := frS_at hsay g0 g1 gd (fun hd => by subst hd; rw [show (0 + 1 : Nat) = (Lib.itoa n :: denW none).length from rfl, hlast]; decide)
    rw [rfracT, e1, e2, e3, if_neg (by rw [k0]; simp), if_neg (show ¬ (0 : Int) ≤ -1 by decide), if_neg (by simp only [Nat.zero_add]; rw [hlast]; simp), gr, Int.one_mul, mdR_id h0 h1]
  by_cases hz : r = 0
  · subst hz
    have := key 0 none (by decide) (by decide) (fun m h => by cases h) (by decide)
    rw [show (Lib.itoa 0 :: denW none).flatten = frT 0 from (fr_txt .no 0)] at this
    exact this
  · obtain ⟨f1, f2, f3, f4, f5, f6⟩ := fr_ok (by omega : 0 < r) h1
    have := key (frN r) (some (frD r)) f1 f2 (fun m h => by injection h with h; subst h; exact ⟨f3, f4, f5⟩) f6
    have e : (Lib.itoa (frN r) :: denW (some (frD r))).flatten = frT r := by
      have := fr_txt .no r
      unfold frTrm at this
      rw [if_neg hz] at this
      exact this
    rwa [e] at this
end Go.AM
