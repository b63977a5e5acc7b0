import Derived.Test.YtppbbabmlammpaaDoorTF2
import Derived.Test.YtppbbabmlammpaaDoorTE1
set_option linter.unusedVariables false
set_option linter.unusedSimpArgs false
open Go Go.AM Go.Proofs
namespace Go.AM
open Dist
set_option maxRecDepth 100000
theorem sx {ts : List Trm} {b c p e : Int} {g : Bool} (h : Inv ts 0 b c p g) (r : -1000 ≤ e ∧ e ≤ 1000) : Inv (ts ++ letL e 120) e b c p g := by
  unfold letL
  by_cases h0 : e = 0
  · rw [if_pos h0, List.append_nil, h0]; exact h
  · rw [if_neg h0]
    by_cases hn : e < 0
    · rw [if_pos hn]
      have := inv_x (s := .minus) (k := some (-e)) h (.inr (fun h => nomatch h)) (fun n h => by injection h; omega)
      rwa [show Sg.minus.v * (some (-e)).getD 1 = e by show -1 * (-e) = e; omega] at this
    · rw [if_neg hn]
      have := inv_x (s := .plus) (k := some e) h (.inr (fun h => nomatch h)) (fun n h => by injection h; omega)
      rwa [show Sg.plus.v * (some e).getD 1 = e by show 1 * e = e; omega] at this
theorem sy {ts : List Trm} {a c p e : Int} {g : Bool} (h : Inv ts a 0 c p g) (r : -1000 ≤ e ∧ e ≤ 1000) : Inv (ts ++ letL e 121) a e c p g := by
  unfold letL
  by_cases h0 : e = 0
  · rw [if_pos h0, List.append_nil, h0]; exact h
  · rw [if_neg h0]
    by_cases hn : e < 0
    · rw [if_pos hn]
      have := inv_y (s := .minus) (k := some (-e)) h (.inr (fun h => nomatch h)) (fun n h => by injection h; omega)
      rwa [show Sg.minus.v * (some (-e)).getD 1 = e by show -1 * (-e) = e; omega] at this
    · rw [if_neg hn]
      have := inv_y (s := .plus) (k := some e) h (.inr (fun h => nomatch h)) (fun n h => by injection h; omega)
      rwa [show Sg.plus.v * (some e).getD 1 = e by show 1 * e = e; omega] at this
theorem sz {ts : List Trm} {a b p e : Int} {g : Bool} (h : Inv ts a b 0 p g) (r : -1000 ≤ e ∧ e ≤ 1000) : Inv (ts ++ letL e 122) a b e p g := by
  unfold letL
  by_cases h0 : e = 0
  · rw [if_pos h0, List.append_nil, h0]; exact h
  · rw [if_neg h0]
    by_cases hn : e < 0
    · rw [if_pos hn]
      have := inv_z (s := .minus) (k := some (-e)) h (.inr (fun h => nomatch h)) (fun n h => by injection h; omega)
      rwa [show Sg.minus.v * (some (-e)).getD 1 = e by show -1 * (-e) = e; omega] at this
    · rw [if_neg hn]
      have := inv_z (s := .plus) (k := some e) h (.inr (fun h => nomatch h)) (fun n h => by injection h; omega)
      rwa [show Sg.plus.v * (some e).getD 1 = e by show 1 * e = e; omega] at this
def prt (mn : Bool) (t : Int) : Int := if mn = true then -(mdR (-t)) else mdR t
theorem sf {ts : List Trm} {a b c t : Int} {mn : Bool} (h : Inv ts a b c 0 false) : Inv (ts ++ [if mn = true then frTrm .minus (mdR (-t)) else frTrm .plus (mdR t)]) a b c (prt mn t) true := by
  unfold prt
  cases mn with
  | true =>
    obtain ⟨b0, b1, _⟩ := mdR_bd (-t)
    have := inv_frT (s := .minus) (t := mdR (-t)) h (.inr (fun h => nomatch h)) b0 b1
    rwa [show Sg.minus.v * mdR (-t) = -(mdR (-t)) by show -1 * mdR (-t) = _; omega] at this
  | false =>
    obtain ⟨b0, b1, _⟩ := mdR_bd t
    have := inv_frT (s := .plus) (t := mdR t) h (.inr (fun h => nomatch h)) b0 b1
    rwa [show Sg.plus.v * mdR t = mdR t from Int.one_mul _] at this
theorem prt_mod {mn : Bool} {t : Int} (h0 : 0 ≤ t) (h1 : t < 24) : prt mn t % 24 = t := by
  have h2 := (mdR_bd (-t)).2.2
  have h3 := (mdR_bd t).2.2
  unfold prt
  split <;> omega
theorem rot_inv {e0 e1 e2 t u : Int} (mn : Bool) (r0 : -1000 ≤ e0 ∧ e0 ≤ 1000) (r1 : -1000 ≤ e1 ∧ e1 ≤ 1000) (r2 : -1000 ≤ e2 ∧ e2 ≤ 1000) : Inv (rotL e0 e1 e2 t mn u 4) e0 e1 e2 (prt mn t) true := by
  have hr : u.toNat % 4 = 0 ∨ u.toNat % 4 = 1 ∨ u.toNat % 4 = 2 ∨ u.toNat % 4 = 3 := by omega
  unfold rotL rotL rotL rotL rotL
  rcases hr with h | h | h | h
  · rw [show (0 + u.toNat) % 4 = 0 by omega, show (1 + u.toNat) % 4 = 1 by omega, show (2 + u.toNat) % 4 = 2 by omega, show (3 + u.toNat) % 4 = 3 by omega]
    exact sf (sz (sy (sx inv_nil r0) r1) r2)
  · rw [show (0 + u.toNat) % 4 = 1 by omega, show (1 + u.toNat) % 4 = 2 by omega, show (2 + u.toNat) % 4 = 3 by omega, show (3 + u.toNat) % 4 = 0 by omega]
    exact sx (sf (sz (sy inv_nil r1) r2)) r0
  · rw [show (0 + u.toNat) % 4 = 2 by omega, show (1 + u.toNat) % 4 = 3 by omega, show (2 + u.toNat) % 4 = 0 by omega, show (3 + u.toNat) % 4 = 1 by omega]
    exact sy (sx (sf (sz inv_nil r2)) r0) r1
  · rw [show (0 + u.toNat) % 4 = 3 by omega, show (1 + u.toNat) % 4 = 0 by omega, show (2 + u.toNat) % 4 = 1 by omega, show (3 + u.toNat) % 4 = 2 by omega]
    exact sz (sy (sx (sf inv_nil) r0) r1) r2
theorem trmL_len (e0 e1 e2 t : Int) (mn : Bool) (j : Nat) : (trmL e0 e1 e2 t mn j).length ≤ 1 := by
  unfold trmL
  split
  · unfold letL; repeat' split
    all_goals simp
  · unfold letL; repeat' split
    all_goals simp
  · unfold letL; repeat' split
    all_goals simp
  · simp
theorem rotL_len (e0 e1 e2 t : Int) (mn : Bool) (u : Int) : ∀ k, (rotL e0 e1 e2 t mn u k).length ≤ k
  | 0 => Nat.le_refl _
  | k + 1 => by
    have h1 := rotL_len e0 e1 e2 t mn u k
    have h2 := trmL_len e0 e1 e2 t mn ((k + u.toNat) % 4)
    unfold rotL
    rw [List.length_append]
    omega
theorem inv_ne {ts : List Trm} {a b c p : Int} (h : Inv ts a b c p true) : ts ≠ [] := by
  rintro rfl
  obtain ⟨_, st', h2⟩ := h 0
  have : (rs0 0).again = true := by
    have h3 : rs0 0 = _ := h2
    rw [h3]
  cases this
theorem rot_ok {e0 e1 e2 t u : Int} (mn : Bool) (r0 : -1000 ≤ e0 ∧ e0 ≤ 1000) (r1 : -1000 ≤ e1 ∧ e1 ≤ 1000) (r2 : -1000 ≤ e2 ∧ e2 ≤ 1000) : rotL e0 e1 e2 t mn u 4 ≠ [] ∧ (rotL e0 e1 e2 t mn u 4).length ≤ 4 :=
  ⟨inv_ne (rot_inv (t := t) (u := u) mn r0 r1 r2), rotL_len _ _ _ _ _ _ 4⟩
structure Fm (o : OpT) : Prop where
  ho : opE o.a o.b o.c o.d o.e o.f o.g o.h o.i o.x o.y o.z = 0
  h0 : 0 ≤ o.u0 ∧ o.u0 ≤ 255
  h1 : 0 ≤ o.u1 ∧ o.u1 ≤ 255
  h2 : 0 ≤ o.u2 ∧ o.u2 ≤ 255
theorem read_terms {o : OpT} (F : Fm o) : readF (accT o 2 4) = ⟨o.a, o.b, o.c, o.d, o.e, o.f, o.g, o.h, o.i, o.x, o.y, o.z, 0, 0⟩ := by
  obtain ⟨o1, o2, o3⟩ := opE_zero.1 F.ho
  obtain ⟨hx, hy, hz⟩ := tbad_false.1 o1
  obtain ⟨ha, hb, hc, hd, he, hf, hg, hh, hi⟩ := over9_false.1 o2
  have e : accT o 2 4 = flat 0 (words3 (rotL o.a o.b o.c o.x o.mn o.u0 4) (rotL o.d o.e o.f o.y o.mn o.u1 4) (rotL o.g o.h o.i o.z o.mn o.u2 4)) := by
    rw [flat0]
    unfold words3 accT txt
    simp only [List.flatten_append, List.flatten_cons, List.append_assoc]
  rw [e, read_rows4 (rot_inv o.mn ha hb hc) (rot_inv o.mn hd he hf) (rot_inv o.mn hg hh hi) (rot_ok o.mn ha hb hc) (rot_ok o.mn hd he hf) (rot_ok o.mn hg hh hi) (by omega)]
  unfold madeR
  rw [matE_of o2 o3, md24_eq, md24_eq, md24_eq, prt_mod hx.1 hx.2, prt_mod hy.1 hy.2, prt_mod hz.1 hz.2]
  simp only [mkO, if_true]
def rwO (o : OpT) : Nat → Int × Int × Int × Int × Int
  | 0 => (o.a, o.b, o.c, o.x, o.u0)
  | 1 => (o.d, o.e, o.f, o.y, o.u1)
  | _ => (o.g, o.h, o.i, o.z, o.u2)
theorem txt_app2 (a b : List Trm) : txt (a ++ b) = txt a ++ txt b := by unfold txt; rw [wordsL_app, List.flatten_append]
theorem rot_step (e0 e1 e2 t : Int) (mn : Bool) (u : Int) (k : Nat) : txt (rotL e0 e1 e2 t mn u (k + 1)) = txt (rotL e0 e1 e2 t mn u k) ++ txt (trmL e0 e1 e2 t mn ((k + u.toNat) % 4)) := by rw [rotL, txt_app2]
theorem acc_step (o : OpT) (n k : Nat) : accT o n (k + 1) = accT o n k ++ txt (trmL (rwO o n).1 (rwO o n).2.1 (rwO o n).2.2.1 (rwO o n).2.2.2.1 o.mn ((k + (rwO o n).2.2.2.2.toNat) % 4)) := by
  match n with
  | 0 => exact rot_step ..
  | 1 => exact (congrArg (_ ++ ·) (rot_step ..)).trans (List.append_assoc ..).symm
  | n + 2 => exact (congrArg (_ ++ ·) (rot_step ..)).trans (List.append_assoc ..).symm
def Jx (o : OpT) (n k : Nat) : Int := (IntKind.i64.wrap ((k : Int) + IntKind.i64.wrap (rwO o n).2.2.2.2)).tmod 4
theorem rw_u {o : OpT} (F : Fm o) (n : Nat) : 0 ≤ (rwO o n).2.2.2.2 ∧ (rwO o n).2.2.2.2 ≤ 255 := by
  match n with
  | 0 => exact F.h0
  | 1 => exact F.h1
  | n + 2 => exact F.h2
theorem Jx_eq {o : OpT} (F : Fm o) (n : Nat) {k : Nat} (hk : k ≤ 4) : Jx o n k = (((k + (rwO o n).2.2.2.2.toNat) % 4 : Nat) : Int) := by
  have h := rw_u F n
  unfold Jx
  generalize (rwO o n).2.2.2.2 = u at *
  rw [wr_id (n := u) (by omega) (by omega), wr_id (by omega) (by omega), Int.tmod_eq_emod_of_nonneg (by omega)]
  omega
theorem jx_bd {o : OpT} (F : Fm o) (n : Nat) {k : Nat} (hk : k ≤ 4) : 0 ≤ Jx o n k ∧ Jx o n k ≤ 3 := by rw [Jx_eq F n hk]; omega
theorem jx_3 {o : OpT} (F : Fm o) (n : Nat) {k : Nat} (hk : k ≤ 4) (h : decide (Jx o n k = 3) = false) : Jx o n k < 3 := by
  have := of_decide_eq_false h
  have := jx_bd F n hk
  omega
theorem kx {k : Nat} (h : decide ((k : Int) < 4) = true) : k ≤ 4 ∧ k + 1 ≤ 4 := by have := of_decide_eq_true h; omega
theorem txt1 (t : Trm) : txt [t] = t.w.flatten := by unfold txt wordsL wordsL; rw [List.append_nil]
theorem lfA {o : OpT} (F : Fm o) (n : Nat) {k : Nat} (hk : k ≤ 4) (hJ : decide (Jx o n k = 3) = true) (hm : o.mn = true) (hw : IntKind.i64.wrap (0 - (rwO o n).2.2.2.1) = -(rwO o n).2.2.2.1) : accT o n (k + 1) = accT o n k ++ ([45] ++ frT (mdR (IntKind.i64.wrap (0 - (rwO o n).2.2.2.1)))) := by
  have hJ := of_decide_eq_true hJ
  rw [Jx_eq F n hk] at hJ
  rw [acc_step, show (k + (rwO o n).2.2.2.2.toNat) % 4 = 3 by omega, hw]
  show _ ++ txt [if o.mn = true then _ else _] = _
  rw [if_pos hm, txt1, fr_txt]
  rfl
theorem lfB {o : OpT} (F : Fm o) (n : Nat) {k : Nat} (hk : k ≤ 4) (hJ : decide (Jx o n k = 3) = true) (hm : o.mn = false) (ht : 0 ≤ (rwO o n).2.2.2.1) : accT o n (k + 1) = accT o n k ++ termT 3 (rwO o n).2.2.2.1 := by
  have hJ := of_decide_eq_true hJ
  rw [Jx_eq F n hk] at hJ
  rw [acc_step, show (k + (rwO o n).2.2.2.2.toNat) % 4 = 3 by omega]
  show _ ++ txt [if o.mn = true then _ else _] = _
  rw [if_neg (by rw [hm]; decide), txt1, fr_txt, termT, if_neg (by omega), if_pos rfl]
  rfl
theorem let_txt {e : Int} (j : Nat) (he : e ≠ 0) (hj : j < 3) : txt (letL e (UInt8.ofNat (120 + j))) = termT (j : Int) e := by
  unfold letL termT
  rw [if_neg he]
  by_cases hn : e < 0
  · rw [if_pos hn, if_pos hn, if_neg (by omega), txt1]
    simp [Trm.w, Sg.w, numW]
  · rw [if_neg hn, if_neg hn, if_neg (by omega), txt1]
    simp [Trm.w, Sg.w, numW]
def enO (o : OpT) (n : Nat) : Nat → Int
  | 0 => (rwO o n).1
  | 1 => (rwO o n).2.1
  | _ => (rwO o n).2.2.1
theorem trm_at (o : OpT) (n j : Nat) (hj : j < 3) : trmL (rwO o n).1 (rwO o n).2.1 (rwO o n).2.2.1 (rwO o n).2.2.2.1 o.mn j = letL (enO o n j) (UInt8.ofNat (120 + j)) := by
  match j, hj with
  | 0, _ => rfl
  | 1, _ => rfl
  | 2, _ => rfl
theorem lfC {o : OpT} (F : Fm o) (n j : Nat) {k : Nat} (hk : k ≤ 4) (hj : j < 3) (hJ : Jx o n k = (j : Int)) (he : (!decide (enO o n j = 0)) = true) : accT o n (k + 1) = accT o n k ++ termT (Jx o n k) (enO o n j) := by
  have he : enO o n j ≠ 0 := by simpa using he
  have h2 := hJ
  rw [Jx_eq F n hk] at h2
  rw [acc_step, show (k + (rwO o n).2.2.2.2.toNat) % 4 = j by omega, trm_at o n j hj, let_txt j he hj, hJ]
theorem lfD {o : OpT} (F : Fm o) (n j : Nat) {k : Nat} (hk : k ≤ 4) (hj : j < 3) (hJ : Jx o n k = (j : Int)) (he : (!decide (enO o n j = 0)) = false) : accT o n (k + 1) = accT o n k := by
  have he : enO o n j = 0 := by simpa using he
  have h2 := hJ
  rw [Jx_eq F n hk] at h2
  rw [acc_step, show (k + (rwO o n).2.2.2.2.toNat) % 4 = j by omega, trm_at o n j hj, letL, if_pos he]
  exact List.append_nil _
theorem jne {J : Int} {p q : Nat} (h1 : J = (p : Int)) (h2 : J = (q : Int)) (h : p ≠ q) : False := by omega
theorem termL {n : Int} (l : Int) (r : -1000 ≤ n ∧ n ≤ 1000) : (termT l n).length ≤ 60 := by
  have h1 := frTL n
  have h2 := frTL (-n)
  have h3 := itoaL r
  have h4 := itoaL (v := -n) (by omega)
  unfold termT
  repeat' split
  all_goals
    simp only [List.length_cons, List.length_append, List.length_nil]
    omega
theorem trm_txL {o : OpT} (n j : Nat) (r : ∀ j, -1000 ≤ enO o n j ∧ enO o n j ≤ 1000) : (txt (trmL (rwO o n).1 (rwO o n).2.1 (rwO o n).2.2.1 (rwO o n).2.2.2.1 o.mn j)).length ≤ 60 := by
  by_cases hj : j < 3
  · rw [trm_at o n j hj]
    by_cases he : enO o n j = 0
    · rw [letL, if_pos he]; simp [txt, wordsL]
    · rw [let_txt j he hj]; exact termL _ (r j)
  · have : trmL (rwO o n).1 (rwO o n).2.1 (rwO o n).2.2.1 (rwO o n).2.2.2.1 o.mn j = [if o.mn = true then frTrm .minus (mdR (-(rwO o n).2.2.2.1)) else frTrm .plus (mdR (rwO o n).2.2.2.1)] := by
      match j, hj with
      | j + 3, _ => rfl
      | 0, h | 1, h | 2, h => exact absurd (by decide) h
    rw [this, txt1]
    have h1 := frTL (-(rwO o n).2.2.2.1)
    have h2 := frTL (rwO o n).2.2.2.1
    split <;> rw [fr_txt] <;> simp only [Sg.w, List.flatten_cons, List.flatten_nil, List.length_append, List.length_cons, List.length_nil] <;> omega
theorem en_r {o : OpT} (F : Fm o) (n j : Nat) : -1000 ≤ enO o n j ∧ enO o n j ≤ 1000 := by
  obtain ⟨ha, hb, hc, hd, he, hf, hg, hh, hi⟩ := over9_false.1 (opE_zero.1 F.ho).2.1
  match n, j with
  | 0, 0 => exact ha
  | 0, 1 => exact hb
  | 0, _ + 2 => exact hc
  | 1, 0 => exact hd
  | 1, 1 => exact he
  | 1, _ + 2 => exact hf
  | _ + 2, 0 => exact hg
  | _ + 2, 1 => exact hh
  | _ + 2, _ + 2 => exact hi
theorem tn_r {o : OpT} (F : Fm o) (n : Nat) : 0 ≤ (rwO o n).2.2.2.1 ∧ (rwO o n).2.2.2.1 < 24 := by
  obtain ⟨hx, hy, hz⟩ := tbad_false.1 (opE_zero.1 F.ho).1
  match n with
  | 0 => exact hx
  | 1 => exact hy
  | _ + 2 => exact hz
theorem tn_b {o : OpT} (F : Fm o) (n : Nat) : -1000 ≤ (rwO o n).2.2.2.1 ∧ (rwO o n).2.2.2.1 ≤ 1000 := by have := tn_r F n; omega
theorem accL0 {o : OpT} (F : Fm o) : ∀ k, k ≤ 4 → (accT o 0 k).length ≤ 60 * k
  | 0, _ => by simp [accT, rotL, txt, wordsL]
  | k + 1, h => by
    have h1 := accL0 F k (by omega)
    have h2 := trm_txL (o := o) 0 ((k + (rwO o 0).2.2.2.2.toNat) % 4) (en_r F 0)
    rw [acc_step, List.length_append]
    omega
theorem acc10 (o : OpT) : accT o 1 0 = accT o 0 4 ++ [44] := by
  show _ ++ _ ++ txt [] = _
  rw [show txt [] = [] from rfl, List.append_nil]
  rfl
theorem acc20 (o : OpT) : accT o 2 0 = accT o 1 4 ++ [44] := by
  show _ ++ txt [] = _
  rw [show txt [] = [] from rfl, List.append_nil]
  rfl
theorem accL1 {o : OpT} (F : Fm o) : ∀ k, k ≤ 4 → (accT o 1 k).length ≤ 241 + 60 * k
  | 0, _ => by
    have := accL0 F 4 (by omega)
    rw [acc10, List.length_append]
    simp only [List.length_cons, List.length_nil]
    omega
  | k + 1, h => by
    have h1 := accL1 F k (by omega)
    have h2 := trm_txL (o := o) 1 ((k + (rwO o 1).2.2.2.2.toNat) % 4) (en_r F 1)
    rw [acc_step, List.length_append]
    omega
theorem accL2 {o : OpT} (F : Fm o) : ∀ k, k ≤ 4 → (accT o 2 k).length ≤ 482 + 60 * k
  | 0, _ => by
    have := accL1 F 4 (by omega)
    rw [acc20, List.length_append]
    simp only [List.length_cons, List.length_nil]
    omega
  | k + 1, h => by
    have h1 := accL2 F k (by omega)
    have h2 := trm_txL (o := o) 2 ((k + (rwO o 2).2.2.2.2.toNat) % 4) (en_r F 2)
    rw [acc_step, List.length_append]
    omega
theorem accL {o : OpT} (F : Fm o) (n : Nat) {k : Nat} (hn : n < 3) (hk : k ≤ 4) : (accT o n k).length ≤ 1000 := by
  have : n = 0 ∨ n = 1 ∨ n = 2 := by omega
  rcases this with e | e | e <;> subst e
  · have := accL0 F k hk; omega
  · have := accL1 F k hk; omega
  · have := accL2 F k hk; omega
theorem mxT {o : OpT} (F : Fm o) (n : Nat) {k : Nat} {e : Int} (l : Int) (hn : n < 3) (hk : k ≤ 4) (r : -1000 ≤ e ∧ e ≤ 1000) : (((accT o n k).length + (termT l e).length : Nat) : Int) ≤ IntKind.i64.max := maxI (by
  have := accL F n hn hk
  have := termL l r
  omega)
theorem mxF {o : OpT} (F : Fm o) (n : Nat) {k : Nat} (t : Int) (hn : n < 3) (hk : k ≤ 4) : (((accT o n k).length + ([(45 : UInt8)] ++ frT (mdR t)).length : Nat) : Int) ≤ IntKind.i64.max := maxI (by
  have := accL F n hn hk
  have := frTL t
  rw [List.length_append, List.length_cons, List.length_nil]
  omega)
theorem mxf (t : Int) : (([(45 : UInt8)].length + (frT (mdR t)).length : Nat) : Int) ≤ IntKind.i64.max := maxI (by
  have := frTL t
  rw [List.length_cons, List.length_nil]
  omega)
theorem mxC {o : OpT} (F : Fm o) (n : Nat) {k : Nat} (hn : n < 3) (hk : k ≤ 4) : (((accT o n k).length + [(44 : UInt8)].length : Nat) : Int) ≤ IntKind.i64.max := maxI (by
  have := accL F n hn hk
  rw [List.length_cons, List.length_nil]
  omega)
theorem wk1 {k : Nat} (h : k ≤ 4) : ((k + 1 : Nat) : Int) = IntKind.i64.wrap ((k : Int) + 1) := by rw [wr_id (by omega) (by omega)]; omega
theorem mu4 {k : Nat} (h : k + 1 ≤ 4) : (4 - (k + 1)).succ.le (4 - k) := by show (4 - (k + 1)) + 1 ≤ 4 - k; omega
theorem k4 {k : Nat} (h : k ≤ 4) (hd : decide ((k : Int) < 4) = false) : k = 4 := by have := of_decide_eq_false hd; omega
end Go.AM
