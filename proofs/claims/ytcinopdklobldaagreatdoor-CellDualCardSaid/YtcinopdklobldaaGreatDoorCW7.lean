import Derived.Test.YtcinopdklobldaaGreatDoorCW5
import Derived.Test.YtcinopdklobldaaGreatDoorCWn1
import Derived.Test.YtcinopdklobldaaGreatDoorCWn2
import Derived.Test.YtcinopdklobldaaGreatDoorCWn3
open Go Go.AM Go.Proofs
namespace Go.AM
open Dist
set_option maxRecDepth 100000
set_option maxHeartbeats 8000000 in
theorem cmp_zz (j i : Nat) {V : Value} (ha : InR (0)) (hb : InR (Np j)) (hc : InR (0)) (hd : InR (Np i)) (hf1 : frm (0) (Np j) = true) (hf2 : frm (0) (Np i) = true) (C : Cmp V ((0) * Np i - (0) * Np j)) : call P (DR pruneOn) noAnn 3000 Tryz.f23 [Rt (0) (Np j), Rt (0) (Np i)] [] (fun v' h => v'.valOf = some V ∧ h = []) := by
  rw [nfczz, hf1, hf2]
  refine ⟨⟨ha, hb⟩, ⟨hc, hd⟩, ?_⟩
  have px : (0 : Int) * Np i = 0 := Int.zero_mul _
  have py : (0 : Int) * Np j = 0 := Int.zero_mul _
  rw [px, py] at C
  clear px py hf1 hf2
  have ua : ∀ {x : Int}, InR x → 0 ≤ x → (0 ≤ x ∧ x ≤ 18446744073709551615) := fun h h0 => ⟨h0, by unfold InR at h; omega⟩
  have z0 : (0 : Int) ≤ 0 ∧ ((0 : Int) = 0 ∨ (0 : Int) = 1) := by simp
  have ui := ua hd (bd_np hd).1
  have uj := ua hb (bd_np hb).1
  have hbr : -9223372036854775808 ≤ Int.ofNat (Nat.succ j) ∧ Int.ofNat (Nat.succ j) ≤ 9223372036854775807 := hb
  have hdr : -9223372036854775808 ≤ Int.ofNat (Nat.succ i) ∧ Int.ofNat (Nat.succ i) ≤ 9223372036854775807 := hd
  repeat' (first | with_reducible exact C.lo (by omega) | with_reducible exact C.hi (by omega) | with_reducible exact C.eq (by omega) | with_reducible exact hbr | with_reducible exact hdr | with_reducible exact ha | with_reducible exact hb | with_reducible exact hc | with_reducible exact hd | with_reducible exact ui | with_reducible exact uj | with_reducible exact z0 | exact trivial | with_reducible rfl | exact Or.inl trivial | apply onD_mk | apply And.intro | intro _ | omega)
set_option maxHeartbeats 8000000 in
theorem cmp_zp (l j i : Nat) {V : Value} (ha : InR (0)) (hb : InR (Np j)) (hc : InR (Np l)) (hd : InR (Np i)) (hf1 : frm (0) (Np j) = true) (hf2 : frm (Np l) (Np i) = true) (C : Cmp V ((0) * Np i - (Np l) * Np j)) : call P (DR pruneOn) noAnn 3000 Tryz.f23 [Rt (0) (Np j), Rt (Np l) (Np i)] [] (fun v' h => v'.valOf = some V ∧ h = []) := by
  rw [nfczp, hf1, hf2]
  refine ⟨⟨ha, hb⟩, ⟨hc, hd⟩, ?_⟩
  have px : (0 : Int) * Np i = 0 := Int.zero_mul _
  have bY := mul_bd64 (a := Int.ofNat (Nat.succ l)) (b := Int.ofNat (Nat.succ j)) (bd_np hc) (bd_np hb)
  have py : (Np l) * Np j = (Int.ofNat (Nat.succ l) * Int.ofNat (Nat.succ j)) := by rfl
  have qy : 0 < Int.ofNat (Nat.succ l) * Int.ofNat (Nat.succ j) := Int.mul_pos (Int.natCast_pos.2 (Nat.succ_pos l)) (Int.natCast_pos.2 (Nat.succ_pos j))
  rw [px, py] at C
  clear px py hf1 hf2
  have ua : ∀ {x : Int}, InR x → 0 ≤ x → (0 ≤ x ∧ x ≤ 18446744073709551615) := fun h h0 => ⟨h0, by unfold InR at h; omega⟩
  have z0 : (0 : Int) ≤ 0 ∧ ((0 : Int) = 0 ∨ (0 : Int) = 1) := by simp
  have ul : 0 ≤ Int.ofNat (Nat.succ l) ∧ Int.ofNat (Nat.succ l) ≤ 18446744073709551615 := ⟨(bd_np hc).1, Int.le_trans (bd_np hc).2 (by omega)⟩
  generalize Int.ofNat (Nat.succ l) * Int.ofNat (Nat.succ j) = Y at *
  have ui := ua hd (bd_np hd).1
  have uj := ua hb (bd_np hb).1
  simp only [hi_eq bY.1 bY.2, lo_eq]
  have hbr : -9223372036854775808 ≤ Int.ofNat (Nat.succ j) ∧ Int.ofNat (Nat.succ j) ≤ 9223372036854775807 := hb
  have hcr : -9223372036854775808 ≤ Int.ofNat (Nat.succ l) ∧ Int.ofNat (Nat.succ l) ≤ 9223372036854775807 := hc
  have hdr : -9223372036854775808 ≤ Int.ofNat (Nat.succ i) ∧ Int.ofNat (Nat.succ i) ≤ 9223372036854775807 := hd
  repeat' (first | with_reducible exact C.lo (by omega) | with_reducible exact C.hi (by omega) | with_reducible exact C.eq (by omega) | with_reducible exact hbr | with_reducible exact hdr | with_reducible exact hcr | with_reducible exact ha | with_reducible exact hb | with_reducible exact hc | with_reducible exact hd | with_reducible exact ui | with_reducible exact uj | with_reducible exact z0 | with_reducible exact ul | exact trivial | with_reducible rfl | exact Or.inl trivial | apply onD_mk | apply And.intro | intro _ | omega)
set_option maxHeartbeats 8000000 in
theorem cmp_zn (l j i : Nat) {V : Value} (ha : InR (0)) (hb : InR (Np j)) (hc : InR (Nn l)) (hd : InR (Np i)) (hf1 : frm (0) (Np j) = true) (hf2 : frm (Nn l) (Np i) = true) (C : Cmp V ((0) * Np i - (Nn l) * Np j)) : call P (DR pruneOn) noAnn 3000 Tryz.f23 [Rt (0) (Np j), Rt (Nn l) (Np i)] [] (fun v' h => v'.valOf = some V ∧ h = []) := by
  rw [nfczn, hf1, hf2]
  refine ⟨⟨ha, hb⟩, ⟨hc, hd⟩, ?_⟩
  have px : (0 : Int) * Np i = 0 := Int.zero_mul _
  have bY := mul_bd64 (a := Int.ofNat (Nat.succ l)) (b := Int.ofNat (Nat.succ j)) (bd_nn hc) (bd_np hb)
  have py : (Nn l) * Np j = -(Int.ofNat (Nat.succ l) * Int.ofNat (Nat.succ j)) := by rw [show Nn l = -Int.ofNat (Nat.succ l) from rfl, Int.neg_mul]
  have qy : 0 < Int.ofNat (Nat.succ l) * Int.ofNat (Nat.succ j) := Int.mul_pos (Int.natCast_pos.2 (Nat.succ_pos l)) (Int.natCast_pos.2 (Nat.succ_pos j))
  rw [px, py] at C
  clear px py hf1 hf2
  have ua : ∀ {x : Int}, InR x → 0 ≤ x → (0 ≤ x ∧ x ≤ 18446744073709551615) := fun h h0 => ⟨h0, by unfold InR at h; omega⟩
  have z0 : (0 : Int) ≤ 0 ∧ ((0 : Int) = 0 ∨ (0 : Int) = 1) := by simp
  have ul : 0 ≤ Int.ofNat (Nat.succ l) ∧ Int.ofNat (Nat.succ l) ≤ 18446744073709551615 := ⟨(bd_nn hc).1, Int.le_trans (bd_nn hc).2 (by omega)⟩
  generalize Int.ofNat (Nat.succ l) * Int.ofNat (Nat.succ j) = Y at *
  have ui := ua hd (bd_np hd).1
  have uj := ua hb (bd_np hb).1
  simp only [hi_eq bY.1 bY.2, lo_eq]
  have hbr : -9223372036854775808 ≤ Int.ofNat (Nat.succ j) ∧ Int.ofNat (Nat.succ j) ≤ 9223372036854775807 := hb
  have hcr : -9223372036854775808 ≤ Int.negSucc l ∧ Int.negSucc l ≤ 9223372036854775807 := hc
  have hdr : -9223372036854775808 ≤ Int.ofNat (Nat.succ i) ∧ Int.ofNat (Nat.succ i) ≤ 9223372036854775807 := hd
  repeat' (first | with_reducible exact C.lo (by omega) | with_reducible exact C.hi (by omega) | with_reducible exact C.eq (by omega) | with_reducible exact hbr | with_reducible exact hdr | with_reducible exact hcr | with_reducible exact ha | with_reducible exact hb | with_reducible exact hc | with_reducible exact hd | with_reducible exact ui | with_reducible exact uj | with_reducible exact z0 | with_reducible exact ul | exact trivial | with_reducible rfl | exact Or.inl trivial | apply onD_mk | apply And.intro | intro _ | omega)
set_option maxHeartbeats 8000000 in
theorem cmp_pz (k j i : Nat) {V : Value} (ha : InR (Np k)) (hb : InR (Np j)) (hc : InR (0)) (hd : InR (Np i)) (hf1 : frm (Np k) (Np j) = true) (hf2 : frm (0) (Np i) = true) (C : Cmp V ((Np k) * Np i - (0) * Np j)) : call P (DR pruneOn) noAnn 3000 Tryz.f23 [Rt (Np k) (Np j), Rt (0) (Np i)] [] (fun v' h => v'.valOf = some V ∧ h = []) := by
  rw [nfcpz, hf1, hf2]
  refine ⟨⟨ha, hb⟩, ⟨hc, hd⟩, ?_⟩
  have bx := mul_bd64 (a := Int.ofNat (Nat.succ k)) (b := Int.ofNat (Nat.succ i)) (bd_np ha) (bd_np hd)
  have px : (Np k) * Np i = (Int.ofNat (Nat.succ k) * Int.ofNat (Nat.succ i)) := by rfl
  have qx : 0 < Int.ofNat (Nat.succ k) * Int.ofNat (Nat.succ i) := Int.mul_pos (Int.natCast_pos.2 (Nat.succ_pos k)) (Int.natCast_pos.2 (Nat.succ_pos i))
  have py : (0 : Int) * Np j = 0 := Int.zero_mul _
  rw [px, py] at C
  clear px py hf1 hf2
  have ua : ∀ {x : Int}, InR x → 0 ≤ x → (0 ≤ x ∧ x ≤ 18446744073709551615) := fun h h0 => ⟨h0, by unfold InR at h; omega⟩
  have z0 : (0 : Int) ≤ 0 ∧ ((0 : Int) = 0 ∨ (0 : Int) = 1) := by simp
  have uk : 0 ≤ Int.ofNat (Nat.succ k) ∧ Int.ofNat (Nat.succ k) ≤ 18446744073709551615 := ⟨(bd_np ha).1, Int.le_trans (bd_np ha).2 (by omega)⟩
  generalize Int.ofNat (Nat.succ k) * Int.ofNat (Nat.succ i) = X at *
  have ui := ua hd (bd_np hd).1
  have uj := ua hb (bd_np hb).1
  simp only [hi_eq bx.1 bx.2, lo_eq]
  have har : -9223372036854775808 ≤ Int.ofNat (Nat.succ k) ∧ Int.ofNat (Nat.succ k) ≤ 9223372036854775807 := ha
  have hbr : -9223372036854775808 ≤ Int.ofNat (Nat.succ j) ∧ Int.ofNat (Nat.succ j) ≤ 9223372036854775807 := hb
  have hdr : -9223372036854775808 ≤ Int.ofNat (Nat.succ i) ∧ Int.ofNat (Nat.succ i) ≤ 9223372036854775807 := hd
  repeat' (first | with_reducible exact C.lo (by omega) | with_reducible exact C.hi (by omega) | with_reducible exact C.eq (by omega) | with_reducible exact hbr | with_reducible exact hdr | with_reducible exact har | with_reducible exact ha | with_reducible exact hb | with_reducible exact hc | with_reducible exact hd | with_reducible exact ui | with_reducible exact uj | with_reducible exact z0 | with_reducible exact uk | exact trivial | with_reducible rfl | exact Or.inl trivial | apply onD_mk | apply And.intro | intro _ | omega)
set_option maxHeartbeats 8000000 in
theorem cmp_pp (k l j i : Nat) {V : Value} (ha : InR (Np k)) (hb : InR (Np j)) (hc : InR (Np l)) (hd : InR (Np i)) (hf1 : frm (Np k) (Np j) = true) (hf2 : frm (Np l) (Np i) = true) (C : Cmp V ((Np k) * Np i - (Np l) * Np j)) : call P (DR pruneOn) noAnn 3000 Tryz.f23 [Rt (Np k) (Np j), Rt (Np l) (Np i)] [] (fun v' h => v'.valOf = some V ∧ h = []) := by
  rw [nfcpp, hf1, hf2]
  refine ⟨⟨ha, hb⟩, ⟨hc, hd⟩, ?_⟩
  have bx := mul_bd64 (a := Int.ofNat (Nat.succ k)) (b := Int.ofNat (Nat.succ i)) (bd_np ha) (bd_np hd)
  have px : (Np k) * Np i = (Int.ofNat (Nat.succ k) * Int.ofNat (Nat.succ i)) := by rfl
  have qx : 0 < Int.ofNat (Nat.succ k) * Int.ofNat (Nat.succ i) := Int.mul_pos (Int.natCast_pos.2 (Nat.succ_pos k)) (Int.natCast_pos.2 (Nat.succ_pos i))
  have bY := mul_bd64 (a := Int.ofNat (Nat.succ l)) (b := Int.ofNat (Nat.succ j)) (bd_np hc) (bd_np hb)
  have py : (Np l) * Np j = (Int.ofNat (Nat.succ l) * Int.ofNat (Nat.succ j)) := by rfl
  have qy : 0 < Int.ofNat (Nat.succ l) * Int.ofNat (Nat.succ j) := Int.mul_pos (Int.natCast_pos.2 (Nat.succ_pos l)) (Int.natCast_pos.2 (Nat.succ_pos j))
  rw [px, py] at C
  clear px py hf1 hf2
  have ua : ∀ {x : Int}, InR x → 0 ≤ x → (0 ≤ x ∧ x ≤ 18446744073709551615) := fun h h0 => ⟨h0, by unfold InR at h; omega⟩
  have z0 : (0 : Int) ≤ 0 ∧ ((0 : Int) = 0 ∨ (0 : Int) = 1) := by simp
  have uk : 0 ≤ Int.ofNat (Nat.succ k) ∧ Int.ofNat (Nat.succ k) ≤ 18446744073709551615 := ⟨(bd_np ha).1, Int.le_trans (bd_np ha).2 (by omega)⟩
  generalize Int.ofNat (Nat.succ k) * Int.ofNat (Nat.succ i) = X at *
  have ul : 0 ≤ Int.ofNat (Nat.succ l) ∧ Int.ofNat (Nat.succ l) ≤ 18446744073709551615 := ⟨(bd_np hc).1, Int.le_trans (bd_np hc).2 (by omega)⟩
  generalize Int.ofNat (Nat.succ l) * Int.ofNat (Nat.succ j) = Y at *
  have ui := ua hd (bd_np hd).1
  have uj := ua hb (bd_np hb).1
  simp only [hi_eq bx.1 bx.2, hi_eq bY.1 bY.2, lo_eq]
  have har : -9223372036854775808 ≤ Int.ofNat (Nat.succ k) ∧ Int.ofNat (Nat.succ k) ≤ 9223372036854775807 := ha
  have hbr : -9223372036854775808 ≤ Int.ofNat (Nat.succ j) ∧ Int.ofNat (Nat.succ j) ≤ 9223372036854775807 := hb
  have hcr : -9223372036854775808 ≤ Int.ofNat (Nat.succ l) ∧ Int.ofNat (Nat.succ l) ≤ 9223372036854775807 := hc
  have hdr : -9223372036854775808 ≤ Int.ofNat (Nat.succ i) ∧ Int.ofNat (Nat.succ i) ≤ 9223372036854775807 := hd
  repeat' (first | with_reducible exact C.lo (by omega) | with_reducible exact C.hi (by omega) | with_reducible exact C.eq (by omega) | with_reducible exact hbr | with_reducible exact hdr | with_reducible exact har | with_reducible exact hcr | with_reducible exact ha | with_reducible exact hb | with_reducible exact hc | with_reducible exact hd | with_reducible exact ui | with_reducible exact uj | with_reducible exact z0 | with_reducible exact uk | with_reducible exact ul | exact trivial | with_reducible rfl | exact Or.inl trivial | apply onD_mk | apply And.intro | intro _ | omega)
set_option maxHeartbeats 8000000 in
theorem cmp_pn (k l j i : Nat) {V : Value} (ha : InR (Np k)) (hb : InR (Np j)) (hc : InR (Nn l)) (hd : InR (Np i)) (hf1 : frm (Np k) (Np j) = true) (hf2 : frm (Nn l) (Np i) = true) (C : Cmp V ((Np k) * Np i - (Nn l) * Np j)) : call P (DR pruneOn) noAnn 3000 Tryz.f23 [Rt (Np k) (Np j), Rt (Nn l) (Np i)] [] (fun v' h => v'.valOf = some V ∧ h = []) := by
  rw [nfcpn, hf1, hf2]
  refine ⟨⟨ha, hb⟩, ⟨hc, hd⟩, ?_⟩
  have bx := mul_bd64 (a := Int.ofNat (Nat.succ k)) (b := Int.ofNat (Nat.succ i)) (bd_np ha) (bd_np hd)
  have px : (Np k) * Np i = (Int.ofNat (Nat.succ k) * Int.ofNat (Nat.succ i)) := by rfl
  have qx : 0 < Int.ofNat (Nat.succ k) * Int.ofNat (Nat.succ i) := Int.mul_pos (Int.natCast_pos.2 (Nat.succ_pos k)) (Int.natCast_pos.2 (Nat.succ_pos i))
  have bY := mul_bd64 (a := Int.ofNat (Nat.succ l)) (b := Int.ofNat (Nat.succ j)) (bd_nn hc) (bd_np hb)
  have py : (Nn l) * Np j = -(Int.ofNat (Nat.succ l) * Int.ofNat (Nat.succ j)) := by rw [show Nn l = -Int.ofNat (Nat.succ l) from rfl, Int.neg_mul]
  have qy : 0 < Int.ofNat (Nat.succ l) * Int.ofNat (Nat.succ j) := Int.mul_pos (Int.natCast_pos.2 (Nat.succ_pos l)) (Int.natCast_pos.2 (Nat.succ_pos j))
  rw [px, py] at C
  clear px py hf1 hf2
  have ua : ∀ {x : Int}, InR x → 0 ≤ x → (0 ≤ x ∧ x ≤ 18446744073709551615) := fun h h0 => ⟨h0, by unfold InR at h; omega⟩
  have z0 : (0 : Int) ≤ 0 ∧ ((0 : Int) = 0 ∨ (0 : Int) = 1) := by simp
  have uk : 0 ≤ Int.ofNat (Nat.succ k) ∧ Int.ofNat (Nat.succ k) ≤ 18446744073709551615 := ⟨(bd_np ha).1, Int.le_trans (bd_np ha).2 (by omega)⟩
  generalize Int.ofNat (Nat.succ k) * Int.ofNat (Nat.succ i) = X at *
  have ul : 0 ≤ Int.ofNat (Nat.succ l) ∧ Int.ofNat (Nat.succ l) ≤ 18446744073709551615 := ⟨(bd_nn hc).1, Int.le_trans (bd_nn hc).2 (by omega)⟩
  generalize Int.ofNat (Nat.succ l) * Int.ofNat (Nat.succ j) = Y at *
  have ui := ua hd (bd_np hd).1
  have uj := ua hb (bd_np hb).1
  simp only [hi_eq bx.1 bx.2, hi_eq bY.1 bY.2, lo_eq]
  have har : -9223372036854775808 ≤ Int.ofNat (Nat.succ k) ∧ Int.ofNat (Nat.succ k) ≤ 9223372036854775807 := ha
  have hbr : -9223372036854775808 ≤ Int.ofNat (Nat.succ j) ∧ Int.ofNat (Nat.succ j) ≤ 9223372036854775807 := hb
  have hcr : -9223372036854775808 ≤ Int.negSucc l ∧ Int.negSucc l ≤ 9223372036854775807 := hc
  have hdr : -9223372036854775808 ≤ Int.ofNat (Nat.succ i) ∧ Int.ofNat (Nat.succ i) ≤ 9223372036854775807 := hd
  repeat' (first | with_reducible exact C.lo (by omega) | with_reducible exact C.hi (by omega) | with_reducible exact C.eq (by omega) | with_reducible exact hbr | with_reducible exact hdr | with_reducible exact har | with_reducible exact hcr | with_reducible exact ha | with_reducible exact hb | with_reducible exact hc | with_reducible exact hd | with_reducible exact ui | with_reducible exact uj | with_reducible exact z0 | with_reducible exact uk | with_reducible exact ul | exact trivial | with_reducible rfl | exact Or.inl trivial | apply onD_mk | apply And.intro | intro _ | omega)
set_option maxHeartbeats 8000000 in
theorem cmp_nz (k j i : Nat) {V : Value} (ha : InR (Nn k)) (hb : InR (Np j)) (hc : InR (0)) (hd : InR (Np i)) (hf1 : frm (Nn k) (Np j) = true) (hf2 : frm (0) (Np i) = true) (C : Cmp V ((Nn k) * Np i - (0) * Np j)) : call P (DR pruneOn) noAnn 3000 Tryz.f23 [Rt (Nn k) (Np j), Rt (0) (Np i)] [] (fun v' h => v'.valOf = some V ∧ h = []) := by
  rw [nfcnz, hf1, hf2]
  refine ⟨⟨ha, hb⟩, ⟨hc, hd⟩, ?_⟩
  have bx := mul_bd64 (a := Int.ofNat (Nat.succ k)) (b := Int.ofNat (Nat.succ i)) (bd_nn ha) (bd_np hd)
  have px : (Nn k) * Np i = -(Int.ofNat (Nat.succ k) * Int.ofNat (Nat.succ i)) := by rw [show Nn k = -Int.ofNat (Nat.succ k) from rfl, Int.neg_mul]
  have qx : 0 < Int.ofNat (Nat.succ k) * Int.ofNat (Nat.succ i) := Int.mul_pos (Int.natCast_pos.2 (Nat.succ_pos k)) (Int.natCast_pos.2 (Nat.succ_pos i))
  have py : (0 : Int) * Np j = 0 := Int.zero_mul _
  rw [px, py] at C
  clear px py hf1 hf2
  have ua : ∀ {x : Int}, InR x → 0 ≤ x → (0 ≤ x ∧ x ≤ 18446744073709551615) := fun h h0 => ⟨h0, by unfold InR at h; omega⟩
  have z0 : (0 : Int) ≤ 0 ∧ ((0 : Int) = 0 ∨ (0 : Int) = 1) := by simp
  have uk : 0 ≤ Int.ofNat (Nat.succ k) ∧ Int.ofNat (Nat.succ k) ≤ 18446744073709551615 := ⟨(bd_nn ha).1, Int.le_trans (bd_nn ha).2 (by omega)⟩
  generalize Int.ofNat (Nat.succ k) * Int.ofNat (Nat.succ i) = X at *
  have ui := ua hd (bd_np hd).1
  have uj := ua hb (bd_np hb).1
  simp only [hi_eq bx.1 bx.2, lo_eq]
  have har : -9223372036854775808 ≤ Int.negSucc k ∧ Int.negSucc k ≤ 9223372036854775807 := ha
  have hbr : -9223372036854775808 ≤ Int.ofNat (Nat.succ j) ∧ Int.ofNat (Nat.succ j) ≤ 9223372036854775807 := hb
  have hdr : -9223372036854775808 ≤ Int.ofNat (Nat.succ i) ∧ Int.ofNat (Nat.succ i) ≤ 9223372036854775807 := hd
  repeat' (first | with_reducible exact C.lo (by omega) | with_reducible exact C.hi (by omega) | with_reducible exact C.eq (by omega) | with_reducible exact hbr | with_reducible exact hdr | with_reducible exact har | with_reducible exact ha | with_reducible exact hb | with_reducible exact hc | with_reducible exact hd | with_reducible exact ui | with_reducible exact uj | with_reducible exact z0 | with_reducible exact uk | exact trivial | with_reducible rfl | exact Or.inl trivial | apply onD_mk | apply And.intro | intro _ | omega)
set_option maxHeartbeats 8000000 in
theorem cmp_np (k l j i : Nat) {V : Value} (ha : InR (Nn k)) (hb : InR (Np j)) (hc : InR (Np l)) (hd : InR (Np i)) (hf1 : frm (Nn k) (Np j) = true) (hf2 : frm (Np l) (Np i) = true) (C : Cmp V ((Nn k) * Np i - (Np l) * Np j)) : call P (DR pruneOn) noAnn 3000 Tryz.f23 [Rt (Nn k) (Np j), Rt (Np l) (Np i)] [] (fun v' h => v'.valOf = some V ∧ h = []) := by
  rw [nfcnp, hf1, hf2]
  refine ⟨⟨ha, hb⟩, ⟨hc, hd⟩, ?_⟩
  have bx := mul_bd64 (a := Int.ofNat (Nat.succ k)) (b := Int.ofNat (Nat.succ i)) (bd_nn ha) (bd_np hd)
  have px : (Nn k) * Np i = -(Int.ofNat (Nat.succ k) * Int.ofNat (Nat.succ i)) := by rw [show Nn k = -Int.ofNat (Nat.succ k) from rfl, Int.neg_mul]
  have qx : 0 < Int.ofNat (Nat.succ k) * Int.ofNat (Nat.succ i) := Int.mul_pos (Int.natCast_pos.2 (Nat.succ_pos k)) (Int.natCast_pos.2 (Nat.succ_pos i))
  have bY := mul_bd64 (a := Int.ofNat (Nat.succ l)) (b := Int.ofNat (Nat.succ j)) (bd_np hc) (bd_np hb)
  have py : (Np l) * Np j = (Int.ofNat (Nat.succ l) * Int.ofNat (Nat.succ j)) := by rfl
  have qy : 0 < Int.ofNat (Nat.succ l) * Int.ofNat (Nat.succ j) := Int.mul_pos (Int.natCast_pos.2 (Nat.succ_pos l)) (Int.natCast_pos.2 (Nat.succ_pos j))
  rw [px, py] at C
  clear px py hf1 hf2
  have ua : ∀ {x : Int}, InR x → 0 ≤ x → (0 ≤ x ∧ x ≤ 18446744073709551615) := fun h h0 => ⟨h0, by unfold InR at h; omega⟩
  have z0 : (0 : Int) ≤ 0 ∧ ((0 : Int) = 0 ∨ (0 : Int) = 1) := by simp
  have uk : 0 ≤ Int.ofNat (Nat.succ k) ∧ Int.ofNat (Nat.succ k) ≤ 18446744073709551615 := ⟨(bd_nn ha).1, Int.le_trans (bd_nn ha).2 (by omega)⟩
  generalize Int.ofNat (Nat.succ k) * Int.ofNat (Nat.succ i) = X at *
  have ul : 0 ≤ Int.ofNat (Nat.succ l) ∧ Int.ofNat (Nat.succ l) ≤ 18446744073709551615 := ⟨(bd_np hc).1, Int.le_trans (bd_np hc).2 (by omega)⟩
  generalize Int.ofNat (Nat.succ l) * Int.ofNat (Nat.succ j) = Y at *
  have ui := ua hd (bd_np hd).1
  have uj := ua hb (bd_np hb).1
  simp only [hi_eq bx.1 bx.2, hi_eq bY.1 bY.2, lo_eq]
  have har : -9223372036854775808 ≤ Int.negSucc k ∧ Int.negSucc k ≤ 9223372036854775807 := ha
  have hbr : -9223372036854775808 ≤ Int.ofNat (Nat.succ j) ∧ Int.ofNat (Nat.succ j) ≤ 9223372036854775807 := hb
  have hcr : -9223372036854775808 ≤ Int.ofNat (Nat.succ l) ∧ Int.ofNat (Nat.succ l) ≤ 9223372036854775807 := hc
  have hdr : -9223372036854775808 ≤ Int.ofNat (Nat.succ i) ∧ Int.ofNat (Nat.succ i) ≤ 9223372036854775807 := hd
  repeat' (first | with_reducible exact C.lo (by omega) | with_reducible exact C.hi (by omega) | with_reducible exact C.eq (by omega) | with_reducible exact hbr | with_reducible exact hdr | with_reducible exact har | with_reducible exact hcr | with_reducible exact ha | with_reducible exact hb | with_reducible exact hc | with_reducible exact hd | with_reducible exact ui | with_reducible exact uj | with_reducible exact z0 | with_reducible exact uk | with_reducible exact ul | exact trivial | with_reducible rfl | exact Or.inl trivial | apply onD_mk | apply And.intro | intro _ | omega)
set_option maxHeartbeats 8000000 in
theorem cmp_nn (k l j i : Nat) {V : Value} (ha : InR (Nn k)) (hb : InR (Np j)) (hc : InR (Nn l)) (hd : InR (Np i)) (hf1 : frm (Nn k) (Np j) = true) (hf2 : frm (Nn l) (Np i) = true) (C : Cmp V ((Nn k) * Np i - (Nn l) * Np j)) : call P (DR pruneOn) noAnn 3000 Tryz.f23 [Rt (Nn k) (Np j), Rt (Nn l) (Np i)] [] (fun v' h => v'.valOf = some V ∧ h = []) := by
  rw [nfcnn, hf1, hf2]
  refine ⟨⟨ha, hb⟩, ⟨hc, hd⟩, ?_⟩
  have bx := mul_bd64 (a := Int.ofNat (Nat.succ k)) (b := Int.ofNat (Nat.succ i)) (bd_nn ha) (bd_np hd)
  have px : (Nn k) * Np i = -(Int.ofNat (Nat.succ k) * Int.ofNat (Nat.succ i)) := by rw [show Nn k = -Int.ofNat (Nat.succ k) from rfl, Int.neg_mul]
  have qx : 0 < Int.ofNat (Nat.succ k) * Int.ofNat (Nat.succ i) := Int.mul_pos (Int.natCast_pos.2 (Nat.succ_pos k)) (Int.natCast_pos.2 (Nat.succ_pos i))
  have bY := mul_bd64 (a := Int.ofNat (Nat.succ l)) (b := Int.ofNat (Nat.succ j)) (bd_nn hc) (bd_np hb)
  have py : (Nn l) * Np j = -(Int.ofNat (Nat.succ l) * Int.ofNat (Nat.succ j)) := by rw [show Nn l = -Int.ofNat (Nat.succ l) from rfl, Int.neg_mul]
  have qy : 0 < Int.ofNat (Nat.succ l) * Int.ofNat (Nat.succ j) := Int.mul_pos (Int.natCast_pos.2 (Nat.succ_pos l)) (Int.natCast_pos.2 (Nat.succ_pos j))
  rw [px, py] at C
  clear px py hf1 hf2
  have ua : ∀ {x : Int}, InR x → 0 ≤ x → (0 ≤ x ∧ x ≤ 18446744073709551615) := fun h h0 => ⟨h0, by unfold InR at h; omega⟩
  have z0 : (0 : Int) ≤ 0 ∧ ((0 : Int) = 0 ∨ (0 : Int) = 1) := by simp
  have uk : 0 ≤ Int.ofNat (Nat.succ k) ∧ Int.ofNat (Nat.succ k) ≤ 18446744073709551615 := ⟨(bd_nn ha).1, Int.le_trans (bd_nn ha).2 (by omega)⟩
  generalize Int.ofNat (Nat.succ k) * Int.ofNat (Nat.succ i) = X at *
  have ul : 0 ≤ Int.ofNat (Nat.succ l) ∧ Int.ofNat (Nat.succ l) ≤ 18446744073709551615 := ⟨(bd_nn hc).1, Int.le_trans (bd_nn hc).2 (by omega)⟩
  generalize Int.ofNat (Nat.succ l) * Int.ofNat (Nat.succ j) = Y at *
  have ui := ua hd (bd_np hd).1
  have uj := ua hb (bd_np hb).1
  simp only [hi_eq bx.1 bx.2, hi_eq bY.1 bY.2, lo_eq, wm1, wm2, wm3]
  have har : -9223372036854775808 ≤ Int.negSucc k ∧ Int.negSucc k ≤ 9223372036854775807 := ha
  have hbr : -9223372036854775808 ≤ Int.ofNat (Nat.succ j) ∧ Int.ofNat (Nat.succ j) ≤ 9223372036854775807 := hb
  have hcr : -9223372036854775808 ≤ Int.negSucc l ∧ Int.negSucc l ≤ 9223372036854775807 := hc
  have hdr : -9223372036854775808 ≤ Int.ofNat (Nat.succ i) ∧ Int.ofNat (Nat.succ i) ≤ 9223372036854775807 := hd
  repeat' (first | with_reducible exact C.lo (by omega) | with_reducible exact C.hi (by omega) | with_reducible exact C.eq (by omega) | with_reducible exact hbr | with_reducible exact hdr | with_reducible exact har | with_reducible exact hcr | with_reducible exact ha | with_reducible exact hb | with_reducible exact hc | with_reducible exact hd | with_reducible exact ui | with_reducible exact uj | with_reducible exact z0 | with_reducible exact uk | with_reducible exact ul | exact trivial | with_reducible rfl | exact Or.inl trivial | apply onD_mk | apply And.intro | intro _ | omega)
end Go.AM
