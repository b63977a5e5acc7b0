set_option linter.unusedVariables false
set_option linter.unusedSimpArgs false
set_option maxHeartbeats 4000000
namespace Go.AM
set_option maxRecDepth 100000
structure M9 where
  a : Int
  b : Int
  c : Int
  d : Int
  e : Int
  f : Int
  g : Int
  h : Int
  i : Int
def m1 : M9 := ⟨1, 0, 0, 0, 1, 0, 0, 0, 1⟩
def mZ (m n : M9) : M9 := ⟨m.a * n.a + m.b * n.d + m.c * n.g, m.a * n.b + m.b * n.e + m.c * n.h, m.a * n.c + m.b * n.f + m.c * n.i, m.d * n.a + m.e * n.d + m.f * n.g, m.d * n.b + m.e * n.e + m.f * n.h, m.d * n.c + m.e * n.f + m.f * n.i, m.g * n.a + m.h * n.d + m.i * n.g, m.g * n.b + m.h * n.e + m.i * n.h, m.g * n.c + m.h * n.f + m.i * n.i⟩
def eqM (m n : M9) : Bool := decide (m.a = n.a) && (decide (m.b = n.b) && (decide (m.c = n.c) && (decide (m.d = n.d) && (decide (m.e = n.e) && (decide (m.f = n.f) && (decide (m.g = n.g) && (decide (m.h = n.h) && decide (m.i = n.i))))))))
theorem eqM_iff {m n : M9} : eqM m n = true ↔ m = n := by
  unfold eqM
  simp only [Bool.and_eq_true, decide_eq_true_eq]
  constructor
  · rintro ⟨h1, h2, h3, h4, h5, h6', h7, h8, h9⟩
    cases m; cases n
    simp only at h1 h2 h3 h4 h5 h6' h7 h8 h9
    subst h1 h2 h3 h4 h5 h6' h7 h8 h9
    rfl
  · rintro rfl
    exact ⟨rfl, rfl, rfl, rfl, rfl, rfl, rfl, rfl, rfl⟩
def memM (l : List M9) (m : M9) : Bool := l.any (eqM m)
theorem memM_iff {l : List M9} {m : M9} : memM l m = true ↔ m ∈ l := by
  unfold memM
  rw [List.any_eq_true]
  constructor
  · rintro ⟨x, hx, he⟩
    rw [eqM_iff.1 he]
    exact hx
  · exact fun h => ⟨m, h, eqM_iff.2 rfl⟩
def G48 : List M9 := [
  ⟨1, 0, 0, 0, 1, 0, 0, 0, 1⟩,
  ⟨-1, 0, 0, 0, 1, 0, 0, 0, 1⟩,
  ⟨1, 0, 0, 0, -1, 0, 0, 0, 1⟩,
  ⟨-1, 0, 0, 0, -1, 0, 0, 0, 1⟩,
  ⟨1, 0, 0, 0, 1, 0, 0, 0, -1⟩,
  ⟨-1, 0, 0, 0, 1, 0, 0, 0, -1⟩,
  ⟨1, 0, 0, 0, -1, 0, 0, 0, -1⟩,
  ⟨-1, 0, 0, 0, -1, 0, 0, 0, -1⟩,
  ⟨1, 0, 0, 0, 0, 1, 0, 1, 0⟩,
  ⟨-1, 0, 0, 0, 0, 1, 0, 1, 0⟩,
  ⟨1, 0, 0, 0, 0, -1, 0, 1, 0⟩,
  ⟨-1, 0, 0, 0, 0, -1, 0, 1, 0⟩,
  ⟨1, 0, 0, 0, 0, 1, 0, -1, 0⟩,
  ⟨-1, 0, 0, 0, 0, 1, 0, -1, 0⟩,
  ⟨1, 0, 0, 0, 0, -1, 0, -1, 0⟩,
  ⟨-1, 0, 0, 0, 0, -1, 0, -1, 0⟩,
  ⟨0, 1, 0, 1, 0, 0, 0, 0, 1⟩,
  ⟨0, -1, 0, 1, 0, 0, 0, 0, 1⟩,
  ⟨0, 1, 0, -1, 0, 0, 0, 0, 1⟩,
  ⟨0, -1, 0, -1, 0, 0, 0, 0, 1⟩,
  ⟨0, 1, 0, 1, 0, 0, 0, 0, -1⟩,
  ⟨0, -1, 0, 1, 0, 0, 0, 0, -1⟩,
  ⟨0, 1, 0, -1, 0, 0, 0, 0, -1⟩,
  ⟨0, -1, 0, -1, 0, 0, 0, 0, -1⟩,
  ⟨0, 1, 0, 0, 0, 1, 1, 0, 0⟩,
  ⟨0, -1, 0, 0, 0, 1, 1, 0, 0⟩,
  ⟨0, 1, 0, 0, 0, -1, 1, 0, 0⟩,
  ⟨0, -1, 0, 0, 0, -1, 1, 0, 0⟩,
  ⟨0, 1, 0, 0, 0, 1, -1, 0, 0⟩,
  ⟨0, -1, 0, 0, 0, 1, -1, 0, 0⟩,
  ⟨0, 1, 0, 0, 0, -1, -1, 0, 0⟩,
  ⟨0, -1, 0, 0, 0, -1, -1, 0, 0⟩,
  ⟨0, 0, 1, 1, 0, 0, 0, 1, 0⟩,
  ⟨0, 0, -1, 1, 0, 0, 0, 1, 0⟩,
  ⟨0, 0, 1, -1, 0, 0, 0, 1, 0⟩,
  ⟨0, 0, -1, -1, 0, 0, 0, 1, 0⟩,
  ⟨0, 0, 1, 1, 0, 0, 0, -1, 0⟩,
  ⟨0, 0, -1, 1, 0, 0, 0, -1, 0⟩,
  ⟨0, 0, 1, -1, 0, 0, 0, -1, 0⟩,
  ⟨0, 0, -1, -1, 0, 0, 0, -1, 0⟩,
  ⟨0, 0, 1, 0, 1, 0, 1, 0, 0⟩,
  ⟨0, 0, -1, 0, 1, 0, 1, 0, 0⟩,
  ⟨0, 0, 1, 0, -1, 0, 1, 0, 0⟩,
  ⟨0, 0, -1, 0, -1, 0, 1, 0, 0⟩,
  ⟨0, 0, 1, 0, 1, 0, -1, 0, 0⟩,
  ⟨0, 0, -1, 0, 1, 0, -1, 0, 0⟩,
  ⟨0, 0, 1, 0, -1, 0, -1, 0, 0⟩,
  ⟨0, 0, -1, 0, -1, 0, -1, 0, 0⟩]
def G24 : List M9 := [
  ⟨1, 0, 0, 0, 1, 0, 0, 0, 1⟩,
  ⟨1, -1, 0, 1, 0, 0, 0, 0, 1⟩,
  ⟨0, -1, 0, 1, -1, 0, 0, 0, 1⟩,
  ⟨-1, 0, 0, 0, -1, 0, 0, 0, 1⟩,
  ⟨-1, 1, 0, -1, 0, 0, 0, 0, 1⟩,
  ⟨0, 1, 0, -1, 1, 0, 0, 0, 1⟩,
  ⟨0, 1, 0, 1, 0, 0, 0, 0, -1⟩,
  ⟨-1, 1, 0, 0, 1, 0, 0, 0, -1⟩,
  ⟨-1, 0, 0, -1, 1, 0, 0, 0, -1⟩,
  ⟨0, -1, 0, -1, 0, 0, 0, 0, -1⟩,
  ⟨1, -1, 0, 0, -1, 0, 0, 0, -1⟩,
  ⟨1, 0, 0, 1, -1, 0, 0, 0, -1⟩,
  ⟨-1, 0, 0, 0, -1, 0, 0, 0, -1⟩,
  ⟨-1, 1, 0, -1, 0, 0, 0, 0, -1⟩,
  ⟨0, 1, 0, -1, 1, 0, 0, 0, -1⟩,
  ⟨1, 0, 0, 0, 1, 0, 0, 0, -1⟩,
  ⟨1, -1, 0, 1, 0, 0, 0, 0, -1⟩,
  ⟨0, -1, 0, 1, -1, 0, 0, 0, -1⟩,
  ⟨0, -1, 0, -1, 0, 0, 0, 0, 1⟩,
  ⟨1, -1, 0, 0, -1, 0, 0, 0, 1⟩,
  ⟨1, 0, 0, 1, -1, 0, 0, 0, 1⟩,
  ⟨0, 1, 0, 1, 0, 0, 0, 0, 1⟩,
  ⟨-1, 1, 0, 0, 1, 0, 0, 0, 1⟩,
  ⟨-1, 0, 0, -1, 1, 0, 0, 0, 1⟩]
def GH (hex : Bool) : List M9 := if hex then G24 else G48
def mDet (m : M9) : Int := m.a * (m.e * m.i - m.f * m.h) + m.b * (m.f * m.g - m.d * m.i) + m.c * (m.d * m.h - m.e * m.g)
def mInv (m : M9) : M9 := ⟨(m.e * m.i - m.f * m.h) * mDet m, (m.h * m.c - m.i * m.b) * mDet m, (m.b * m.f - m.c * m.e) * mDet m, (m.f * m.g - m.d * m.i) * mDet m, (m.i * m.a - m.g * m.c) * mDet m, (m.c * m.d - m.a * m.f) * mDet m, (m.d * m.h - m.e * m.g) * mDet m, (m.g * m.b - m.h * m.a) * mDet m, (m.a * m.e - m.b * m.d) * mDet m⟩
def powM (m : M9) : Nat → M9
  | 0 => m1
  | n + 1 => mZ (powM m n) m
def ordM (m : M9) : Nat := if eqM (powM m 1) m1 then 1 else if eqM (powM m 2) m1 then 2 else if eqM (powM m 3) m1 then 3 else if eqM (powM m 4) m1 then 4 else 6
def bit3 (x : Int) : Bool := decide (-1 ≤ x) && decide (x ≤ 1)
def low9 (m : M9) : Bool := bit3 m.a && (bit3 m.b && (bit3 m.c && (bit3 m.d && (bit3 m.e && (bit3 m.f && (bit3 m.g && (bit3 m.h && bit3 m.i)))))))
def fineM (l : List M9) (m : M9) : Bool := low9 m && ((decide (mDet m = 1) || decide (mDet m = -1)) && (memM l (mInv m) && (eqM (mZ m (mInv m)) m1 && (eqM (mZ (mInv m) m) m1 && (eqM (powM m (ordM m)) m1 && (decide (ordM m < 7) && ([1, 2, 3, 4, 5].all fun k => decide (ordM m ≤ k) || !eqM (powM m k) m1)))))))
theorem mul_48 : (G48.all fun m => G48.all fun n => memM G48 (mZ m n)) = true := by decide +kernel
theorem mul_24 : (G24.all fun m => G24.all fun n => memM G24 (mZ m n)) = true := by decide +kernel
theorem fine_48 : (G48.all (fineM G48)) = true := by decide +kernel
theorem fine_24 : (G24.all (fineM G24)) = true := by decide +kernel
theorem GH_mul {hex : Bool} {m n : M9} (hm : m ∈ GH hex) (hn : n ∈ GH hex) : mZ m n ∈ GH hex := by
  cases hex with
  | true => exact memM_iff.1 (List.all_eq_true.1 (List.all_eq_true.1 mul_24 m hm) n hn)
  | false => exact memM_iff.1 (List.all_eq_true.1 (List.all_eq_true.1 mul_48 m hm) n hn)
theorem GH_fine {hex : Bool} {m : M9} (hm : m ∈ GH hex) : fineM (GH hex) m = true := by
  cases hex with
  | true => exact List.all_eq_true.1 fine_24 m hm
  | false => exact List.all_eq_true.1 fine_48 m hm
theorem low9_iff {m : M9} : low9 m = true ↔ (-1 ≤ m.a ∧ m.a ≤ 1) ∧ (-1 ≤ m.b ∧ m.b ≤ 1) ∧ (-1 ≤ m.c ∧ m.c ≤ 1) ∧ (-1 ≤ m.d ∧ m.d ≤ 1) ∧ (-1 ≤ m.e ∧ m.e ≤ 1) ∧ (-1 ≤ m.f ∧ m.f ≤ 1) ∧ (-1 ≤ m.g ∧ m.g ≤ 1) ∧ (-1 ≤ m.h ∧ m.h ≤ 1) ∧ (-1 ≤ m.i ∧ m.i ≤ 1) := by
  unfold low9 bit3
  simp only [Bool.and_eq_true, decide_eq_true_eq]
theorem GH_low {hex : Bool} {m : M9} (hm : m ∈ GH hex) : low9 m = true := by
  have h := GH_fine hm
  unfold fineM at h
  simp only [Bool.and_eq_true] at h
  exact h.1
theorem GH_det {hex : Bool} {m : M9} (hm : m ∈ GH hex) : mDet m = 1 ∨ mDet m = -1 := by
  have h := GH_fine hm
  unfold fineM at h
  simp only [Bool.and_eq_true, Bool.or_eq_true, decide_eq_true_eq] at h
  exact h.2.1
theorem GH_inv {hex : Bool} {m : M9} (hm : m ∈ GH hex) : mInv m ∈ GH hex ∧ mZ m (mInv m) = m1 ∧ mZ (mInv m) m = m1 := by
  have h := GH_fine hm
  unfold fineM at h
  simp only [Bool.and_eq_true] at h
  exact ⟨memM_iff.1 h.2.2.1, eqM_iff.1 h.2.2.2.1, eqM_iff.1 h.2.2.2.2.1⟩
theorem ordM_pos (m : M9) : 1 ≤ ordM m := by
  unfold ordM
  split
  · omega
  · split
    · omega
    · split
      · omega
      · split <;> omega
theorem GH_ord {hex : Bool} {m : M9} (hm : m ∈ GH hex) : powM m (ordM m) = m1 ∧ ordM m < 7 ∧ ∀ k, 1 ≤ k → k < ordM m → powM m k ≠ m1 := by
  have h := GH_fine hm
  unfold fineM at h
  simp only [Bool.and_eq_true, decide_eq_true_eq] at h
  obtain ⟨_, _, _, _, _, h1, h2, h3⟩ := h
  refine ⟨eqM_iff.1 h1, h2, fun k k1 k2 e => ?_⟩
  have hk : k ∈ [1, 2, 3, 4, 5] := by
    have : k < 6 := by omega
    simp
    omega
  have h4 := List.all_eq_true.1 h3 k hk
  simp only [Bool.or_eq_true, decide_eq_true_eq, Bool.not_eq_true'] at h4
  rcases h4 with h4 | h4
  · omega
  · rw [eqM_iff.2 e] at h4
    cases h4
theorem mZ_assoc (m n k : M9) : mZ (mZ m n) k = mZ m (mZ n k) := by
  unfold mZ
  simp only [M9.mk.injEq]
  grind
theorem mZ_one (m : M9) : mZ m m1 = m ∧ mZ m1 m = m := by
  unfold mZ m1
  simp
theorem powM_add (m : M9) : ∀ a b : Nat, powM m (a + b) = mZ (powM m a) (powM m b)
  | a, 0 => (mZ_one _).1.symm
  | a, b + 1 => by
    show mZ (powM m (a + b)) m = mZ (powM m a) (mZ (powM m b) m)
    rw [powM_add m a b, mZ_assoc]
end Go.AM
namespace Go.AM
set_option maxRecDepth 100000
structure Mp where
  r : M9
  x : Int
  y : Int
  z : Int
def mp1 : Mp := ⟨m1, 0, 0, 0⟩
def in24 (u : Mp) : Prop := (0 ≤ u.x ∧ u.x < 24) ∧ (0 ≤ u.y ∧ u.y < 24) ∧ (0 ≤ u.z ∧ u.z < 24)
def mpOk (hex : Bool) (u : Mp) : Prop := u.r ∈ GH hex ∧ in24 u
def lin (a b c l m n : Int) : Int := a * l + b * m + c * n
def mpMul (u v : Mp) : Mp := ⟨mZ u.r v.r, (lin u.r.a u.r.b u.r.c v.x v.y v.z + u.x) % 24, (lin u.r.d u.r.e u.r.f v.x v.y v.z + u.y) % 24, (lin u.r.g u.r.h u.r.i v.x v.y v.z + u.z) % 24⟩
theorem mod_lin (a b c l m n t : Int) : (lin a b c (l % 24) (m % 24) (n % 24) + t) % 24 = (lin a b c l m n + t) % 24 := by
  have h : ∀ k v : Int, k * v = 24 * (k * (v / 24)) + k * (v % 24) := fun k v => by
    have := Int.mul_ediv_add_emod v 24
    have e : k * (24 * (v / 24) + v % 24) = 24 * (k * (v / 24)) + k * (v % 24) := by grind
    rw [this] at e
    exact e
  have h1 := h a l
  have h2 := h b m
  have h3 := h c n
  unfold lin
  generalize a * l = p1 at *
  generalize a * (l / 24) = p2 at *
  generalize a * (l % 24) = p3 at *
  generalize b * m = q1 at *
  generalize b * (m / 24) = q2 at *
  generalize b * (m % 24) = q3 at *
  generalize c * n = s1 at *
  generalize c * (n / 24) = s2 at *
  generalize c * (n % 24) = s3 at *
  omega
theorem add_mod (s t : Int) : (s + t % 24) % 24 = (s + t) % 24 := by omega
theorem mp_assoc (u v w : Mp) : mpMul (mpMul u v) w = mpMul u (mpMul v w) := by
  unfold mpMul
  simp only [Mp.mk.injEq, mZ_assoc, true_and, mod_lin, add_mod]
  refine ⟨?_, ?_, ?_⟩ <;> (congr 1; unfold lin mZ; grind)
theorem mp_one {u : Mp} (h : in24 u) : mpMul u mp1 = u ∧ mpMul mp1 u = u := by
  obtain ⟨h1, h2, h3⟩ := h
  have k1 := (mZ_one u.r).1
  have k2 := (mZ_one u.r).2
  unfold mpMul mp1
  constructor
  · show (⟨mZ u.r m1, _, _, _⟩ : Mp) = u
    rw [k1]
    cases u
    simp only [lin, Mp.mk.injEq, true_and] at *
    omega
  · show (⟨mZ m1 u.r, _, _, _⟩ : Mp) = u
    rw [k2]
    cases u
    simp only [lin, m1, Mp.mk.injEq, true_and] at *
    omega
theorem mul_in24 (u v : Mp) : in24 (mpMul u v) := by
  unfold in24 mpMul
  simp only
  omega
theorem mul_ok {hex : Bool} {u v : Mp} (hu : mpOk hex u) (hv : mpOk hex v) : mpOk hex (mpMul u v) := ⟨GH_mul hu.1 hv.1, mul_in24 u v⟩
def mpInv (u : Mp) : Mp := ⟨mInv u.r, (-(lin (mInv u.r).a (mInv u.r).b (mInv u.r).c u.x u.y u.z)) % 24, (-(lin (mInv u.r).d (mInv u.r).e (mInv u.r).f u.x u.y u.z)) % 24, (-(lin (mInv u.r).g (mInv u.r).h (mInv u.r).i u.x u.y u.z)) % 24⟩
theorem inv_ok {hex : Bool} {u : Mp} (hu : mpOk hex u) : mpOk hex (mpInv u) := ⟨(GH_inv hu.1).1, by unfold in24 mpInv; simp only; omega⟩
theorem mul_inv {hex : Bool} {u : Mp} (hu : mpOk hex u) : mpMul u (mpInv u) = mp1 ∧ mpMul (mpInv u) u = mp1 := by
  obtain ⟨_, h1, h2⟩ := GH_inv hu.1
  constructor
  · unfold mpMul mpInv mp1
    simp only [Mp.mk.injEq, mod_lin]
    refine ⟨h1, ?_⟩
    generalize mInv u.r = k at *
    unfold mZ m1 at h1
    simp only [M9.mk.injEq] at h1
    obtain ⟨e1, e2, e3, e4, e5, e6', e7, e8, e9⟩ := h1
    unfold lin
    have key : ∀ (p q s w1 w2 w3 o : Int) (b1 b2 b3 : Int), p * k.a + q * k.d + s * k.g = b1 → p * k.b + q * k.e + s * k.h = b2 → p * k.c + q * k.f + s * k.i = b3 → w1 = b1 * u.x + b2 * u.y + b3 * u.z → p * -(k.a * u.x + k.b * u.y + k.c * u.z) + q * -(k.d * u.x + k.e * u.y + k.f * u.z) + s * -(k.g * u.x + k.h * u.y + k.i * u.z) + w1 = 0 := fun p q s w1 _ _ _ b1 b2 b3 h1 h2 h3 hw => by
      have e : p * -(k.a * u.x + k.b * u.y + k.c * u.z) + q * -(k.d * u.x + k.e * u.y + k.f * u.z) + s * -(k.g * u.x + k.h * u.y + k.i * u.z) = -((p * k.a + q * k.d + s * k.g) * u.x + (p * k.b + q * k.e + s * k.h) * u.y + (p * k.c + q * k.f + s * k.i) * u.z) := by
        simp only [Int.mul_add, Int.add_mul, Int.mul_neg, Int.neg_add, Int.mul_assoc]
        omega
      rw [e, h1, h2, h3, hw]
      omega
    refine ⟨?_, ?_, ?_⟩
    · rw [key _ _ _ u.x 0 0 0 1 0 0 e1 e2 e3 (by omega)]; rfl
    · rw [key _ _ _ u.y 0 0 0 0 1 0 e4 e5 e6' (by omega)]; rfl
    · rw [key _ _ _ u.z 0 0 0 0 0 1 e7 e8 e9 (by omega)]; rfl
  · unfold mpMul mpInv mp1
    simp only [Mp.mk.injEq]
    refine ⟨h2, ?_, ?_, ?_⟩ <;> omega
def mpPow (u : Mp) : Nat → Mp
  | 0 => mp1
  | n + 1 => mpMul (mpPow u n) u
theorem pow_r (u : Mp) : ∀ n, (mpPow u n).r = powM u.r n
  | 0 => rfl
  | n + 1 => by
    show mZ (mpPow u n).r u.r = mZ (powM u.r n) u.r
    rw [pow_r u n]
theorem pow_in (u : Mp) : ∀ n, in24 (mpPow u n)
  | 0 => by unfold in24 mpPow mp1; simp
  | n + 1 => mul_in24 _ _
theorem pow_one {u : Mp} (h : in24 u) : mpPow u 1 = u := (mp_one h).2
theorem pow_add (u : Mp) : ∀ a b : Nat, mpPow u (a + b) = mpMul (mpPow u a) (mpPow u b)
  | a, 0 => (mp_one (pow_in u a)).1.symm
  | a, b + 1 => by
    show mpMul (mpPow u (a + b)) u = mpMul (mpPow u a) (mpMul (mpPow u b) u)
    rw [pow_add u a b, mp_assoc]
theorem pow_left {u : Mp} (h : in24 u) (n : Nat) : mpMul u (mpPow u n) = mpPow u (n + 1) := by
  have := pow_add u 1 n
  rw [pow_one h, Nat.add_comm] at this
  exact this.symm
theorem pow_ok {hex : Bool} {u : Mp} (hu : mpOk hex u) (h1 : m1 ∈ GH hex) : ∀ n, mpOk hex (mpPow u n)
  | 0 => ⟨h1, pow_in u 0⟩
  | n + 1 => mul_ok (pow_ok hu h1 n) hu
theorem one_GH (hex : Bool) : m1 ∈ GH hex := by cases hex <;> exact memM_iff.1 (by decide +kernel)
def tz (u : Mp) (n : Nat) : Prop := ((n : Int) * u.x) % 24 = 0 ∧ ((n : Int) * u.y) % 24 = 0 ∧ ((n : Int) * u.z) % 24 = 0
instance (u : Mp) (n : Nat) : Decidable (tz u n) := by unfold tz; infer_instance
def leastT (u : Mp) : Nat → Nat → Nat
  | 0, n => n
  | f + 1, n => if tz u n then n else leastT u f (n + 1)
theorem least_at (u : Mp) : ∀ (f n : Nat), f + n = 24 → 1 ≤ n → tz u (leastT u f n) ∧ n ≤ leastT u f n ∧ leastT u f n ≤ 24 ∧ ∀ k, n ≤ k → k < leastT u f n → ¬ tz u k
  | 0, n, h, h1 => by
    have : n = 24 := by omega
    subst this
    refine ⟨?_, Nat.le_refl _, Nat.le_refl _, fun k k1 k2 => ?_⟩
    · unfold tz leastT
      omega
    · unfold leastT at k2
      omega
  | f + 1, n, h, h1 => by
    unfold leastT
    by_cases ht : tz u n
    · rw [if_pos ht]
      exact ⟨ht, Nat.le_refl _, by omega, fun k k1 k2 => by omega⟩
    · rw [if_neg ht]
      obtain ⟨i1, i2, i3, i4⟩ := least_at u f (n + 1) (by omega) (by omega)
      refine ⟨i1, by omega, i3, fun k k1 k2 => ?_⟩
      by_cases e : k = n
      · rw [e]; exact ht
      · exact i4 k (by omega) k2
def ordT (u : Mp) : Nat := leastT (mpPow u (ordM u.r)) 23 1
def mpOrd (u : Mp) : Nat := ordM u.r * ordT u
theorem pow_mul {hex : Bool} {u : Mp} (hu : mpOk hex u) : ∀ q : Nat, mpPow u (ordM u.r * q) = ⟨m1, ((q : Int) * (mpPow u (ordM u.r)).x) % 24, ((q : Int) * (mpPow u (ordM u.r)).y) % 24, ((q : Int) * (mpPow u (ordM u.r)).z) % 24⟩
  | 0 => by
    show mp1 = _
    unfold mp1
    simp
  | q + 1 => by
    have h0 := (GH_ord hu.1).1
    rw [← pow_r] at h0
    rw [Nat.mul_add, Nat.mul_one, pow_add, pow_mul hu q]
    generalize mpPow u (ordM u.r) = t at *
    unfold mpMul
    simp only [Mp.mk.injEq, h0, (mZ_one m1).1, true_and]
    have e : ∀ v : Int, ((q + 1 : Nat) : Int) * v = (q : Int) * v + v := fun v => by
      have : ((q + 1 : Nat) : Int) = (q : Int) + 1 := by omega
      rw [this, Int.add_mul, Int.one_mul]
    rw [e, e, e]
    unfold lin m1
    simp only
    omega
theorem ord_spec {hex : Bool} {u : Mp} (hu : mpOk hex u) : 1 ≤ mpOrd u ∧ mpPow u (mpOrd u) = mp1 ∧ ∀ k, 1 ≤ k → k < mpOrd u → mpPow u k ≠ mp1 := by
  obtain ⟨o1, o2, o3⟩ := GH_ord hu.1
  have op := ordM_pos u.r
  obtain ⟨l1, l2, l3, l4⟩ := least_at (mpPow u (ordM u.r)) 23 1 rfl (Nat.le_refl _)
  have hm := pow_mul hu
  refine ⟨Nat.mul_pos op l2, ?_, fun k k1 k2 e => ?_⟩
  · unfold mpOrd
    rw [hm]
    obtain ⟨t1, t2, t3⟩ := l1
    unfold ordT mp1
    rw [t1, t2, t3]
  · -- k = ordM * q + s
    have hk := Nat.div_add_mod k (ordM u.r)
    have hs := Nat.mod_lt k op
    generalize hq : k / ordM u.r = q at *
    generalize k % ordM u.r = s at *
    have e1 : powM u.r k = m1 := by rw [← pow_r, e]; rfl
    have e2 : powM u.r (ordM u.r * q) = m1 := by rw [← pow_r, hm]
    rw [← hk, powM_add, e2, (mZ_one _).2] at e1
    have hs0 : s = 0 := by
      rcases Nat.eq_zero_or_pos s with h | h
      · exact h
      · exact absurd e1 (o3 s h hs)
    subst hs0
    rw [Nat.add_zero] at hk
    rw [← hk, hm] at e
    unfold mp1 at e
    simp only [Mp.mk.injEq, true_and] at e
    have hq1 : 1 ≤ q := by
      rcases Nat.eq_zero_or_pos q with h | h
      · subst h; omega
      · exact h
    have hq2 : q < ordT u := by
      rcases Nat.lt_or_ge q (ordT u) with h | h
      · exact h
      · have := Nat.mul_le_mul_left (ordM u.r) h
        unfold mpOrd at k2
        omega
    exact l4 q hq1 hq2 e
structure Pl3 where
  m : Int
  x : Int
  y : Int
  z : Int
def plOk (p : Pl3) : Prop := (p.m = 24 ∨ p.m = 48 ∨ p.m = 96 ∨ p.m = 192) ∧ (0 ≤ p.x ∧ p.x < p.m) ∧ (0 ≤ p.y ∧ p.y < p.m) ∧ (0 ≤ p.z ∧ p.z < p.m)
def mpApp (u : Mp) (p : Pl3) : Pl3 := ⟨p.m, (lin u.r.a u.r.b u.r.c p.x p.y p.z % p.m + u.x * (p.m / 24)) % p.m, (lin u.r.d u.r.e u.r.f p.x p.y p.z % p.m + u.y * (p.m / 24)) % p.m, (lin u.r.g u.r.h u.r.i p.x p.y p.z % p.m + u.z * (p.m / 24)) % p.m⟩
theorem app_ok {u : Mp} {p : Pl3} (h : plOk p) : plOk (mpApp u p) := by
  obtain ⟨h0, h1, h2, h3⟩ := h
  have hm : 0 < p.m := by omega
  refine ⟨h0, ?_, ?_, ?_⟩ <;> exact ⟨Int.emod_nonneg _ (by show p.m ≠ 0; omega), Int.emod_lt_of_pos _ hm⟩
theorem mod_linM {M : Int} (a b c l m n t : Int) : (lin a b c (l % M) (m % M) (n % M) % M + t) % M = (lin a b c l m n + t) % M := by
  have h : ∀ k v : Int, k * (v % M) % M = k * v % M := fun k v => by rw [Int.mul_emod, Int.emod_emod_of_dvd _ (Int.dvd_refl M), ← Int.mul_emod]
  have e : lin a b c (l % M) (m % M) (n % M) % M = lin a b c l m n % M := by
    unfold lin
    rw [Int.add_emod, Int.add_emod (a * (l % M)), h, h, h, ← Int.add_emod (a * l) (b * m) M, ← Int.add_emod]
  rw [e, Int.add_emod, Int.emod_emod_of_dvd _ (Int.dvd_refl M), ← Int.add_emod]
theorem mp_app {u v : Mp} {p : Pl3} (h : plOk p) : mpApp u (mpApp v p) = mpApp (mpMul u v) p := by
  have key : ∀ (a b c S : Int) (l1 l2 l3 t1 t2 t3 : Int), (lin a b c ((l1 % p.m + t1 * (p.m / 24)) % p.m) ((l2 % p.m + t2 * (p.m / 24)) % p.m) ((l3 % p.m + t3 * (p.m / 24)) % p.m) % p.m + S * (p.m / 24)) % p.m = (lin a b c l1 l2 l3 % p.m + ((lin a b c t1 t2 t3 + S) % 24) * (p.m / 24)) % p.m := fun a b c S l1 l2 l3 t1 t2 t3 => by
    have w : ∀ l t : Int, (l % p.m + t) % p.m = (l + t) % p.m := fun l t => by rw [Int.add_emod, Int.emod_emod_of_dvd _ (Int.dvd_refl _), ← Int.add_emod]
    rw [w l1, w l2, w l3, mod_linM, w (lin a b c l1 l2 l3)]
    have e : lin a b c (l1 + t1 * (p.m / 24)) (l2 + t2 * (p.m / 24)) (l3 + t3 * (p.m / 24)) + S * (p.m / 24) = lin a b c l1 l2 l3 + (lin a b c t1 t2 t3 + S) * (p.m / 24) := by unfold lin; grind
    rw [e]
    generalize lin a b c l1 l2 l3 = A
    generalize lin a b c t1 t2 t3 + S = B
    rcases h.1 with e | e | e | e <;> rw [e] <;> omega
  unfold mpApp
  simp only [Pl3.mk.injEq, true_and]
  refine ⟨?_, ?_, ?_⟩
  · rw [key]; congr 3; unfold lin mpMul mZ; grind
  · rw [key]; congr 3; unfold lin mpMul mZ; grind
  · rw [key]; congr 3; unfold lin mpMul mZ; grind
end Go.AM
