import Derived.Test.YtcinopdklobldaaGreatDoorCU1
open Go Go.AM Go.Proofs
namespace Go.AM
open Dist
set_option maxRecDepth 100000
/-- a number that fits into an int -/
def InR (x : Int) : Prop := -9223372036854775808 ≤ x ∧ x ≤ 9223372036854775807
def qForm : PSpec
  | [.v (.agg [.sym .i64 n, .sym .i64 d])] => .iff (InR n ∧ InR d) (B (frm n d))
  | _ => .fail
theorem loop_whole {a b : Int} {Q1 Q2 K1 K2 K3 : Prop} (ha : 0 ≤ a) (hb : 0 ≤ b) (h1 : Q1) (h2 : Q2) (k1 : Int.gcd a b = 0 → K1) (k2 : 1 < Int.gcd a b → K2) (k3 : Int.gcd a b = 1 → K3) :
    (∃ (z : { p : Int × Int // GInv a b p }), (z.val.fst = a ∧ z.val.snd = b ∧ True) ∧ Q1) ∧ ∀ (x : { p : Int × Int // GInv a b p }),
      ((!decide (x.val.snd = (0 : Int))) = true → (x.val.snd = (0 : Int) → False) ∧ ∃ (z : { p : Int × Int // GInv a b p }), ((fun (p : { p : Int × Int // GInv a b p }) => p.val.snd.toNat) z).succ.le ((fun (p : { p : Int × Int // GInv a b p }) => p.val.snd.toNat) x) ∧ (z.val.fst = x.val.snd ∧ z.val.snd = x.val.fst.tmod x.val.snd ∧ True) ∧ Q2) ∧
      ((!decide (x.val.snd = (0 : Int))) = false → (decide (x.val.fst < Int.ofNat (nat_lit 0 + (1 : Nat))) = true → K1) ∧ (decide (x.val.fst < Int.ofNat (nat_lit 0 + (1 : Nat))) = false → (decide (Int.ofNat (nat_lit 0 + (1 : Nat)) < x.val.fst) = true → K2) ∧ (decide (Int.ofNat (nat_lit 0 + (1 : Nat)) < x.val.fst) = false → K3))) := by
  refine ⟨⟨⟨(a, b), ⟨ha, hb, rfl⟩⟩, ⟨rfl, rfl, trivial⟩, h1⟩, fun x => ⟨fun h => ?_, fun h => ?_⟩⟩
  · obtain ⟨⟨p, q⟩, hp, hq, hg⟩ := x
    have hq0 : 0 < q := by
      have : q ≠ 0 := by simpa using h
      simp only at hq
      omega
    simp only at hp hq hg ⊢
    refine ⟨fun e => by omega, ⟨⟨(q, p.tmod q), ⟨hq, Int.tmod_nonneg q hp, ?_⟩⟩, ?_, ⟨rfl, rfl, trivial⟩, h2⟩⟩
    · rw [← hg]
      simp only
      rw [Int.tmod_eq_emod_of_nonneg hp]
      have e := Int.gcd_add_mul_left_right q (p % q) (p / q)
      rw [Int.emod_add_mul_ediv] at e
      rw [← e, Int.gcd_comm]
    · show (p.tmod q).toNat + 1 ≤ q.toNat
      have := Int.tmod_lt_of_pos p hq0
      have := Int.tmod_nonneg q hp
      omega
  · obtain ⟨⟨p, q⟩, hp, hq, hg⟩ := x
    have hq0 : q = 0 := by simpa using h
    subst hq0
    simp only at hp hg ⊢
    have e : p = (Int.gcd a b : Int) := by rw [← hg]; simp; omega
    refine ⟨fun h => k1 ?_, fun h' => ⟨fun h => k2 ?_, fun h => k3 ?_⟩⟩
    · have h : p < 1 := by simpa using h
      omega
    · have h : 1 < p := by simpa using h
      omega
    · have h : ¬ 1 < p := by simpa using h
      have h' : ¬ p < 1 := by simpa using h'
      omega
theorem frm_leaf {n d : Int} {b : Bool} (h : frm n d = b) : (AV.v (PV.one (SV.cb b))).valOf = some (Value.bool (frm n d)) ∧ ([] : Heap) = [] := by subst h; exact ⟨rfl, rfl⟩
theorem frm_neg {n d : Int} (h : d ≤ 0) : frm n d = false := by unfold frm; rw [decide_eq_false (by omega)]; rfl
theorem frm_pos {n d : Int} (h : 0 < d) : frm n d = decide (Int.gcd n d = 1) := by unfold frm; rw [decide_eq_true h]; rfl
theorem wrap_nn (x : Int) : 0 ≤ IntKind.u64.wrap x := by rw [IntKind.wrap_u64]; omega
theorem wrap_neg {n : Int} (hn : InR n) (h : n < 0) : IntKind.u64.wrap (0 - IntKind.u64.wrap n) = -n := by unfold InR at hn; rw [IntKind.wrap_u64, IntKind.wrap_u64]; omega
theorem wrap_pos {n : Int} (hn : InR n) (h : 0 ≤ n) : IntKind.u64.wrap n = n := by unfold InR at hn; rw [IntKind.wrap_u64]; omega
theorem hcForm : Holds P DG 48 qForm := by
  refine holds_okA (fn := Tryz.f48) noAnn 3000 rfl (by kernel_rfl) (by kernel_rfl) fun args av hg => ?_
  unfold qForm at hg
  split at hg
  · rename_i n d
    obtain ⟨⟨hn, hd⟩, rfl⟩ := gives_iff hg
    refine ⟨rfl, _, rfl, ?_⟩
    rw [nfform]
    refine ⟨fun h => ?_, fun h => ?_⟩
    · exact frm_leaf (frm_neg (by simpa using h))
    have hd0 : 0 < d := by simp at h; omega
    clear h
    rw [wrap_pos hd (by omega)]
    have no1 : ∀ {p : Prop}, decide (d < 0) = true → p := fun h => by simp at h; omega
    have no2 : ∀ {p : Prop}, decide (d = 0) = true → p := fun h => by simp at h; omega
    refine ⟨fun h => ?_, fun h => ?_⟩
    · have hn0 : n < 0 := by simpa using h
      rw [wrap_neg hn hn0]
      have hg : Int.gcd (-n) d = Int.gcd n d := Int.neg_gcd
      have hg' : Int.gcd d (-n) = Int.gcd n d := by rw [Int.gcd_comm]; exact hg
      refine ⟨fun h => by simp at h; omega, fun _ => ⟨no1, fun _ => ⟨no2, fun _ => ⟨fun _ => loop_whole (by omega) (by omega) ?_ ?_ ?_ ?_ ?_, fun _ => ⟨fun _ => loop_whole (by omega) (by omega) ?_ ?_ ?_ ?_ ?_, fun _ => loop_whole (by omega) (by omega) ?_ ?_ ?_ ?_ ?_⟩⟩⟩⟩⟩
      all_goals first
        | (intro h; refine frm_leaf ?_; rw [frm_pos hd0]; (first | rw [hg] at h | rw [hg'] at h | skip); first | (rw [h]; rfl) | (rw [decide_eq_false (by omega)]; rfl))
        | ((repeat' apply And.intro) <;> first | trivial | rfl)
    · have hn0 : 0 ≤ n := by simp at h; omega
      clear h
      rw [wrap_pos hn hn0]
      have hg : Int.gcd n d = Int.gcd n d := rfl
      have hg' : Int.gcd d n = Int.gcd n d := Int.gcd_comm d n
      refine ⟨fun h0 => ⟨no1, fun _ => ⟨no2, fun _ => ⟨fun h => by simp at h; omega, fun _ => ⟨fun h => ?_, fun h => ?_⟩⟩⟩⟩, fun h0 => ⟨no1, fun _ => ⟨no2, fun _ => ⟨fun _ => loop_whole (by omega) (by omega) ?_ ?_ ?_ ?_ ?_, fun _ => ⟨fun _ => loop_whole (by omega) (by omega) ?_ ?_ ?_ ?_ ?_, fun _ => loop_whole (by omega) (by omega) ?_ ?_ ?_ ?_ ?_⟩⟩⟩⟩⟩
      · obtain rfl : n = 0 := by simpa using h0
        have h : 1 < d := by simpa using h
        refine frm_leaf ?_
        rw [frm_pos hd0, Int.gcd_zero_left, decide_eq_false (by omega)]
        rfl
      · obtain rfl : n = 0 := by simpa using h0
        have h : ¬ 1 < d := by simpa using h
        obtain rfl : d = 1 := by omega
        exact frm_leaf (by kernel_rfl)
      all_goals first
        | (intro h; refine frm_leaf ?_; rw [frm_pos hd0]; (first | rw [hg'] at h | skip); first | (rw [h]; rfl) | (rw [decide_eq_false (by omega)]; rfl))
        | ((repeat' apply And.intro) <;> first | trivial | rfl)
  · exact (gives_fail hg).elim
def D2f : Sums := D2.add 48 qForm
end Go.AM
