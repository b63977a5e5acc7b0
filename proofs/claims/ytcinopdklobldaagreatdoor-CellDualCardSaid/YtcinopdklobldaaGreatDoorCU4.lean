import Derived.Test.YtcinopdklobldaaGreatDoorCU3
open Go Go.AM Go.Proofs
namespace Go.AM
open Dist
set_option maxRecDepth 100000
theorem nfinform (n d : Int) (K : KV) : call P D2n AI 3000 Tryz.f52 [.v (.agg [.sym .i64 n, .sym .i64 d])] [] K = ((decide (d ≤ (0 : Int)) = true → K (AV.v (PV.one (SV.cb false))) []) ∧ (decide (d ≤ (0 : Int)) = false → (decide (n = (0 : Int)) = true → ((!decide (d = (1 : Int))) = true → K (AV.v (PV.one (SV.cb false))) []) ∧ ((!decide (d = (1 : Int))) = false → ((-9223372036854775808 : Int) ≤ n ∧ n ≤ (9223372036854775807 : Int)) ∧ (∃ (z : { p : Int × Int // GInv (↑n.natAbs : Int) (IntKind.u64.wrap d) p }), (z.val.fst = (↑n.natAbs : Int) ∧ z.val.snd = IntKind.u64.wrap d ∧ True) ∧ (n = n ∧ d = d ∧ True) ∧ True) ∧ ∀ (x : { p : Int × Int // GInv (↑n.natAbs : Int) (IntKind.u64.wrap d) p }), (decide ((0 : Int) < x.val.snd) = true → (x.val.snd = (0 : Int) → False) ∧ ∃ (z : { p : Int × Int // GInv (↑n.natAbs : Int) (IntKind.u64.wrap d) p }), ((fun (p : { p : Int × Int // GInv (↑n.natAbs : Int) (IntKind.u64.wrap d) p }) => p.val.snd.toNat) z).succ.le ((fun (p : { p : Int × Int // GInv (↑n.natAbs : Int) (IntKind.u64.wrap d) p }) => p.val.snd.toNat) x) ∧ (z.val.fst = x.val.snd ∧ z.val.snd = x.val.fst.tmod x.val.snd ∧ True) ∧ (n = n ∧ d = d ∧ True) ∧ True) ∧ (decide ((0 : Int) < x.val.snd) = false → K (AV.v (PV.one (SV.sb (decide (x.val.fst = (1 : Int)))))) []))) ∧ (decide (n = (0 : Int)) = false → ((-9223372036854775808 : Int) ≤ n ∧ n ≤ (9223372036854775807 : Int)) ∧ (∃ (z : { p : Int × Int // GInv (↑n.natAbs : Int) (IntKind.u64.wrap d) p }), (z.val.fst = (↑n.natAbs : Int) ∧ z.val.snd = IntKind.u64.wrap d ∧ True) ∧ (n = n ∧ d = d ∧ True) ∧ True) ∧ ∀ (x : { p : Int × Int // GInv (↑n.natAbs : Int) (IntKind.u64.wrap d) p }), (decide ((0 : Int) < x.val.snd) = true → (x.val.snd = (0 : Int) → False) ∧ ∃ (z : { p : Int × Int // GInv (↑n.natAbs : Int) (IntKind.u64.wrap d) p }), ((fun (p : { p : Int × Int // GInv (↑n.natAbs : Int) (IntKind.u64.wrap d) p }) => p.val.snd.toNat) z).succ.le ((fun (p : { p : Int × Int // GInv (↑n.natAbs : Int) (IntKind.u64.wrap d) p }) => p.val.snd.toNat) x) ∧ (z.val.fst = x.val.snd ∧ z.val.snd = x.val.fst.tmod x.val.snd ∧ True) ∧ (n = n ∧ d = d ∧ True) ∧ True) ∧ (decide ((0 : Int) < x.val.snd) = false → K (AV.v (PV.one (SV.sb (decide (x.val.fst = (1 : Int)))))) [])))) := by kernel_rfl
theorem nfcmpr (a b c d : Int) (K : KV) : call P D2n noAnn 3000 Tryz.f53 [.v (.agg [.sym .i64 a, .sym .i64 b]), .v (.agg [.sym .i64 c, .sym .i64 d])] [] K = (((!decide (Dist.sgn a = Dist.sgn c)) = true → (decide (Dist.sgn a < Dist.sgn c) = true → K (AV.v (PV.one (SV.con IntKind.i64 (-1 : Int)))) []) ∧ (decide (Dist.sgn a < Dist.sgn c) = false → K (AV.v (PV.one (SV.con IntKind.i64 (1 : Int)))) [])) ∧ ((!decide (Dist.sgn a = Dist.sgn c)) = false → ((-9223372036854775808 : Int) ≤ a ∧ a ≤ (9223372036854775807 : Int)) ∧ ((-9223372036854775808 : Int) ≤ c ∧ c ≤ (9223372036854775807 : Int)) ∧ ((((0 : Int) ≤ (↑a.natAbs : Int) ∧ (↑a.natAbs : Int) ≤ (18446744073709551615 : Int)) ∧ (0 : Int) ≤ IntKind.u64.wrap d ∧ IntKind.u64.wrap d ≤ (18446744073709551615 : Int)) ∧ ((0 : Int) ≤ (↑c.natAbs : Int) ∧ (↑c.natAbs : Int) ≤ (18446744073709551615 : Int)) ∧ (0 : Int) ≤ IntKind.u64.wrap b ∧ IntKind.u64.wrap b ≤ (18446744073709551615 : Int)) ∧ K (AV.v (PV.one (SV.sym IntKind.i64 (IntKind.i64.wrap (Dist.sgn a * Dist.sgn ((↑a.natAbs : Int) * IntKind.u64.wrap d - (↑c.natAbs : Int) * IntKind.u64.wrap b)))))) [])) := by kernel_rfl
theorem loop_whole2 {a b : Int} {Q1 Q2 : Prop} {R : Int → Prop} (ha : 0 ≤ a) (hb : 0 ≤ b) (h1 : Q1) (h2 : Q2) (k : R (Int.gcd a b : Int)) :
    (∃ (z : { p : Int × Int // GInv a b p }), (z.val.fst = a ∧ z.val.snd = b ∧ True) ∧ Q1) ∧ ∀ (x : { p : Int × Int // GInv a b p }),
      (decide ((0 : Int) < x.val.snd) = true → (x.val.snd = (0 : Int) → False) ∧ ∃ (z : { p : Int × Int // GInv a b p }), ((fun (p : { p : Int × Int // GInv a b p }) => p.val.snd.toNat) z).succ.le ((fun (p : { p : Int × Int // GInv a b p }) => p.val.snd.toNat) x) ∧ (z.val.fst = x.val.snd ∧ z.val.snd = x.val.fst.tmod x.val.snd ∧ True) ∧ Q2) ∧
      (decide ((0 : Int) < x.val.snd) = false → R x.val.fst) := by
  refine ⟨⟨⟨(a, b), ⟨ha, hb, rfl⟩⟩, ⟨rfl, rfl, trivial⟩, h1⟩, fun x => ⟨fun h => ?_, fun h => ?_⟩⟩
  · obtain ⟨⟨p, q⟩, hp, hq, hg⟩ := x
    have hq0 : 0 < q := by simpa using h
    simp only at hp hq hg ⊢
    refine ⟨fun e => by omega, ⟨⟨(q, p.tmod q), ⟨hq, Int.tmod_nonneg q hp, ?_⟩⟩, ?_, ⟨rfl, rfl, trivial⟩, h2⟩⟩
    · rw [← hg]
      simp only
      rw [Int.tmod_eq_emod_of_nonneg hp]
      have e := Int.gcd_add_mul_left_right q (p % q) (p / q)
      rw [Int.emod_add_mul_ediv] at e
      rw [← e, Int.gcd_comm]
    · show (p.tmod q).toNat + 1 ≤ q.toNat
      have := Int.tmod_lt_of_pos p hq0
      have := Int.tmod_nonneg q hp
      omega
  · obtain ⟨⟨p, q⟩, hp, hq, hg⟩ := x
    have hq0 : ¬ 0 < q := by simpa using h
    simp only at hp hq hg ⊢
    obtain rfl : q = 0 := by omega
    have e : p = (Int.gcd a b : Int) := by rw [← hg]; simp; omega
    rw [e]
    exact k
theorem leafSb {b c : Bool} (h : c = b) : (AV.v (PV.one (SV.sb c))).valOf = some (Value.bool b) ∧ ([] : Heap) = [] := by subst h; exact ⟨rfl, rfl⟩
theorem leafCb {b c : Bool} (h : c = b) : (AV.v (PV.one (SV.cb c))).valOf = some (Value.bool b) ∧ ([] : Heap) = [] := by subst h; exact ⟨rfl, rfl⟩
theorem gcd_nat (n d : Int) : Int.gcd (n.natAbs : Int) d = Int.gcd n d := by simp [Int.gcd]
theorem gcd_dec (n d : Int) : decide (((Int.gcd n d : Nat) : Int) = 1) = decide (Int.gcd n d = 1) := by
  by_cases h : Int.gcd n d = 1
  · rw [decide_eq_true h, decide_eq_true (by omega)]
  · rw [decide_eq_false h, decide_eq_false (by omega)]
theorem hcInForm : Holds P D2n 52 qForm := by
  refine holds_okA (fn := Tryz.f52) AI 3000 rfl (by kernel_rfl) (by kernel_rfl) fun args av hg => ?_
  unfold qForm at hg
  split at hg
  · rename_i n d
    obtain ⟨⟨hn, hd⟩, rfl⟩ := gives_iff hg
    refine ⟨rfl, _, rfl, ?_⟩
    rw [nfinform]
    refine ⟨fun h => leafCb (frm_neg (by simpa using h)).symm, fun h => ?_⟩
    have hd0 : 0 < d := by simp at h; omega
    clear h
    rw [wrap_pos hd (by omega)]
    have fin : (AV.v (PV.one (SV.sb (decide (((Int.gcd (n.natAbs : Int) d : Nat) : Int) = 1))))).valOf = some (Value.bool (frm n d)) ∧ ([] : Heap) = [] := leafSb (by rw [gcd_dec, gcd_nat, frm_pos hd0])
    refine ⟨fun h => ⟨fun h1 => leafCb ?_, fun h1 => ⟨hn, loop_whole2 (R := fun g => (AV.v (PV.one (SV.sb (decide (g = 1))))).valOf = some (Value.bool (frm n d)) ∧ ([] : Heap) = []) (by omega) (by omega) ⟨⟨rfl, rfl, trivial⟩, trivial⟩ ⟨⟨rfl, rfl, trivial⟩, trivial⟩ fin⟩⟩, fun h => ⟨hn, loop_whole2 (R := fun g => (AV.v (PV.one (SV.sb (decide (g = 1))))).valOf = some (Value.bool (frm n d)) ∧ ([] : Heap) = []) (by omega) (by omega) ⟨⟨rfl, rfl, trivial⟩, trivial⟩ ⟨⟨rfl, rfl, trivial⟩, trivial⟩ fin⟩⟩
    obtain rfl : n = 0 := by simpa using h
    have h1 : d ≠ 1 := by simpa using h1
    rw [frm_pos hd0, Int.gcd_zero_left, decide_eq_false (by omega)]
  · exact (gives_fail hg).elim
def qCmpr : PSpec
  | [.v (.agg [.sym .i64 a, .sym .i64 b]), .v (.agg [.sym .i64 c, .sym .i64 d])] => .iff ((InR a ∧ InR b ∧ InR c ∧ InR d) ∧ 0 < b ∧ 0 < d) (I (sgn (a * d - c * b)))
  | _ => .fail
theorem sgn_lo {n : Int} (h : n < 0) : sgn n = -1 := if_pos h
theorem sgn_hi {n : Int} (h : 0 < n) : sgn n = 1 := by unfold sgn; rw [if_neg (by omega), if_pos h]
theorem sgn_no : sgn 0 = 0 := rfl
theorem hcCmpr : Holds P D2n 53 qCmpr := by
  refine holds_okA (fn := Tryz.f53) noAnn 3000 rfl (by kernel_rfl) (by kernel_rfl) fun args av hg => ?_
  unfold qCmpr at hg
  split at hg
  · rename_i a b c d
    obtain ⟨⟨⟨ha, hb, hc, hd⟩, hb0, hd0⟩, rfl⟩ := gives_iff hg
    refine ⟨rfl, _, rfl, ?_⟩
    rw [nfcmpr]
    rw [wrap_pos hb (by omega), wrap_pos hd (by omega)]
    have mneg : ∀ {x y : Int}, x < 0 → 0 < y → x * y < 0 := fun h1 h2 => Int.mul_neg_of_neg_of_pos h1 h2
    have mpos : ∀ {x y : Int}, 0 < x → 0 < y → 0 < x * y := fun h1 h2 => Int.mul_pos h1 h2
    have ha' := ha
    have hc' := hc
    have hb' := hb
    have hd' := hd
    unfold InR at ha' hb' hc' hd'
    refine ⟨fun h => ⟨fun h1 => leafN ?_, fun h1 => leafN ?_⟩, fun h => ⟨ha, hc, ⟨⟨⟨by omega, by omega⟩, by omega, by omega⟩, ⟨by omega, by omega⟩, by omega, by omega⟩, leafM ?_⟩⟩
    · have h1 : sgn a < sgn c := by simpa using h1
      rcases Int.lt_trichotomy a 0 with k | k | k <;> rcases Int.lt_trichotomy c 0 with l | l | l
      · rw [sgn_lo k, sgn_lo l] at h1; omega
      · subst l; rw [sgn_lo]; have := mneg k hd0; omega
      · rw [sgn_lo]; have := mneg k hd0; have := mpos l hb0; omega
      · subst k; rw [sgn_no, sgn_lo l] at h1; omega
      · subst k; subst l; omega
      · subst k; rw [sgn_lo]; have := mpos l hb0; omega
      · rw [sgn_hi k, sgn_lo l] at h1; omega
      · subst l; rw [sgn_hi k, sgn_no] at h1; omega
      · rw [sgn_hi k, sgn_hi l] at h1; omega
    · have h1 : ¬ sgn a < sgn c := by simpa using h1
      have h : sgn a ≠ sgn c := by simpa using h
      rcases Int.lt_trichotomy a 0 with k | k | k <;> rcases Int.lt_trichotomy c 0 with l | l | l
      · rw [sgn_lo k, sgn_lo l] at h; omega
      · subst l; rw [sgn_lo k, sgn_no] at h1; omega
      · rw [sgn_lo k, sgn_hi l] at h1; omega
      · subst k; rw [sgn_hi]; have := mneg l hb0; omega
      · subst k; subst l; omega
      · subst k; rw [sgn_no, sgn_hi l] at h1; omega
      · rw [sgn_hi]; have := mpos k hd0; have := mneg l hb0; omega
      · subst l; rw [sgn_hi]; have := mpos k hd0; omega
      · rw [sgn_hi k, sgn_hi l] at h; omega
    · have h : sgn a = sgn c := by simpa using h
      have w1 : ∀ {x : Int}, -1 ≤ x ∧ x ≤ 1 → IntKind.i64.wrap x = x := fun h => wr_i64 (by omega) (by omega)
      rcases Int.lt_trichotomy a 0 with k | k | k <;> rcases Int.lt_trichotomy c 0 with l | l | l
      · have e1 : ((a.natAbs : Nat) : Int) = -a := by omega
        have e2 : ((c.natAbs : Nat) : Int) = -c := by omega
        have e3 : -a * d - -c * b = -(a * d - c * b) := by rw [Int.neg_mul, Int.neg_mul]; omega
        rw [e1, e2, e3, sgn_neg, sgn_lo k]
        have := sgn_bd (a * d - c * b)
        rw [w1 (by omega)]
        omega
      · subst l; rw [sgn_lo k, sgn_no] at h; omega
      · rw [sgn_lo k, sgn_hi l] at h; omega
      · subst k; rw [sgn_no, sgn_lo l] at h; omega
      · subst k; subst l; rw [sgn_no]; simp; rfl
      · subst k; rw [sgn_no, sgn_hi l] at h; omega
      · rw [sgn_hi k, sgn_lo l] at h; omega
      · subst l; rw [sgn_hi k, sgn_no] at h; omega
      · have e1 : ((a.natAbs : Nat) : Int) = a := by omega
        have e2 : ((c.natAbs : Nat) : Int) = c := by omega
        have := sgn_bd (a * d - c * b)
        rw [e1, e2, sgn_hi k, w1 (by omega)]
        omega
  · exact (gives_fail hg).elim
def D2o : Sums := (D2n.add 52 qForm).add 53 qCmpr
end Go.AM
