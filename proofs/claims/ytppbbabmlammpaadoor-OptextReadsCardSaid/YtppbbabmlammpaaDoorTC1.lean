import Derived.Test.YtppbbabmlammpaaDoorTC0
set_option linter.unusedVariables false
set_option linter.unusedSimpArgs false
open Go Go.AM Go.Proofs
namespace Go.AM
open Dist
set_option maxRecDepth 100000
def qDiv : PSpec
  | [.v (.one (.sym .i64 a)), .v (.one (.sym .i64 b))] => .iff (0 ≤ a ∧ 0 ≤ b) (.v (.one (.sym .i64 ((Int.gcd a b : Nat) : Int))))
  | _ => .fail
theorem nfdiv (a b : Int) (K : KV) : call P (Y7 stdOn) (annDiv a b) 1000 Tryd.f49 [.v (.one (.sym .i64 a)), .v (.one (.sym .i64 b))] [] K = ((∃ (z : { p : Int × Int // (0 : Int) ≤ p.fst ∧ (0 : Int) ≤ p.snd ∧ p.fst.gcd p.snd = a.gcd b }), (z.val.fst = a ∧ z.val.snd = b ∧ True) ∧ True) ∧ ∀ (x : { p : Int × Int // (0 : Int) ≤ p.fst ∧ (0 : Int) ≤ p.snd ∧ p.fst.gcd p.snd = a.gcd b }), (decide ((0 : Int) < x.val.snd) = true → (x.val.snd = (0 : Int) → False) ∧ ∃ (z : { p : Int × Int // (0 : Int) ≤ p.fst ∧ (0 : Int) ≤ p.snd ∧ p.fst.gcd p.snd = a.gcd b }), z.val.snd.toNat.succ.le x.val.snd.toNat ∧ (z.val.fst = x.val.snd ∧ z.val.snd = x.val.fst.tmod x.val.snd ∧ True) ∧ True) ∧ (decide ((0 : Int) < x.val.snd) = false → K (AV.v (PV.one (SV.sym IntKind.i64 x.val.fst))) [])) := by kernel_rfl
theorem gcd_step {p q : Int} (hp : 0 ≤ p) (hq : 0 ≤ q) : Int.gcd q (p.tmod q) = Int.gcd p q := by
  rw [Int.tmod_eq_emod_of_nonneg hp]
  obtain ⟨m, rfl⟩ := Int.eq_ofNat_of_zero_le hp
  obtain ⟨n, rfl⟩ := Int.eq_ofNat_of_zero_le hq
  show Nat.gcd n (m % n) = Nat.gcd m n
  rw [Nat.gcd_comm n, ← Nat.gcd_rec, Nat.gcd_comm]
theorem hDiv : Holds P (Y7 stdOn) 49 qDiv := by
  refine ⟨Tryd.f49, by kernel_rfl, by kernel_rfl, fun args av hg => ?_⟩
  unfold qDiv at hg
  split at hg
  · rename_i a b
    obtain ⟨⟨ha, hb⟩, rfl⟩ := givesIff hg
    refine ⟨rfl, .int .i64 ((Int.gcd a b : Nat) : Int), 1000, annDiv a b, rfl, rfl, ?_⟩
    rw [nfdiv]
    refine ⟨⟨⟨(a, b), ha, hb, rfl⟩, ⟨rfl, rfl, trivial⟩, trivial⟩, fun x => ⟨fun hx => ?_, fun hx => leafQ ?_⟩⟩
    · obtain ⟨⟨p, q⟩, hp, hq, hgc⟩ := x
      have hx : 0 < q := of_decide_eq_true hx
      have hp : 0 ≤ p := hp
      refine ⟨fun h => ?_, ⟨(q, p.tmod q), hq, Int.tmod_nonneg _ hp, ?_⟩, ?_, ⟨rfl, rfl, trivial⟩, trivial⟩
      · have h : q = 0 := h
        omega
      · show Int.gcd q (p.tmod q) = Int.gcd a b
        rw [← show Int.gcd p q = Int.gcd a b from hgc]
        exact gcd_step hp (by omega)
      · show (p.tmod q).toNat + 1 ≤ q.toNat
        have h1 := Int.tmod_lt_of_pos p hx
        have h2 := Int.tmod_nonneg q hp
        omega
    · obtain ⟨⟨p, q⟩, hp, hq, hgc⟩ := x
      have hx : ¬ 0 < q := of_decide_eq_false hx
      have hp : 0 ≤ p := hp
      have hq : 0 ≤ q := hq
      obtain rfl : q = 0 := by omega
      show p = ((Int.gcd a b : Nat) : Int)
      rw [← show Int.gcd p 0 = Int.gcd a b from hgc, Int.gcd_zero_right]
      omega
  · exact (gives_fail hg).elim
def Y8 (o : OnB) : Sums := (Y7 o).add 49 qDiv
theorem pY8 (o : OnB) : OkS P (Y8 o) := (pY7 o).add1 fine (pY7 stdOn) hDiv
end Go.AM
