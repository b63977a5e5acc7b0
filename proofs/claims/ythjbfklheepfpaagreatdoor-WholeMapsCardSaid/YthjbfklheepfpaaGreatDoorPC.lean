import Derived.Test.YthjbfklheepfpaaGreatDoorPTB
import Derived.Lib.ItoaLen
set_option linter.unusedVariables false
set_option linter.unusedSimpArgs false
set_option maxHeartbeats 4000000
open Go Go.AM Go.Proofs
namespace Go.AM
def annDiv (a b : Int) : Annos := ⟨0, fun id env h => if id = 1 then some ⟨{ p : Int × Int // 0 ≤ p.1 ∧ 0 ≤ p.2 ∧ Int.gcd p.1 p.2 = Int.gcd a b },
  fun p => (set (set (keepT [] 0 env) 0 (.v (.one (.sym .i64 p.1.1)))) 1 (.v (.one (.sym .i64 p.1.2))), []),
  fun p => p.1.2.toNat⟩ else none, fun _ _ _ => []⟩
end Go.AM
open Go Go.AM Go.Proofs
namespace Go.AM
open Dist
set_option maxRecDepth 100000
def qDiv : PSpec
  | [.v (.one (.sym .i64 a)), .v (.one (.sym .i64 b))] => .iff (0 ≤ a ∧ 0 ≤ b) (.v (.one (.sym .i64 ((Int.gcd a b : Nat) : Int))))
  | _ => .fail
theorem nfdiv (a b : Int) (K : KV) : call P (Y7 stdOn) (annDiv a b) 1000 Tryz.f64 [.v (.one (.sym .i64 a)), .v (.one (.sym .i64 b))] [] K = ((∃ (z : { p:Int × Int//(0:Int)<=p.fst/\(0:Int)<=p.snd/\p.fst.gcd p.snd=a.gcd b }),(z.val.fst=a/\z.val.snd=b/\True)/\True)/\∀ (x : { p:Int × Int//(0:Int)<=p.fst/\(0:Int)<=p.snd/\p.fst.gcd p.snd=a.gcd b }),(decide ((0:Int)<x.val.snd)=true->(x.val.snd=0->False)/\∃ (z : { p:Int × Int//(0:Int)<=p.fst/\(0:Int)<=p.snd/\p.fst.gcd p.snd=a.gcd b }),z.val.snd.toNat.succ.le x.val.snd.toNat/\(z.val.fst=x.val.snd/\z.val.snd=x.val.fst.tmod x.val.snd/\True)/\True)/\(decide ((0:Int)<x.val.snd)=false->K (.v (.one (.sym .i64 x.val.fst))) [])) := by kernel_rfl
theorem gcd_step {p q : Int} (hp : 0 ≤ p) (hq : 0 ≤ q) : Int.gcd q (p.tmod q) = Int.gcd p q := by
  rw [Int.tmod_eq_emod_of_nonneg hp]
  obtain ⟨m, rfl⟩ := Int.eq_ofNat_of_zero_le hp
  obtain ⟨n, rfl⟩ := Int.eq_ofNat_of_zero_le hq
  show Nat.gcd n (m % n) = Nat.gcd m n
  rw [Nat.gcd_comm n, ← Nat.gcd_rec, Nat.gcd_comm]
theorem hDiv : Holds P (Y7 stdOn) 64 qDiv := by
  refine ⟨Tryz.f64, by kernel_rfl, by kernel_rfl, fun args av hg => ?_⟩
  unfold qDiv at hg
  split at hg
  · rename_i a b
    obtain ⟨⟨ha, hb⟩, rfl⟩ := givesIff hg
    refine ⟨rfl, .int .i64 ((Int.gcd a b : Nat) : Int), 1000, annDiv a b, rfl, rfl, ?_⟩
    rw [nfdiv]
    refine ⟨⟨⟨(a, b), ha, hb, rfl⟩, ⟨rfl, rfl, trivial⟩, trivial⟩, fun x => ⟨fun hx => ?_, fun hx => leafQ ?_⟩⟩
    · obtain ⟨⟨p, q⟩, hp, hq, hgc⟩ := x
      have hx : 0 < q := of_decide_eq_true hx
      have hp : 0 ≤ p := hp
      refine ⟨fun h => ?_, ⟨(q, p.tmod q), hq, Int.tmod_nonneg _ hp, ?_⟩, ?_, ⟨rfl, rfl, trivial⟩, trivial⟩
      · have h : q = 0 := h
        omega
      · show Int.gcd q (p.tmod q) = Int.gcd a b
        rw [← show Int.gcd p q = Int.gcd a b from hgc]
        exact gcd_step hp (by omega)
      · show (p.tmod q).toNat + 1 ≤ q.toNat
        have h1 := Int.tmod_lt_of_pos p hx
        have h2 := Int.tmod_nonneg q hp
        omega
    · obtain ⟨⟨p, q⟩, hp, hq, hgc⟩ := x
      have hx : ¬ 0 < q := of_decide_eq_false hx
      have hp : 0 ≤ p := hp
      have hq : 0 ≤ q := hq
      obtain rfl : q = 0 := by omega
      show p = ((Int.gcd a b : Nat) : Int)
      rw [← show Int.gcd p 0 = Int.gcd a b from hgc, Int.gcd_zero_right]
      omega
  · exact (gives_fail hg).elim
def Y8 (o : OnB) : Sums := (Y7 o).add 64 qDiv
theorem pY8 (o : OnB) : OkS P (Y8 o) := (pY7 o).add1 fine (pY7 stdOn) hDiv
end Go.AM
open Go Go.AM Go.Proofs
namespace Go.AM
open Dist
set_option maxRecDepth 100000
def frT (r : Int) : List UInt8 := if r = 0 then [48] else Lib.itoa (r.tdiv ((Int.gcd r 24 : Nat) : Int)) ++ [47] ++ Lib.itoa (Int.tdiv 24 ((Int.gcd r 24 : Nat) : Int))
def qFra : PSpec
  | [.v (.one (.sym .i64 n))] => .ok (.v (.one (.str (frT (mdR n)))))
  | _ => .fail
theorem nffra (n : Int) (K : KV) : call P (Y8 stdOn) noAnn 1000 Tryz.f40 [.v (.one (.sym .i64 n))] [] K = ((decide ((IntKind.i64.wrap (n.tmod (24:Int)+24)).tmod (24:Int)=0)=true->K (.v (.one (.cstr [(48:UInt8)]))) [])/\(decide ((IntKind.i64.wrap (n.tmod (24:Int)+24)).tmod (24:Int)=0)=false->((0:Int)<=(IntKind.i64.wrap (n.tmod (24:Int)+24)).tmod (24:Int)/\(0:Int)<=24)/\((↑(((IntKind.i64.wrap (n.tmod (24:Int)+24)).tmod 24).gcd 24):Int)=0->False)/\((-9223372036854775808:Int)<=IntKind.i64.wrap (((IntKind.i64.wrap (n.tmod (24:Int)+24)).tmod 24).tdiv (↑(((IntKind.i64.wrap (n.tmod (24:Int)+24)).tmod 24).gcd 24):Int))/\IntKind.i64.wrap (((IntKind.i64.wrap (n.tmod (24:Int)+24)).tmod 24).tdiv (↑(((IntKind.i64.wrap (n.tmod (24:Int)+24)).tmod 24).gcd 24):Int))<=9223372036854775807)/\(↑((Lib.itoa (IntKind.i64.wrap (((IntKind.i64.wrap (n.tmod (24:Int)+24)).tmod 24).tdiv (↑(((IntKind.i64.wrap (n.tmod (24:Int)+24)).tmod 24).gcd 24):Int)))).length+[(47:UInt8)].length):Int)<=IntKind.i64.max/\((↑(((IntKind.i64.wrap (n.tmod (24:Int)+24)).tmod 24).gcd 24):Int)=0->False)/\((-9223372036854775808:Int)<=IntKind.i64.wrap (Int.tdiv 24 (↑(((IntKind.i64.wrap (n.tmod (24:Int)+24)).tmod 24).gcd 24):Int))/\IntKind.i64.wrap (Int.tdiv 24 (↑(((IntKind.i64.wrap (n.tmod (24:Int)+24)).tmod 24).gcd 24):Int))<=9223372036854775807)/\(↑((Lib.itoa (IntKind.i64.wrap (((IntKind.i64.wrap (n.tmod (24:Int)+24)).tmod 24).tdiv (↑(((IntKind.i64.wrap (n.tmod (24:Int)+24)).tmod 24).gcd 24):Int)))++[(47:UInt8)]).length+(Lib.itoa (IntKind.i64.wrap (Int.tdiv 24 (↑(((IntKind.i64.wrap (n.tmod (24:Int)+24)).tmod 24).gcd 24):Int)))).length):Int)<=IntKind.i64.max/\K (.v (.one (.str (Lib.itoa (IntKind.i64.wrap (((IntKind.i64.wrap (n.tmod (24:Int)+24)).tmod 24).tdiv (↑(((IntKind.i64.wrap (n.tmod (24:Int)+24)).tmod 24).gcd 24):Int)))++[(47:UInt8)]++Lib.itoa (IntKind.i64.wrap (Int.tdiv 24 (↑(((IntKind.i64.wrap (n.tmod (24:Int)+24)).tmod 24).gcd 24):Int))))))) [])) := by kernel_rfl
theorem mdR_bd (n : Int) : 0 ≤ mdR n ∧ mdR n < 24 ∧ mdR n = n % 24 := by
  unfold mdR
  have h3 := Int.tmod_eq_emod (a := n) (b := 24)
  have h4 : -24 < n.tmod 24 ∧ n.tmod 24 < 24 ∧ (n.tmod 24 - n) % 24 = 0 := by
    split at h3
    · omega
    · simp only [Int.natAbs] at h3
      omega
  rw [wr_id (by omega) (by omega), Int.tmod_eq_emod_of_nonneg (by omega)]
  omega
theorem fr_cases {r : Int} (h0 : 0 ≤ r) (h1 : r < 24) : r = 0 ∨ r = 1 ∨ r = 2 ∨ r = 3 ∨ r = 4 ∨ r = 5 ∨ r = 6 ∨ r = 7 ∨ r = 8 ∨ r = 9 ∨ r = 10 ∨ r = 11 ∨ r = 12 ∨ r = 13 ∨ r = 14 ∨ r = 15 ∨ r = 16 ∨ r = 17 ∨ r = 18 ∨ r = 19 ∨ r = 20 ∨ r = 21 ∨ r = 22 ∨ r = 23 := by omega
theorem leafT {s t : List UInt8} (h : s = t) : (AV.v (.one (.str s))).valOf = some (.string ⟨t.toArray⟩) ∧ ([] : Heap) = [] := by subst h; exact ⟨rfl, rfl⟩
theorem leafTc {s t : List UInt8} (h : s = t) : (AV.v (.one (.cstr s))).valOf = some (.string ⟨t.toArray⟩) ∧ ([] : Heap) = [] := by subst h; exact ⟨rfl, rfl⟩
theorem hFra : Holds P (Y8 stdOn) 40 qFra := by
  refine holdsA (fn := Tryz.f40) noAnn 1000 rfl (by kernel_rfl) (by kernel_rfl) fun args av hg => ?_
  unfold qFra at hg
  split at hg
  · rename_i n
    rw [gives_ok hg]
    refine ⟨rfl, .string ⟨(frT (mdR n)).toArray⟩, rfl, ?_⟩
    rw [nffra]
    have em : (IntKind.i64.wrap (n.tmod 24 + 24)).tmod 24 = mdR n := rfl
    rw [em]
    obtain ⟨b0, b1, _⟩ := mdR_bd n
    generalize mdR n = r at *
    refine ⟨fun h => leafTc ?_, fun h => ?_⟩
    · rw [frT, if_pos (of_decide_eq_true h)]
    · have hr := of_decide_eq_false h
      have hg1 : 1 ≤ Int.gcd r 24 := Nat.pos_of_ne_zero (fun h => by
        have := (Int.gcd_eq_zero_iff.1 h).2
        cases this)
      have hd : (Int.gcd r 24 : Int) ∣ r := Int.gcd_dvd_left ..
      have hd2 : (Int.gcd r 24 : Int) ∣ 24 := Int.gcd_dvd_right ..
      have q1 : 0 ≤ r.tdiv ((Int.gcd r 24 : Nat) : Int) ∧ r.tdiv ((Int.gcd r 24 : Nat) : Int) ≤ 24 := by
        rw [Int.tdiv_eq_ediv_of_nonneg b0]
        have := Int.ediv_le_self (a := r) ((Int.gcd r 24 : Nat) : Int) b0
        exact ⟨Int.ediv_nonneg b0 (by omega), by omega⟩
      have q2 : 0 ≤ Int.tdiv 24 ((Int.gcd r 24 : Nat) : Int) ∧ Int.tdiv 24 ((Int.gcd r 24 : Nat) : Int) ≤ 24 := by
        rw [Int.tdiv_eq_ediv_of_nonneg (by omega)]
        have := Int.ediv_le_self (a := 24) ((Int.gcd r 24 : Nat) : Int) (by omega)
        exact ⟨Int.ediv_nonneg (by omega) (by omega), by omega⟩
      have w1 : IntKind.i64.wrap (r.tdiv ((Int.gcd r 24 : Nat) : Int)) = r.tdiv ((Int.gcd r 24 : Nat) : Int) := wr_id (by omega) (by omega)
      have w2 : IntKind.i64.wrap (Int.tdiv 24 ((Int.gcd r 24 : Nat) : Int)) = Int.tdiv 24 ((Int.gcd r 24 : Nat) : Int) := wr_id (by omega) (by omega)
      rw [w1, w2]
      have l1 := Lib.itoa_length_le (r.tdiv ((Int.gcd r 24 : Nat) : Int)) (by omega) (by omega)
      have l2 := Lib.itoa_length_le (Int.tdiv 24 ((Int.gcd r 24 : Nat) : Int)) (by omega) (by omega)
      have nz : ((Int.gcd r 24 : Nat) : Int) = 0 → False := fun h => by omega
      refine ⟨⟨b0, by omega⟩, nz, ⟨by omega, by omega⟩, ?_, nz, ⟨by omega, by omega⟩, ?_, leafT ?_⟩
      · show ((_ : Nat) : Int) ≤ 9223372036854775807
        simp only [List.length_cons, List.length_nil]
        omega
      · show ((_ : Nat) : Int) ≤ 9223372036854775807
        simp only [List.length_append, List.length_cons, List.length_nil]
        omega
      · rw [frT, if_neg hr]
  · exact (gives_fail hg).elim
def Y9 (o : OnB) : Sums := (Y8 o).add 40 qFra
theorem pY9 (o : OnB) : OkS P (Y9 o) := (pY8 o).add1 fine (pY8 stdOn) hFra
end Go.AM
