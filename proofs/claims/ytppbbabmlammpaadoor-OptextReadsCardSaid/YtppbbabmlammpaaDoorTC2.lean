import Derived.Test.YtppbbabmlammpaaDoorTC1
import Derived.Lib.ItoaLen
set_option linter.unusedVariables false
set_option linter.unusedSimpArgs false
open Go Go.AM Go.Proofs
namespace Go.AM
open Dist
set_option maxRecDepth 100000
def frT (r : Int) : List UInt8 := if r = 0 then [48] else Lib.itoa (r.tdiv ((Int.gcd r 24 : Nat) : Int)) ++ [47] ++ Lib.itoa (Int.tdiv 24 ((Int.gcd r 24 : Nat) : Int))
def qFra : PSpec
  | [.v (.one (.sym .i64 n))] => .ok (.v (.one (.str (frT (mdR n)))))
  | _ => .fail
theorem nffra (n : Int) (K : KV) : call P (Y8 stdOn) noAnn 1000 Tryd.f18 [.v (.one (.sym .i64 n))] [] K = ((decide ((IntKind.i64.wrap (n.tmod (24 : Int) + (24 : Int))).tmod (24 : Int) = (0 : Int)) = true → K (AV.v (PV.one (SV.cstr [(48 : UInt8)]))) []) ∧ (decide ((IntKind.i64.wrap (n.tmod (24 : Int) + (24 : Int))).tmod (24 : Int) = (0 : Int)) = false → ((0 : Int) ≤ (IntKind.i64.wrap (n.tmod (24 : Int) + (24 : Int))).tmod (24 : Int) ∧ (0 : Int) ≤ (24 : Int)) ∧ ((↑(((IntKind.i64.wrap (n.tmod (24 : Int) + (24 : Int))).tmod (24 : Int)).gcd (24 : Int)) : Int) = (0 : Int) → False) ∧ ((-9223372036854775808 : Int) ≤ IntKind.i64.wrap (((IntKind.i64.wrap (n.tmod (24 : Int) + (24 : Int))).tmod (24 : Int)).tdiv (↑(((IntKind.i64.wrap (n.tmod (24 : Int) + (24 : Int))).tmod (24 : Int)).gcd (24 : Int)) : Int)) ∧ IntKind.i64.wrap (((IntKind.i64.wrap (n.tmod (24 : Int) + (24 : Int))).tmod (24 : Int)).tdiv (↑(((IntKind.i64.wrap (n.tmod (24 : Int) + (24 : Int))).tmod (24 : Int)).gcd (24 : Int)) : Int)) ≤ (9223372036854775807 : Int)) ∧ (↑((Lib.itoa (IntKind.i64.wrap (((IntKind.i64.wrap (n.tmod (24 : Int) + (24 : Int))).tmod (24 : Int)).tdiv (↑(((IntKind.i64.wrap (n.tmod (24 : Int) + (24 : Int))).tmod (24 : Int)).gcd (24 : Int)) : Int)))).length + [(47 : UInt8)].length) : Int) ≤ IntKind.i64.max ∧ ((↑(((IntKind.i64.wrap (n.tmod (24 : Int) + (24 : Int))).tmod (24 : Int)).gcd (24 : Int)) : Int) = (0 : Int) → False) ∧ ((-9223372036854775808 : Int) ≤ IntKind.i64.wrap (Int.tdiv (24 : Int) (↑(((IntKind.i64.wrap (n.tmod (24 : Int) + (24 : Int))).tmod (24 : Int)).gcd (24 : Int)) : Int)) ∧ IntKind.i64.wrap (Int.tdiv (24 : Int) (↑(((IntKind.i64.wrap (n.tmod (24 : Int) + (24 : Int))).tmod (24 : Int)).gcd (24 : Int)) : Int)) ≤ (9223372036854775807 : Int)) ∧ (↑((Lib.itoa (IntKind.i64.wrap (((IntKind.i64.wrap (n.tmod (24 : Int) + (24 : Int))).tmod (24 : Int)).tdiv (↑(((IntKind.i64.wrap (n.tmod (24 : Int) + (24 : Int))).tmod (24 : Int)).gcd (24 : Int)) : Int))) ++ [(47 : UInt8)]).length + (Lib.itoa (IntKind.i64.wrap (Int.tdiv (24 : Int) (↑(((IntKind.i64.wrap (n.tmod (24 : Int) + (24 : Int))).tmod (24 : Int)).gcd (24 : Int)) : Int)))).length) : Int) ≤ IntKind.i64.max ∧ K (AV.v (PV.one (SV.str (Lib.itoa (IntKind.i64.wrap (((IntKind.i64.wrap (n.tmod (24 : Int) + (24 : Int))).tmod (24 : Int)).tdiv (↑(((IntKind.i64.wrap (n.tmod (24 : Int) + (24 : Int))).tmod (24 : Int)).gcd (24 : Int)) : Int))) ++ [(47 : UInt8)] ++ Lib.itoa (IntKind.i64.wrap (Int.tdiv (24 : Int) (↑(((IntKind.i64.wrap (n.tmod (24 : Int) + (24 : Int))).tmod (24 : Int)).gcd (24 : Int)) : Int))))))) [])) := by kernel_rfl
theorem mdR_bd (n : Int) : 0 ≤ mdR n ∧ mdR n < 24 ∧ mdR n = n % 24 := by
  unfold mdR
  have h3 := Int.tmod_eq_emod (a := n) (b := 24)
  have h4 : -24 < n.tmod 24 ∧ n.tmod 24 < 24 ∧ (n.tmod 24 - n) % 24 = 0 := by
    split at h3
    · omega
    · simp only [Int.natAbs] at h3
      omega
  rw [wr_id (by omega) (by omega), Int.tmod_eq_emod_of_nonneg (by omega)]
  omega
theorem leafT {s t : List UInt8} (h : s = t) : (AV.v (.one (.str s))).valOf = some (.string ⟨t.toArray⟩) ∧ ([] : Heap) = [] := by subst h; exact ⟨rfl, rfl⟩
theorem leafTc {s t : List UInt8} (h : s = t) : (AV.v (.one (.cstr s))).valOf = some (.string ⟨t.toArray⟩) ∧ ([] : Heap) = [] := by subst h; exact ⟨rfl, rfl⟩
theorem hFra : Holds P (Y8 stdOn) 18 qFra := by
  refine holdsA (fn := Tryd.f18) noAnn 1000 rfl (by kernel_rfl) (by kernel_rfl) fun args av hg => ?_
  unfold qFra at hg
  split at hg
  · rename_i n
    rw [gives_ok hg]
    refine ⟨rfl, .string ⟨(frT (mdR n)).toArray⟩, rfl, ?_⟩
    rw [nffra]
    have em : (IntKind.i64.wrap (n.tmod 24 + 24)).tmod 24 = mdR n := rfl
    rw [em]
    obtain ⟨b0, b1, _⟩ := mdR_bd n
    generalize mdR n = r at *
    refine ⟨fun h => leafTc ?_, fun h => ?_⟩
    · rw [frT, if_pos (of_decide_eq_true h)]
    · have hr := of_decide_eq_false h
      have hg1 : 1 ≤ Int.gcd r 24 := Nat.pos_of_ne_zero (fun h => by
        have := (Int.gcd_eq_zero_iff.1 h).2
        cases this)
      have hd : (Int.gcd r 24 : Int) ∣ r := Int.gcd_dvd_left ..
      have hd2 : (Int.gcd r 24 : Int) ∣ 24 := Int.gcd_dvd_right ..
      have q1 : 0 ≤ r.tdiv ((Int.gcd r 24 : Nat) : Int) ∧ r.tdiv ((Int.gcd r 24 : Nat) : Int) ≤ 24 := by
        rw [Int.tdiv_eq_ediv_of_nonneg b0]
        have := Int.ediv_le_self (a := r) ((Int.gcd r 24 : Nat) : Int) b0
        exact ⟨Int.ediv_nonneg b0 (by omega), by omega⟩
      have q2 : 0 ≤ Int.tdiv 24 ((Int.gcd r 24 : Nat) : Int) ∧ Int.tdiv 24 ((Int.gcd r 24 : Nat) : Int) ≤ 24 := by
        rw [Int.tdiv_eq_ediv_of_nonneg (by omega)]
        have := Int.ediv_le_self (a := 24) ((Int.gcd r 24 : Nat) : Int) (by omega)
        exact ⟨Int.ediv_nonneg (by omega) (by omega), by omega⟩
      have w1 : IntKind.i64.wrap (r.tdiv ((Int.gcd r 24 : Nat) : Int)) = r.tdiv ((Int.gcd r 24 : Nat) : Int) := wr_id (by omega) (by omega)
      have w2 : IntKind.i64.wrap (Int.tdiv 24 ((Int.gcd r 24 : Nat) : Int)) = Int.tdiv 24 ((Int.gcd r 24 : Nat) : Int) := wr_id (by omega) (by omega)
      rw [w1, w2]
      have l1 := Lib.itoa_length_le (r.tdiv ((Int.gcd r 24 : Nat) : Int)) (by omega) (by omega)
      have l2 := Lib.itoa_length_le (Int.tdiv 24 ((Int.gcd r 24 : Nat) : Int)) (by omega) (by omega)
      have nz : ((Int.gcd r 24 : Nat) : Int) = 0 → False := fun h => by omega
      refine ⟨⟨b0, by omega⟩, nz, ⟨by omega, by omega⟩, ?_, nz, ⟨by omega, by omega⟩, ?_, leafT ?_⟩
      · show ((_ : Nat) : Int) ≤ 9223372036854775807
        simp only [List.length_cons, List.length_nil]
        omega
      · show ((_ : Nat) : Int) ≤ 9223372036854775807
        simp only [List.length_append, List.length_cons, List.length_nil]
        omega
      · rw [frT, if_neg hr]
  · exact (gives_fail hg).elim
def Y9 (o : OnB) : Sums := (Y8 o).add 18 qFra
theorem pY9 (o : OnB) : OkS P (Y9 o) := (pY8 o).add1 fine (pY8 stdOn) hFra
end Go.AM
