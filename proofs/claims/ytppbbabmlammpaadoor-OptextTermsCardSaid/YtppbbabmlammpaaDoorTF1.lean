import Derived.Test.YtppbbabmlammpaaDoorTF0
set_option linter.unusedVariables false
set_option linter.unusedSimpArgs false
open Go Go.AM Go.Proofs
namespace Go.AM
open Dist
set_option maxRecDepth 100000
theorem nfdec (B n : Int) (K : KV) : call P (YD B stdOn) noAnn 10000 Tryd.f51 [.v (.one (.sym .i64 n))] [] K = ((decide (n < (10 : Int)) = true → K (AV.v (PV.one (SV.str [byteI (IntKind.u8.wrap (IntKind.i64.wrap ((48 : Int) + n.tmod (10 : Int))))]))) []) ∧ (decide (n < (10 : Int)) = false → ((0 : Int) ≤ IntKind.i64.wrap (n.tdiv (10 : Int)) ∧ IntKind.i64.wrap (n.tdiv (10 : Int)) < B) ∧ (↑((Lib.itoa (IntKind.i64.wrap (n.tdiv (10 : Int)))).length + [byteI (IntKind.u8.wrap (IntKind.i64.wrap ((48 : Int) + n.tmod (10 : Int))))].length) : Int) ≤ IntKind.i64.max ∧ K (AV.v (PV.one (SV.str (Lib.itoa (IntKind.i64.wrap (n.tdiv (10 : Int))) ++ [byteI (IntKind.u8.wrap (IntKind.i64.wrap ((48 : Int) + n.tmod (10 : Int))))])))) [])) := by kernel_rfl
theorem nftrm (B l n : Int) (K : KV) : call P (YD B stdOn) noAnn 10000 Tryd.f21 [.v (.one (.sym .i64 l)), .v (.one (.sym .i64 n))] [] K = ((decide (n < (0 : Int)) = true → (decide (l = (3 : Int)) = true → (↑([UInt8.ofNat (nat_lit 44 + (1 : Nat))].length + (frT (mdR (IntKind.i64.wrap ((0 : Int) - n)))).length) : Int) ≤ IntKind.i64.max ∧ K (AV.v (PV.one (SV.str (UInt8.ofNat (nat_lit 44 + (1 : Nat)) :: ([] ++ (frT (mdR (IntKind.i64.wrap ((0 : Int) - n))))))))) []) ∧ (decide (l = (3 : Int)) = false → ((0 : Int) ≤ IntKind.i64.wrap ((0 : Int) - n) ∧ IntKind.i64.wrap ((0 : Int) - n) < B) ∧ (↑([UInt8.ofNat (nat_lit 44 + (1 : Nat))].length + (Lib.itoa (IntKind.i64.wrap ((0 : Int) - n))).length) : Int) ≤ IntKind.i64.max ∧ ((0 : Int) ≤ l ∧ l ≤ IntKind.i64.wrap (l + (1 : Int)) ∧ IntKind.i64.wrap (l + (1 : Int)) ≤ (↑[(120 : UInt8), (121 : UInt8), (122 : UInt8)].length : Int)) ∧ (↑(([UInt8.ofNat (nat_lit 44 + (1 : Nat))] ++ Lib.itoa (IntKind.i64.wrap ((0 : Int) - n))).length + (List.take (IntKind.i64.wrap (l + (1 : Int)) - l).toNat (List.drop l.toNat [(120 : UInt8), (121 : UInt8), (122 : UInt8)])).length) : Int) ≤ IntKind.i64.max ∧ K (AV.v (PV.one (SV.str (UInt8.ofNat (nat_lit 44 + (1 : Nat)) :: ((([] ++ (Lib.itoa (IntKind.i64.wrap ((0 : Int) - n))))) ++ (List.take (IntKind.i64.wrap (l + (1 : Int)) - l).toNat (List.drop l.toNat [(120 : UInt8), (121 : UInt8), (122 : UInt8)]))))))) [])) ∧ (decide (n < (0 : Int)) = false → (decide (l = (3 : Int)) = true → (↑([UInt8.ofNat (nat_lit 42 + (1 : Nat))].length + (frT (mdR n)).length) : Int) ≤ IntKind.i64.max ∧ K (AV.v (PV.one (SV.str (UInt8.ofNat (nat_lit 42 + (1 : Nat)) :: ([] ++ (frT (mdR n))))))) []) ∧ (decide (l = (3 : Int)) = false → ((0 : Int) ≤ n ∧ n < B) ∧ (↑([UInt8.ofNat (nat_lit 42 + (1 : Nat))].length + (Lib.itoa n).length) : Int) ≤ IntKind.i64.max ∧ ((0 : Int) ≤ l ∧ l ≤ IntKind.i64.wrap (l + (1 : Int)) ∧ IntKind.i64.wrap (l + (1 : Int)) ≤ (↑[(120 : UInt8), (121 : UInt8), (122 : UInt8)].length : Int)) ∧ (↑(([UInt8.ofNat (nat_lit 42 + (1 : Nat))] ++ Lib.itoa n).length + (List.take (IntKind.i64.wrap (l + (1 : Int)) - l).toNat (List.drop l.toNat [(120 : UInt8), (121 : UInt8), (122 : UInt8)])).length) : Int) ≤ IntKind.i64.max ∧ K (AV.v (PV.one (SV.str (UInt8.ofNat (nat_lit 42 + (1 : Nat)) :: ((([] ++ (Lib.itoa n))) ++ (List.take (IntKind.i64.wrap (l + (1 : Int)) - l).toNat (List.drop l.toNat [(120 : UInt8), (121 : UInt8), (122 : UInt8)]))))))) []))) := by kernel_rfl
theorem leafQT {s t : List UInt8} (h : s = t) : (AV.v (.one (.str s))).valOf = some (.string ⟨t.toArray⟩) ∧ ([] : Heap) = [] := by subst h; exact ⟨rfl, rfl⟩
theorem wrap_u8 {n : Int} (h0 : 0 ≤ n) (h1 : n ≤ 255) : IntKind.u8.wrap n = n := by
  have : IntKind.u8.wrap n = n % 256 := by simp [IntKind.wrap, IntKind.bits, IntKind.signed]
  rw [this]
  omega
theorem itoa_rec (n : Nat) : Lib.itoa (n : Int) = if n < 10 then [UInt8.ofNat (48 + n)] else Lib.itoa ((n / 10 : Nat) : Int) ++ [UInt8.ofNat (48 + n % 10)] := by
  rw [Lib.itoa_nonneg, Lib.itoa_nonneg, Lib.decDigits]
  split
  · rfl
  · rfl
theorem dec_step {B B' : Int} (hB : B' ≤ 10 ∨ B' ≤ 10 * B) (hB2 : B' ≤ 1000000) (h : HoldsE P 51 (qDec B)) : HoldsE P 51 (qDec B') := by
  refine ⟨Tryd.f51, by kernel_rfl, by kernel_rfl, fun args av hg => ?_⟩
  unfold qDec at hg
  split at hg
  · rename_i n
    obtain ⟨⟨q1, q2⟩, rfl⟩ := givesIff hg
    refine ⟨rfl, .string ⟨(Lib.itoa n).toArray⟩, 10000, noAnn, YD B stdOn, rfl, (pYC stdOn).add fine h, rfl, ?_⟩
    rw [nfdec]
    have t1 : n.tmod 10 = n % 10 := Int.tmod_eq_emod_of_nonneg q1
    have t2 : n.tdiv 10 = n / 10 := Int.tdiv_eq_ediv_of_nonneg q1
    have w1 : byteI (IntKind.u8.wrap (IntKind.i64.wrap (48 + n.tmod 10))) = UInt8.ofNat (48 + n.toNat % 10) := by
      rw [t1, wr_id (by omega) (by omega), wrap_u8 (by omega) (by omega)]
      unfold byteI
      congr 1
      omega
    have w2 : IntKind.i64.wrap (n.tdiv 10) = n / 10 := by rw [t2, wr_id (by omega) (by omega)]
    have hr := itoa_rec n.toNat
    rw [Int.toNat_of_nonneg q1] at hr
    rw [w1, w2]
    refine ⟨fun y => leafQT ?_, fun y => ?_⟩
    · have y := of_decide_eq_true y
      rw [hr, if_pos (by omega)]
      congr 2
      omega
    · have y := of_decide_eq_false y
      have hl := Lib.itoa_length_le (n / 10) (by omega) (by omega)
      refine ⟨⟨by omega, by omega⟩, maxI (by simp only [List.length_cons, List.length_nil]; omega), leafQT ?_⟩
      rw [hr, if_neg (by omega)]
      congr 2
      omega
  · exact (gives_fail hg).elim
theorem hDec : HoldsE P 51 (qDec 10000) := by
  have h0 : HoldsE P 51 (qDec 0) := by
    refine ⟨Tryd.f51, by kernel_rfl, by kernel_rfl, fun args av hg => ?_⟩
    unfold qDec at hg
    split at hg
    · obtain ⟨⟨q1, q2⟩, rfl⟩ := givesIff hg
      omega
    · exact (gives_fail hg).elim
  exact dec_step (B := 1000) (.inr (by omega)) (by omega) (dec_step (B := 100) (.inr (by omega)) (by omega) (dec_step (B := 10) (.inr (by omega)) (by omega) (dec_step (B := 0) (.inl (by omega)) (by omega) h0)))
def termT (l n : Int) : List UInt8 := if n < 0 then 45 :: (if l = 3 then frT (mdR (-n)) else Lib.itoa (-n) ++ [UInt8.ofNat (120 + l.toNat)]) else 43 :: (if l = 3 then frT (mdR n) else Lib.itoa n ++ [UInt8.ofNat (120 + l.toNat)])
def qTerm : PSpec
  | [.v (.one (.sym .i64 l)), .v (.one (.sym .i64 n))] => .iff ((0 ≤ l ∧ l ≤ 3) ∧ -1000 ≤ n ∧ n ≤ 1000) (.v (.one (.str (termT l n))))
  | _ => .fail
theorem let_at {l : Int} (h0 : 0 ≤ l) (h1 : l < 3) : List.take (IntKind.i64.wrap (l + 1) - l).toNat (List.drop l.toNat [(120 : UInt8), 121, 122]) = [UInt8.ofNat (120 + l.toNat)] := by
  rw [wr_id (by omega) (by omega)]
  have : l = 0 ∨ l = 1 ∨ l = 2 := by omega
  rcases this with e | e | e <;> subst e <;> rfl
theorem hTerm : Holds P (YD 10000 stdOn) 21 qTerm := by
  refine holdsA (fn := Tryd.f21) noAnn 10000 rfl (by kernel_rfl) (by kernel_rfl) fun args av hg => ?_
  unfold qTerm at hg
  split at hg
  · rename_i l n
    obtain ⟨⟨⟨q1, q2⟩, q3⟩, rfl⟩ := givesIff hg
    refine ⟨rfl, .string ⟨(termT l n).toArray⟩, rfl, ?_⟩
    rw [nftrm]
    have w1 : IntKind.i64.wrap (0 - n) = -n := wneg q3
    have w2 : IntKind.i64.wrap (l + 1) = l + 1 := wr_id (by omega) (by omega)
    have f1 := frTL n
    have f2 := frTL (-n)
    rw [w1]
    refine ⟨fun y => ⟨fun z => ⟨maxI (by simp only [List.length_cons, List.length_nil]; omega), leafQT ?_⟩, fun z => ?_⟩, fun y => ⟨fun z => ⟨maxI (by simp only [List.length_cons, List.length_nil]; omega), leafQT ?_⟩, fun z => ?_⟩⟩
    · rw [termT, if_pos (of_decide_eq_true y), if_pos (of_decide_eq_true z)]
      rfl
    · have y := of_decide_eq_true y
      have z := of_decide_eq_false z
      have hl := itoaL (v := -n) (by omega)
      rw [let_at q1 (by omega), w2]
      refine ⟨⟨by omega, by omega⟩, maxI (by simp only [List.length_cons, List.length_nil]; omega), ⟨q1, by omega, by show l + 1 ≤ 3; omega⟩, maxI (by simp only [List.length_append, List.length_cons, List.length_nil]; omega), leafQT ?_⟩
      rw [termT, if_pos y, if_neg z]
      rfl
    · rw [termT, if_neg (of_decide_eq_false y), if_pos (of_decide_eq_true z)]
      rfl
    · have y := of_decide_eq_false y
      have z := of_decide_eq_false z
      have hl := itoaL q3
      rw [let_at q1 (by omega), w2]
      refine ⟨⟨by omega, by omega⟩, maxI (by simp only [List.length_cons, List.length_nil]; omega), ⟨q1, by omega, by show l + 1 ≤ 3; omega⟩, maxI (by simp only [List.length_append, List.length_cons, List.length_nil]; omega), leafQT ?_⟩
      rw [termT, if_neg y, if_neg z]
      rfl
  · exact (gives_fail hg).elim
def YE (o : OnB) : Sums := (YD 10000 o).add 21 qTerm
theorem pYD (o : OnB) : OkS P (YD 10000 o) := (pYC o).add fine hDec
theorem pYE (o : OnB) : OkS P (YE o) := (pYD o).add1 fine (pYD stdOn) hTerm
end Go.AM
