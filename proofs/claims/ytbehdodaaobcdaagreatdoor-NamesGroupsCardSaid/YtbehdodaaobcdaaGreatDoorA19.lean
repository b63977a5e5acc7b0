import Derived.WalkKit
import Derived.Test.YtbehdodaaobcdaaGreatDoorA18
set_option maxHeartbeats 4000000
namespace Go.Dist
open Go
theorem wr_id {n : Int} (h1 : -9000000000000000000 ≤ n) (h2 : n ≤ 9000000000000000000) : IntKind.i64.wrap n = n := by
  rw [IntKind.wrap_i64]
  omega
theorem mul_bd {a b A B : Int} (ha : -A ≤ a ∧ a ≤ A) (hb : -B ≤ b ∧ b ≤ B) : -(A * B) ≤ a * b ∧ a * b ≤ A * B := by
  have h1 := Int.mul_nonneg (show 0 ≤ A - a by omega) (show 0 ≤ B + b by omega)
  have h2 := Int.mul_nonneg (show 0 ≤ A + a by omega) (show 0 ≤ B - b by omega)
  have h3 := Int.mul_nonneg (show 0 ≤ A - a by omega) (show 0 ≤ B - b by omega)
  have h4 := Int.mul_nonneg (show 0 ≤ A + a by omega) (show 0 ≤ B + b by omega)
  have e1 : (A - a) * (B + b) + (A + a) * (B - b) = 2 * (A * B) - 2 * (a * b) := by grind
  have e2 : (A - a) * (B - b) + (A + a) * (B + b) = 2 * (A * B) + 2 * (a * b) := by grind
  omega
end Go.Dist
open Go Go.AM Go.Proofs
namespace Go.AM
open Dist
def B1 (x : Int) : Prop := -1000 ≤ x ∧ x ≤ 1000
theorem beyond1 {x : Int} : beyond x 1000 = false ↔ B1 x := by
  have e : IntKind.i64.wrap (0 - 1000) = -1000 := by decide
  unfold beyond B1
  rw [e]
  simp only [Bool.or_eq_false_iff, decide_eq_false_iff_not]
  omega
theorem over9_false {a b c d e f g h i : Int} : over9 a b c d e f g h i = false ↔ B1 a ∧ B1 b ∧ B1 c ∧ B1 d ∧ B1 e ∧ B1 f ∧ B1 g ∧ B1 h ∧ B1 i := by
  unfold over9
  simp only [Bool.or_eq_false_iff, beyond1]
def detI (a b c d e f g h i : Int) : Int := a * (e * i - f * h) + b * (f * g - d * i) + c * (d * h - e * g)
theorem cof_id {a b c d : Int} (ha : B1 a) (hb : B1 b) (hc : B1 c) (hd : B1 d) : cof a b c d = a * d - b * c ∧ -2000000 ≤ a * d - b * c ∧ a * d - b * c ≤ 2000000 := by
  have h1 := mul_bd ha hd
  have h2 := mul_bd hb hc
  unfold cof
  rw [wr_id (n := a * d) (by omega) (by omega), wr_id (n := b * c) (by omega) (by omega), wr_id (by omega) (by omega)]
  exact ⟨rfl, by omega, by omega⟩
theorem det9_id {a b c d e f g h i : Int} (ho : over9 a b c d e f g h i = false) : det9 a b c d e f g h i = detI a b c d e f g h i := by
  obtain ⟨ha, hb, hc, hd, he, hf, hg, hh, hi⟩ := over9_false.1 ho
  obtain ⟨e1, k1⟩ := cof_id he hf hh hi
  obtain ⟨e2, k2⟩ := cof_id hf hd hi hg
  obtain ⟨e3, k3⟩ := cof_id hd he hg hh
  have m1 := mul_bd ha k1
  have m2 := mul_bd hb k2
  have m3 := mul_bd hc k3
  unfold det9 detI
  rw [e1, e2, e3, wr_id (n := a * (e * i - f * h)) (by omega) (by omega), wr_id (n := b * (f * g - d * i)) (by omega) (by omega), wr_id (n := c * (d * h - e * g)) (by omega) (by omega),
    wr_id (n := a * (e * i - f * h) + b * (f * g - d * i)) (by omega) (by omega), wr_id (by omega) (by omega)]
theorem pr_id {a b c p s v : Int} (ha : B1 a) (hb : B1 b) (hc : B1 c) (hp : B1 p) (hs : B1 s) (hv : B1 v) : pr a b c p s v = a * p + b * s + c * v := by
  have m1 := mul_bd ha hp
  have m2 := mul_bd hb hs
  have m3 := mul_bd hc hv
  unfold pr
  rw [wr_id (n := a * p) (by omega) (by omega), wr_id (n := b * s) (by omega) (by omega), wr_id (n := c * v) (by omega) (by omega), wr_id (n := a * p + b * s) (by omega) (by omega), wr_id (by omega) (by omega)]
end Go.AM
open Go Go.AM Go.Proofs
namespace Go.AM
open Dist
def opE (a b c d e f g h i x y z : Int) : Int := if tbad x y z then 3 else if matE a b c d e f g h i = 3 then 3 else if matE a b c d e f g h i = 4 then 4 else 0
theorem matE_cases (a b c d e f g h i : Int) : (matE a b c d e f g h i = 4 ∧ over9 a b c d e f g h i = true) ∨ (matE a b c d e f g h i = 3 ∧ over9 a b c d e f g h i = false) ∨
    (matE a b c d e f g h i = 0 ∧ over9 a b c d e f g h i = false ∧ (detI a b c d e f g h i = 1 ∨ detI a b c d e f g h i = -1)) := by
  unfold matE
  cases ho : over9 a b c d e f g h i with
  | true => exact .inl ⟨by simp, rfl⟩
  | false =>
    rw [det9_id ho]
    right
    by_cases h1 : detI a b c d e f g h i = 1
    · exact .inr ⟨by simp [h1], rfl, .inl h1⟩
    · by_cases h2 : detI a b c d e f g h i = -1
      · exact .inr ⟨by simp [h2], rfl, .inr h2⟩
      · exact .inl ⟨by simp [h1, h2], rfl⟩
theorem matE_of {a b c d e f g h i : Int} (ho : over9 a b c d e f g h i = false) (hd : detI a b c d e f g h i = 1 ∨ detI a b c d e f g h i = -1) : matE a b c d e f g h i = 0 := by
  unfold matE
  rw [ho, det9_id ho]
  rcases hd with hd | hd <;> simp [hd]
theorem tbad_false {x y z : Int} : tbad x y z = false ↔ (0 ≤ x ∧ x < 24) ∧ (0 ≤ y ∧ y < 24) ∧ (0 ≤ z ∧ z < 24) := by
  unfold tbad
  simp only [Bool.or_eq_false_iff, decide_eq_false_iff_not]
  omega
theorem pr_one (p : Int) {s v : Int} (hp : B1 p) (hs : B1 s) (hv : B1 v) : pr 1 0 0 p s v = p ∧ pr 0 1 0 s p v = p ∧ pr 0 0 1 s v p = p := by
  have h1 : B1 1 := by unfold B1; omega
  have h0 : B1 0 := by unfold B1; omega
  rw [pr_id h1 h0 h0 hp hs hv, pr_id h0 h1 h0 hs hp hv, pr_id h0 h0 h1 hs hv hp]
  omega
theorem mulE_one (p q r s t u v w k l m n : Int) : mulE 1 0 0 0 1 0 0 0 1 0 0 0 p q r s t u v w k l m n = opE p q r s t u v w k l m n := by
  have e1 : matE 1 0 0 0 1 0 0 0 1 = 0 := by decide
  have e2 : tbad 0 0 0 = false := by decide
  unfold mulE opE
  rw [e1, e2]
  rcases matE_cases p q r s t u v w k with ⟨h2, _⟩ | ⟨h2, _⟩ | ⟨h2, h3, _⟩
  · simp [h2]
  · simp [h2]
  · obtain ⟨hp, hq, hr, hs, ht, hu, hv, hw, hk⟩ := over9_false.1 h3
    have : mulO 1 0 0 0 1 0 0 0 1 0 0 0 p q r s t u v w k l m n = false := by
      unfold mulO
      rw [(pr_one p hp hs hv).1, (pr_one q hq ht hw).1, (pr_one r hr hu hk).1, (pr_one s hs hp hv).2.1, (pr_one t ht hq hw).2.1, (pr_one u hu hr hk).2.1, (pr_one v hv hp hs).2.2, (pr_one w hw hq ht).2.2, (pr_one k hk hr hu).2.2]
      exact h3
    simp [h2, this]
end Go.AM
open Go Go.AM Go.Proofs
namespace Go.AM
open Dist
def tn (u v w x y z : Int) : Int := IntKind.i64.wrap (IntKind.i64.wrap (IntKind.i64.wrap (0 + IntKind.i64.wrap (u * x)) + IntKind.i64.wrap (v * y)) + IntKind.i64.wrap (w * z))
end Go.AM
open Go Go.AM Go.Proofs
namespace Go.AM
def icmp (a b : Int) : Int := if a < b then -1 else if b < a then 1 else 0
def thenC (c d : Int) : Int := if c = 0 then d else c
theorem leafCon {ee n : Int} (h : ee = n) : (AV.v (.one (.con .i64 n))).valOf = some (.int .i64 ee) := by subst h; rfl
def qCmp : PSpec
  | [.v (.one (.sym .i64 a)), .v (.one (.sym .i64 b))] => .ok (I (icmp a b))
  | _ => .fail
theorem nfcmp (a b : Int) (K : KV) : call P O6 noAnn 100000 Tryz.f65 [I a, I b] [] K = (((!decide (a=a))=true->((!decide (b=b))=true->K (.v (.one (.con .i64 0))) [])/\((!decide (b=b))=false->K (.v (.one (.con .i64 (-1:Int)))) []))/\((!decide (a=a))=false->((!decide (b=b))=true->K (.v (.one (.con .i64 1))) [])/\((!decide (b=b))=false->(decide (a<b)=true->K (.v (.one (.con .i64 (-1:Int)))) [])/\(decide (a<b)=false->(decide (b<a)=true->K (.v (.one (.con .i64 1))) [])/\(decide (b<a)=false->K (.v (.one (.con .i64 0))) []))))) := by kernel_rfl
theorem ohCmp : Holds P O6 65 qCmp := by
  refine holds_ok (fn := Tryz.f65) (by kernel_rfl) (by kernel_rfl) fun args av hg => ?_
  unfold qCmp at hg
  split at hg
  · rename_i a b
    rw [gives_ok hg]
    refine ⟨rfl, .int .i64 (icmp a b), rfl, ?_⟩
    rw [nfcmp]
    clear hg
    repeat' (first | apply And.intro | intro _)
    all_goals first
      | rfl
      | refine leafCon ?_
    all_goals simp only [decide_eq_true_eq, decide_eq_false_iff_not, Bool.not_eq_true', not_true_eq_false] at *
    all_goals (unfold icmp; simp only [*, if_true, if_false])
  · exact (gives_fail hg).elim
def cmp9 (a b c d e f g h i p q r s t u v w k : Int) : Int := thenC (icmp a p) (thenC (icmp b q) (thenC (icmp c r) (thenC (icmp d s) (thenC (icmp e t) (thenC (icmp f u) (thenC (icmp g v) (thenC (icmp h w) (icmp i k))))))))
def qVcmp : PSpec
  | [.v (.agg [.sym .i64 a, .sym .i64 b, .sym .i64 c, .sym .i64 d, .sym .i64 e, .sym .i64 f, .sym .i64 g, .sym .i64 h, .sym .i64 i]), .v (.agg [.sym .i64 p, .sym .i64 q, .sym .i64 r, .sym .i64 s, .sym .i64 t, .sym .i64 u, .sym .i64 v, .sym .i64 w, .sym .i64 k])] => .ok (I (cmp9 a b c d e f g h i p q r s t u v w k))
  | _ => .fail
theorem nfvcmp (a b c d e f g h i p q r s t u v w k : Int) (K : KV) : call P O6 noAnn 100000 Tryz.f47 [.v (.agg [.sym .i64 a, .sym .i64 b, .sym .i64 c, .sym .i64 d, .sym .i64 e, .sym .i64 f, .sym .i64 g, .sym .i64 h, .sym .i64 i]), .v (.agg [.sym .i64 p, .sym .i64 q, .sym .i64 r, .sym .i64 s, .sym .i64 t, .sym .i64 u, .sym .i64 v, .sym .i64 w, .sym .i64 k])] [] K = ((decide (a<p)=true->K (.v (.one (.con .i64 (-1:Int)))) [])/\(decide (a<p)=false->(decide (p<a)=true->K (.v (.one (.con .i64 1))) [])/\(decide (p<a)=false->(decide (b<q)=true->K (.v (.one (.con .i64 (-1:Int)))) [])/\(decide (b<q)=false->(decide (q<b)=true->K (.v (.one (.con .i64 1))) [])/\(decide (q<b)=false->(decide (c<r)=true->K (.v (.one (.con .i64 (-1:Int)))) [])/\(decide (c<r)=false->(decide (r<c)=true->K (.v (.one (.con .i64 1))) [])/\(decide (r<c)=false->(decide (d<s)=true->K (.v (.one (.con .i64 (-1:Int)))) [])/\(decide (d<s)=false->(decide (s<d)=true->K (.v (.one (.con .i64 1))) [])/\(decide (s<d)=false->(decide (e<t)=true->K (.v (.one (.con .i64 (-1:Int)))) [])/\(decide (e<t)=false->(decide (t<e)=true->K (.v (.one (.con .i64 1))) [])/\(decide (t<e)=false->(decide (f<u)=true->K (.v (.one (.con .i64 (-1:Int)))) [])/\(decide (f<u)=false->(decide (u<f)=true->K (.v (.one (.con .i64 1))) [])/\(decide (u<f)=false->(decide (g<v)=true->K (.v (.one (.con .i64 (-1:Int)))) [])/\(decide (g<v)=false->(decide (v<g)=true->K (.v (.one (.con .i64 1))) [])/\(decide (v<g)=false->(decide (h<w)=true->K (.v (.one (.con .i64 (-1:Int)))) [])/\(decide (h<w)=false->(decide (w<h)=true->K (.v (.one (.con .i64 1))) [])/\(decide (w<h)=false->(decide (i<k)=true->K (.v (.one (.con .i64 (-1:Int)))) [])/\(decide (i<k)=false->(decide (k<i)=true->K (.v (.one (.con .i64 1))) [])/\(decide (k<i)=false->K (.v (.one (.con .i64 0))) []))))))))))))))))))) := by kernel_rfl
theorem ohVcmp : Holds P O6 47 qVcmp := by
  refine holds_ok (fn := Tryz.f47) (by kernel_rfl) (by kernel_rfl) fun args av hg => ?_
  unfold qVcmp at hg
  split at hg
  · rename_i a b c d e f g h i p q r s t u v w k
    rw [gives_ok hg]
    refine ⟨rfl, .int .i64 (cmp9 a b c d e f g h i p q r s t u v w k), rfl, ?_⟩
    rw [nfvcmp]
    clear hg
    repeat' (first | apply And.intro | intro _)
    all_goals first
      | rfl
      | refine leafCon ?_
    all_goals simp only [decide_eq_true_eq, decide_eq_false_iff_not] at *
    all_goals (unfold cmp9 thenC icmp; simp only [*, if_true, if_false]; try rfl)
  · exact (gives_fail hg).elim
def O7 : Sums := (O6.add 65 qCmp).add 47 qVcmp
end Go.AM
open Go Go.AM Go.Proofs
namespace Go.AM
theorem leafSym {ee n : Int} (h : ee = n) : (AV.v (.one (.sym .i64 n))).valOf = some (.int .i64 ee) := by subst h; rfl
def cmp12 (a b c d e f g h i x y z p q r s t u v w k l m n : Int) : Int := thenC (cmp9 a b c d e f g h i p q r s t u v w k) (thenC (icmp x l) (thenC (icmp y m) (icmp z n)))
def qOcmp : PSpec
  | [.v (.agg [.sym .i64 a, .sym .i64 b, .sym .i64 c, .sym .i64 d, .sym .i64 e, .sym .i64 f, .sym .i64 g, .sym .i64 h, .sym .i64 i, .sym .i64 x, .sym .i64 y, .sym .i64 z]), .v (.agg [.sym .i64 p, .sym .i64 q, .sym .i64 r, .sym .i64 s, .sym .i64 t, .sym .i64 u, .sym .i64 v, .sym .i64 w, .sym .i64 k, .sym .i64 l, .sym .i64 m, .sym .i64 n])] => .ok (I (cmp12 a b c d e f g h i x y z p q r s t u v w k l m n))
  | _ => .fail
theorem nfocmp (a b c d e f g h i x y z p q r s t u v w k l m n : Int) (K : KV) : call P O7 noAnn 100000 Tryz.f41 [.v (.agg [.sym .i64 a, .sym .i64 b, .sym .i64 c, .sym .i64 d, .sym .i64 e, .sym .i64 f, .sym .i64 g, .sym .i64 h, .sym .i64 i, .sym .i64 x, .sym .i64 y, .sym .i64 z]), .v (.agg [.sym .i64 p, .sym .i64 q, .sym .i64 r, .sym .i64 s, .sym .i64 t, .sym .i64 u, .sym .i64 v, .sym .i64 w, .sym .i64 k, .sym .i64 l, .sym .i64 m, .sym .i64 n])] [] K = (((!decide (cmp9 a b c d e f g h i p q r s t u v w k=0))=true->K (.v (.one (.sym .i64 (cmp9 a b c d e f g h i p q r s t u v w k)))) [])/\((!decide (cmp9 a b c d e f g h i p q r s t u v w k=0))=false->((!decide (icmp x l=0))=true->K (.v (.one (.sym .i64 (icmp x l)))) [])/\((!decide (icmp x l=0))=false->((!decide (icmp y m=0))=true->K (.v (.one (.sym .i64 (icmp y m)))) [])/\((!decide (icmp y m=0))=false->((!decide (icmp z n=0))=true->K (.v (.one (.sym .i64 (icmp z n)))) [])/\((!decide (icmp z n=0))=false->K (.v (.one (.con .i64 0))) []))))) := by kernel_rfl
theorem ohOcmp : Holds P O7 41 qOcmp := by
  refine holds_ok (fn := Tryz.f41) (by kernel_rfl) (by kernel_rfl) fun args av hg => ?_
  unfold qOcmp at hg
  split at hg
  · rename_i a b c d e f g h i x y z p q r s t u v w k l m n
    rw [gives_ok hg]
    refine ⟨rfl, .int .i64 (cmp12 a b c d e f g h i x y z p q r s t u v w k l m n), rfl, ?_⟩
    rw [nfocmp]
    clear hg
    unfold cmp12
    generalize cmp9 a b c d e f g h i p q r s t u v w k = c0
    generalize icmp x l = c1
    generalize icmp y m = c2
    generalize icmp z n = c3
    repeat' (first | apply And.intro | intro _)
    all_goals first
      | rfl
      | refine leafCon ?_
      | refine leafSym ?_
    all_goals simp only [decide_eq_true_eq, decide_eq_false_iff_not, Bool.not_eq_true', Bool.not_eq_false', Bool.not_eq_true, Bool.not_eq_false] at *
    all_goals (unfold thenC; simp only [*, if_true, if_false])
  · exact (gives_fail hg).elim
def O8 : Sums := O7.add 41 qOcmp
theorem icmp_cases (a b : Int) : (a < b ∧ icmp a b = -1) ∨ (a = b ∧ icmp a b = 0) ∨ (b < a ∧ icmp a b = 1) := by
  unfold icmp
  by_cases h1 : a < b
  · exact .inl ⟨h1, if_pos h1⟩
  · by_cases h2 : b < a
    · exact .inr (.inr ⟨h2, by rw [if_neg h1, if_pos h2]⟩)
    · exact .inr (.inl ⟨by omega, by rw [if_neg h1, if_neg h2]⟩)
theorem icmp_zero {a b : Int} : icmp a b = 0 ↔ a = b := by
  rcases icmp_cases a b with ⟨h1, h2⟩ | ⟨h1, h2⟩ | ⟨h1, h2⟩ <;> rw [h2] <;> omega
end Go.AM
open Go Go.AM Go.Proofs
namespace Go.AM
def modR (a b : Int) : Int := if a.tmod b < 0 then IntKind.i64.wrap (a.tmod b + b) else a.tmod b
def rdet9 (a b c d e f g h i : Int) : Int := IntKind.i64.wrap (IntKind.i64.wrap (IntKind.i64.wrap (0 + IntKind.i64.wrap (a * cof e f h i)) + IntKind.i64.wrap (b * cof f d i g)) + IntKind.i64.wrap (c * cof d e g h))
def qRmod : PSpec
  | [.v (.one (.sym .i64 a)), .v (.one (.sym .i64 b))] => .iff (b ≠ 0) (I (modR a b))
  | _ => .fail
def qWithin : PSpec
  | [.v (.agg [.sym .i64 a, .sym .i64 b, .sym .i64 c, .sym .i64 d, .sym .i64 e, .sym .i64 f, .sym .i64 g, .sym .i64 h, .sym .i64 i])] => .ok (B (!over9 a b c d e f g h i))
  | _ => .fail
def qRdet : PSpec
  | [.v (.agg [.sym .i64 a, .sym .i64 b, .sym .i64 c, .sym .i64 d, .sym .i64 e, .sym .i64 f, .sym .i64 g, .sym .i64 h, .sym .i64 i])] => .ok (I (rdet9 a b c d e f g h i))
  | _ => .fail
theorem nffmod (a b : Int) (K : KV) : call P O8 noAnn 100000 Tryz.f132 [I a, I b] [] K = ((b = (0 : Int) → False) ∧ (decide (a.tmod b < (0 : Int)) = true → K (AV.v (PV.one (SV.sym IntKind.i64 (IntKind.i64.wrap (a.tmod b + b))))) []) ∧ (decide (a.tmod b < (0 : Int)) = false → K (AV.v (PV.one (SV.sym IntKind.i64 (a.tmod b)))) [])) := by kernel_rfl
theorem nfwin (a b c d e f g h i : Int) (K : KV) : call P O8 noAnn 100000 Tryz.f107 [.v (.agg [.sym .i64 a, .sym .i64 b, .sym .i64 c, .sym .i64 d, .sym .i64 e, .sym .i64 f, .sym .i64 g, .sym .i64 h, .sym .i64 i])] [] K = ((decide (a<(-1000:Int))=true->K (.v (.one (.cb false))) [])/\(decide (a<(-1000:Int))=false->(decide ((1000:Int)<a)=true->K (.v (.one (.cb false))) [])/\(decide ((1000:Int)<a)=false->(decide (b<(-1000:Int))=true->K (.v (.one (.cb false))) [])/\(decide (b<(-1000:Int))=false->(decide ((1000:Int)<b)=true->K (.v (.one (.cb false))) [])/\(decide ((1000:Int)<b)=false->(decide (c<(-1000:Int))=true->K (.v (.one (.cb false))) [])/\(decide (c<(-1000:Int))=false->(decide ((1000:Int)<c)=true->K (.v (.one (.cb false))) [])/\(decide ((1000:Int)<c)=false->(decide (d<(-1000:Int))=true->K (.v (.one (.cb false))) [])/\(decide (d<(-1000:Int))=false->(decide ((1000:Int)<d)=true->K (.v (.one (.cb false))) [])/\(decide ((1000:Int)<d)=false->(decide (e<(-1000:Int))=true->K (.v (.one (.cb false))) [])/\(decide (e<(-1000:Int))=false->(decide ((1000:Int)<e)=true->K (.v (.one (.cb false))) [])/\(decide ((1000:Int)<e)=false->(decide (f<(-1000:Int))=true->K (.v (.one (.cb false))) [])/\(decide (f<(-1000:Int))=false->(decide ((1000:Int)<f)=true->K (.v (.one (.cb false))) [])/\(decide ((1000:Int)<f)=false->(decide (g<(-1000:Int))=true->K (.v (.one (.cb false))) [])/\(decide (g<(-1000:Int))=false->(decide ((1000:Int)<g)=true->K (.v (.one (.cb false))) [])/\(decide ((1000:Int)<g)=false->(decide (h<(-1000:Int))=true->K (.v (.one (.cb false))) [])/\(decide (h<(-1000:Int))=false->(decide ((1000:Int)<h)=true->K (.v (.one (.cb false))) [])/\(decide ((1000:Int)<h)=false->(decide (i<(-1000:Int))=true->K (.v (.one (.cb false))) [])/\(decide (i<(-1000:Int))=false->(decide ((1000:Int)<i)=true->K (.v (.one (.cb false))) [])/\(decide ((1000:Int)<i)=false->K (.v (.one (.cb true))) []))))))))))))))))))) := by kernel_rfl
open IntKind in
theorem nfrdet (a b c d e f g h i : Int) (K : KV) : call P O8 noAnn 100000 Tryz.f108 [.v (.agg [.sym .i64 a, .sym .i64 b, .sym .i64 c, .sym .i64 d, .sym .i64 e, .sym .i64 f, .sym .i64 g, .sym .i64 h, .sym .i64 i])] [] K = (K (.v (.one (.sym .i64 (i64.wrap (i64.wrap (i64.wrap ((0:Int)+i64.wrap (a*i64.wrap (i64.wrap (e*i)-i64.wrap (f*h))))+i64.wrap (b*i64.wrap (i64.wrap (f*g)-i64.wrap (d*i))))+i64.wrap (c*i64.wrap (i64.wrap (d*h)-i64.wrap (e*g)))))))) []) := by kernel_rfl
theorem ohRmod : Holds P O8 132 qRmod := by
  refine holds_ok (fn := Tryz.f132) (by kernel_rfl) (by kernel_rfl) fun args av h => ?_
  unfold qRmod at h
  split at h
  · rename_i a b
    rcases h with h | ⟨p, h, hp⟩
    · cases h
    · injection h with h1 h2
      subst h2
      rw [← h1] at hp
      refine ⟨rfl, .int .i64 (modR a b), rfl, (nffmod a b _).mpr ⟨hp, fun h => ⟨?_, rfl⟩, fun h => ⟨?_, rfl⟩⟩⟩
      · have h : a.tmod b < 0 := by simpa using h
        exact leafSym (by unfold modR; rw [if_pos h])
      · have h : ¬ a.tmod b < 0 := by simpa using h
        exact leafSym (by unfold modR; rw [if_neg h])
  · exact (gives_fail h).elim
theorem ohWithin : Holds P O8 107 qWithin := by
  refine holds_ok (fn := Tryz.f107) (by kernel_rfl) (by kernel_rfl) fun args av hg => ?_
  unfold qWithin at hg
  split at hg
  · rename_i a b c d e f g h i
    rw [gives_ok hg]
    refine ⟨rfl, .bool (!over9 a b c d e f g h i), rfl, ?_⟩
    rw [nfwin]
    clear hg
    have e : IntKind.i64.wrap (0 - 1000) = -1000 := by decide
    unfold over9 beyond
    rw [e]
    repeat' (first | apply leafB | apply leafS | apply And.intro | intro _)
    all_goals simp only [*, Bool.or_true, Bool.true_or, Bool.or_false, Bool.not_true, Bool.not_false]
  · exact (gives_fail hg).elim
theorem ohRdet : Holds P O8 108 qRdet := by
  refine holds_ok (fn := Tryz.f108) (by kernel_rfl) (by kernel_rfl) fun args av h => ?_
  unfold qRdet at h
  split at h
  · rw [gives_ok h]
    refine ⟨rfl, _, rfl, ?_⟩
    rw [nfrdet]
    exact ⟨rfl, rfl⟩
  · exact (gives_fail h).elim
def O9 : Sums := ((O8.add 132 qRmod).add 107 qWithin).add 108 qRdet
end Go.AM
open Go Go.AM Go.Proofs
namespace Go.AM
open Dist
theorem modR24 (n : Int) : modR n 24 = n % 24 := by
  have h3 := Int.tmod_eq_emod (a := n) (b := 24)
  have h4 : -24 < n.tmod 24 ∧ n.tmod 24 < 24 ∧ (n.tmod 24 - n) % 24 = 0 := by
    split at h3
    · omega
    · simp only [Int.natAbs] at h3
      omega
  unfold modR
  split
  · rw [wr_id (by omega) (by omega)]
    omega
  · omega
theorem rdet9_id {a b c d e f g h i : Int} (ho : over9 a b c d e f g h i = false) : rdet9 a b c d e f g h i = detI a b c d e f g h i := by
  have : rdet9 a b c d e f g h i = det9 a b c d e f g h i := by
    unfold rdet9 det9
    obtain ⟨ha, hb, hc, hd, he, hf, hg, hh, hi⟩ := over9_false.1 ho
    obtain ⟨e1, k1⟩ := cof_id he hf hh hi
    have m1 := mul_bd ha k1
    rw [e1, wr_id (n := a * (e * i - f * h)) (by omega) (by omega), wr_id (n := 0 + a * (e * i - f * h)) (by omega) (by omega), Int.zero_add]
  rw [this, det9_id ho]
theorem tbad_mod {x y z : Int} : tbad x y z = true ↔ ¬ (modR x 24 = x ∧ modR y 24 = y ∧ modR z 24 = z) := by
  rw [modR24, modR24, modR24]
  cases h : tbad x y z with
  | false =>
    have := tbad_false.1 h
    simp only [Bool.false_eq_true, false_iff, Classical.not_not]
    omega
  | true =>
    simp only [true_iff]
    intro hh
    have : tbad x y z = false := tbad_false.2 (by omega)
    rw [h] at this
    cases this
theorem opE_doc (a b c d e f g h i x y z : Int) : opE a b c d e f g h i x y z =
    if ¬ (modR x 24 = x ∧ modR y 24 = y ∧ modR z 24 = z) ∨ (over9 a b c d e f g h i = false ∧ rdet9 a b c d e f g h i ≠ 1 ∧ rdet9 a b c d e f g h i ≠ -1) then 3 else if over9 a b c d e f g h i = true then 4 else 0 := by
  unfold opE
  cases ht : tbad x y z with
  | true => rw [if_pos rfl, if_pos (.inl (tbad_mod.1 ht))]
  | false =>
    have hm : modR x 24 = x ∧ modR y 24 = y ∧ modR z 24 = z := by
      have h1 := tbad_false.1 ht
      rw [modR24, modR24, modR24]
      omega
    rcases matE_cases a b c d e f g h i with ⟨h1, h2⟩ | ⟨h1, h2⟩ | ⟨h1, h2, h3⟩
    · simp [h1, h2, hm]
    · have hd : detI a b c d e f g h i ≠ 1 ∧ detI a b c d e f g h i ≠ -1 := by
        refine ⟨fun h => ?_, fun h => ?_⟩
        · have := matE_of h2 (.inl h)
          rw [h1] at this
          cases this
        · have := matE_of h2 (.inr h)
          rw [h1] at this
          cases this
      rw [rdet9_id h2]
      simp [h1, h2, hd]
    · rw [rdet9_id h2]
      rcases h3 with h3 | h3 <;> simp [h1, h2, hm, h3]
end Go.AM
open Go Go.AM Go.Proofs
namespace Go.AM
open Dist
def cmp3 (a b c p q r : Int) : Int := thenC (icmp a p) (thenC (icmp b q) (icmp c r))
def qCmp3 : PSpec
  | [.v (.agg [.sym .i64 a, .sym .i64 b, .sym .i64 c]), .v (.agg [.sym .i64 p, .sym .i64 q, .sym .i64 r])] => .ok (I (cmp3 a b c p q r))
  | _ => .fail
theorem nfrcmp3 (a b c p q r : Int) (K : KV) : call P O9 noAnn 100000 Tryz.f141 [V a b c, V p q r] [] K = ((decide (a<p)=true->K (.v (.one (.con .i64 (-1:Int)))) [])/\(decide (a<p)=false->(decide (p<a)=true->K (.v (.one (.con .i64 1))) [])/\(decide (p<a)=false->(decide (b<q)=true->K (.v (.one (.con .i64 (-1:Int)))) [])/\(decide (b<q)=false->(decide (q<b)=true->K (.v (.one (.con .i64 1))) [])/\(decide (q<b)=false->(decide (c<r)=true->K (.v (.one (.con .i64 (-1:Int)))) [])/\(decide (c<r)=false->(decide (r<c)=true->K (.v (.one (.con .i64 1))) [])/\(decide (r<c)=false->K (.v (.one (.con .i64 0))) []))))))) := by kernel_rfl
theorem oh_rcmp3 : Holds P O9 141 qCmp3 := by
  refine holds_ok (fn := Tryz.f141) (by kernel_rfl) (by kernel_rfl) fun args av hg => ?_
  unfold qCmp3 at hg
  split at hg
  · rename_i a b c p q r
    rw [gives_ok hg]
    refine ⟨rfl, .int .i64 (cmp3 a b c p q r), rfl, ?_⟩
    rw [nfrcmp3]
    clear hg
    repeat' (first | apply And.intro | intro _)
    all_goals first
      | rfl
      | refine leafCon ?_
    all_goals simp only [decide_eq_true_eq, decide_eq_false_iff_not] at *
    all_goals (unfold cmp3 thenC icmp; simp only [*, if_true, if_false]; try rfl)
  · exact (gives_fail hg).elim
theorem nfrcmp9 (a b c d e f g h i p q r s t u v w k : Int) (K : KV) : call P O9 noAnn 100000 Tryz.f140 [.v (.agg [.sym .i64 a, .sym .i64 b, .sym .i64 c, .sym .i64 d, .sym .i64 e, .sym .i64 f, .sym .i64 g, .sym .i64 h, .sym .i64 i]), .v (.agg [.sym .i64 p, .sym .i64 q, .sym .i64 r, .sym .i64 s, .sym .i64 t, .sym .i64 u, .sym .i64 v, .sym .i64 w, .sym .i64 k])] [] K = ((decide (a<p)=true->K (.v (.one (.con .i64 ((-1:Int))))) [])/\(decide (a<p)=false->(decide (p<a)=true->K (.v (.one (.con .i64 ((1:Int))))) [])/\(decide (p<a)=false->(decide (b<q)=true->K (.v (.one (.con .i64 ((-1:Int))))) [])/\(decide (b<q)=false->(decide (q<b)=true->K (.v (.one (.con .i64 ((1:Int))))) [])/\(decide (q<b)=false->(decide (c<r)=true->K (.v (.one (.con .i64 ((-1:Int))))) [])/\(decide (c<r)=false->(decide (r<c)=true->K (.v (.one (.con .i64 ((1:Int))))) [])/\(decide (r<c)=false->(decide (d<s)=true->K (.v (.one (.con .i64 ((-1:Int))))) [])/\(decide (d<s)=false->(decide (s<d)=true->K (.v (.one (.con .i64 ((1:Int))))) [])/\(decide (s<d)=false->(decide (e<t)=true->K (.v (.one (.con .i64 ((-1:Int))))) [])/\(decide (e<t)=false->(decide (t<e)=true->K (.v (.one (.con .i64 ((1:Int))))) [])/\(decide (t<e)=false->(decide (f<u)=true->K (.v (.one (.con .i64 ((-1:Int))))) [])/\(decide (f<u)=false->(decide (u<f)=true->K (.v (.one (.con .i64 ((1:Int))))) [])/\(decide (u<f)=false->(decide (g<v)=true->K (.v (.one (.con .i64 ((-1:Int))))) [])/\(decide (g<v)=false->(decide (v<g)=true->K (.v (.one (.con .i64 ((1:Int))))) [])/\(decide (v<g)=false->(decide (h<w)=true->K (.v (.one (.con .i64 ((-1:Int))))) [])/\(decide (h<w)=false->(decide (w<h)=true->K (.v (.one (.con .i64 ((1:Int))))) [])/\(decide (w<h)=false->(decide (i<k)=true->K (.v (.one (.con .i64 ((-1:Int))))) [])/\(decide (i<k)=false->(decide (k<i)=true->K (.v (.one (.con .i64 ((1:Int))))) [])/\(decide (k<i)=false->K (.v (.one (.con .i64 0))) []))))))))))))))))))) := by kernel_rfl
theorem oh_rcmp9 : Holds P O9 140 qVcmp := by
  refine holds_ok (fn := Tryz.f140) (by kernel_rfl) (by kernel_rfl) fun args av hg => ?_
  unfold qVcmp at hg
  split at hg
  · rename_i a b c d e f g h i p q r s t u v w k
    rw [gives_ok hg]
    refine ⟨rfl, .int .i64 (cmp9 a b c d e f g h i p q r s t u v w k), rfl, ?_⟩
    rw [nfrcmp9]
    clear hg
    repeat' (first | apply And.intro | intro _)
    all_goals first
      | rfl
      | refine leafCon ?_
    all_goals simp only [decide_eq_true_eq, decide_eq_false_iff_not] at *
    all_goals (unfold cmp9 thenC icmp; simp only [*, if_true, if_false]; try rfl)
  · exact (gives_fail hg).elim
theorem nfrcmp12 (a b c d e f g h i x y z p q r s t u v w k l m n : Int) (K : KV) : call P O9 noAnn 100000 Tryz.f133 [.v (.agg [.sym .i64 a, .sym .i64 b, .sym .i64 c, .sym .i64 d, .sym .i64 e, .sym .i64 f, .sym .i64 g, .sym .i64 h, .sym .i64 i, .sym .i64 x, .sym .i64 y, .sym .i64 z]), .v (.agg [.sym .i64 p, .sym .i64 q, .sym .i64 r, .sym .i64 s, .sym .i64 t, .sym .i64 u, .sym .i64 v, .sym .i64 w, .sym .i64 k, .sym .i64 l, .sym .i64 m, .sym .i64 n])] [] K = ((decide (a<p)=true->K (.v (.one (.con .i64 ((-1:Int))))) [])/\(decide (a<p)=false->(decide (p<a)=true->K (.v (.one (.con .i64 ((1:Int))))) [])/\(decide (p<a)=false->(decide (b<q)=true->K (.v (.one (.con .i64 ((-1:Int))))) [])/\(decide (b<q)=false->(decide (q<b)=true->K (.v (.one (.con .i64 ((1:Int))))) [])/\(decide (q<b)=false->(decide (c<r)=true->K (.v (.one (.con .i64 ((-1:Int))))) [])/\(decide (c<r)=false->(decide (r<c)=true->K (.v (.one (.con .i64 ((1:Int))))) [])/\(decide (r<c)=false->(decide (d<s)=true->K (.v (.one (.con .i64 ((-1:Int))))) [])/\(decide (d<s)=false->(decide (s<d)=true->K (.v (.one (.con .i64 ((1:Int))))) [])/\(decide (s<d)=false->(decide (e<t)=true->K (.v (.one (.con .i64 ((-1:Int))))) [])/\(decide (e<t)=false->(decide (t<e)=true->K (.v (.one (.con .i64 ((1:Int))))) [])/\(decide (t<e)=false->(decide (f<u)=true->K (.v (.one (.con .i64 ((-1:Int))))) [])/\(decide (f<u)=false->(decide (u<f)=true->K (.v (.one (.con .i64 ((1:Int))))) [])/\(decide (u<f)=false->(decide (g<v)=true->K (.v (.one (.con .i64 ((-1:Int))))) [])/\(decide (g<v)=false->(decide (v<g)=true->K (.v (.one (.con .i64 ((1:Int))))) [])/\(decide (v<g)=false->(decide (h<w)=true->K (.v (.one (.con .i64 ((-1:Int))))) [])/\(decide (h<w)=false->(decide (w<h)=true->K (.v (.one (.con .i64 ((1:Int))))) [])/\(decide (w<h)=false->(decide (i<k)=true->K (.v (.one (.con .i64 ((-1:Int))))) [])/\(decide (i<k)=false->(decide (k<i)=true->K (.v (.one (.con .i64 ((1:Int))))) [])/\(decide (k<i)=false->(decide (x<l)=true->K (.v (.one (.con .i64 (-1:Int)))) [])/\(decide (x<l)=false->(decide (l<x)=true->K (.v (.one (.con .i64 1))) [])/\(decide (l<x)=false->(decide (y<m)=true->K (.v (.one (.con .i64 (-1:Int)))) [])/\(decide (y<m)=false->(decide (m<y)=true->K (.v (.one (.con .i64 1))) [])/\(decide (m<y)=false->(decide (z<n)=true->K (.v (.one (.con .i64 (-1:Int)))) [])/\(decide (z<n)=false->(decide (n<z)=true->K (.v (.one (.con .i64 1))) [])/\(decide (n<z)=false->K (.v (.one (.con .i64 0))) []))))))))))))))))))))))))) := by kernel_rfl
theorem oh_rcmp12 : Holds P O9 133 qOcmp := by
  refine holds_ok (fn := Tryz.f133) (by kernel_rfl) (by kernel_rfl) fun args av hg => ?_
  unfold qOcmp at hg
  split at hg
  · rename_i a b c d e f g h i x y z p q r s t u v w k l m n
    rw [gives_ok hg]
    refine ⟨rfl, .int .i64 (cmp12 a b c d e f g h i x y z p q r s t u v w k l m n), rfl, ?_⟩
    rw [nfrcmp12]
    clear hg
    repeat' (first | apply And.intro | intro _)
    all_goals first
      | rfl
      | refine leafCon ?_
    all_goals simp only [decide_eq_true_eq, decide_eq_false_iff_not] at *
    all_goals (unfold cmp12 cmp9 thenC icmp; simp only [*, if_true, if_false]; try rfl)
  · exact (gives_fail hg).elim
def rt (a b c l m n x : Int) : Int := modR (IntKind.i64.wrap (IntKind.i64.wrap (IntKind.i64.wrap (x + IntKind.i64.wrap (a * l)) + IntKind.i64.wrap (b * m)) + IntKind.i64.wrap (c * n))) 24
def qRmul : PSpec
  | [.v (.agg [.sym .i64 a, .sym .i64 b, .sym .i64 c, .sym .i64 d, .sym .i64 e, .sym .i64 f, .sym .i64 g, .sym .i64 h, .sym .i64 i, .sym .i64 x, .sym .i64 y, .sym .i64 z]), .v (.agg [.sym .i64 p, .sym .i64 q, .sym .i64 r, .sym .i64 s, .sym .i64 t, .sym .i64 u, .sym .i64 v, .sym .i64 w, .sym .i64 k, .sym .i64 l, .sym .i64 m, .sym .i64 n])] => .ok (.v (.agg [.sym .i64 (tn a b c p s v), .sym .i64 (tn a b c q t w), .sym .i64 (tn a b c r u k), .sym .i64 (tn d e f p s v), .sym .i64 (tn d e f q t w), .sym .i64 (tn d e f r u k), .sym .i64 (tn g h i p s v), .sym .i64 (tn g h i q t w), .sym .i64 (tn g h i r u k), .sym .i64 (rt a b c l m n x), .sym .i64 (rt d e f l m n y), .sym .i64 (rt g h i l m n z)]))
  | _ => .fail
open IntKind in
theorem nfrmul (a b c d e f g h i x y z p q r s t u v w k l m n : Int) (K : KV) : call P O9 noAnn 100000 Tryz.f111 [.v (.agg [.sym .i64 a, .sym .i64 b, .sym .i64 c, .sym .i64 d, .sym .i64 e, .sym .i64 f, .sym .i64 g, .sym .i64 h, .sym .i64 i, .sym .i64 x, .sym .i64 y, .sym .i64 z]), .v (.agg [.sym .i64 p, .sym .i64 q, .sym .i64 r, .sym .i64 s, .sym .i64 t, .sym .i64 u, .sym .i64 v, .sym .i64 w, .sym .i64 k, .sym .i64 l, .sym .i64 m, .sym .i64 n])] [] K = (((24:Int)=0->False)/\((24:Int)=0->False)/\((24:Int)=0->False)/\K (.v (.agg [.sym .i64 (i64.wrap (i64.wrap (i64.wrap ((0:Int)+i64.wrap (a*p))+i64.wrap (b*s))+i64.wrap (c*v))),.sym .i64 (i64.wrap (i64.wrap (i64.wrap ((0:Int)+i64.wrap (a*q))+i64.wrap (b*t))+i64.wrap (c*w))),.sym .i64 (i64.wrap (i64.wrap (i64.wrap ((0:Int)+i64.wrap (a*r))+i64.wrap (b*u))+i64.wrap (c*k))),.sym .i64 (i64.wrap (i64.wrap (i64.wrap ((0:Int)+i64.wrap (d*p))+i64.wrap (e*s))+i64.wrap (f*v))),.sym .i64 (i64.wrap (i64.wrap (i64.wrap ((0:Int)+i64.wrap (d*q))+i64.wrap (e*t))+i64.wrap (f*w))),.sym .i64 (i64.wrap (i64.wrap (i64.wrap ((0:Int)+i64.wrap (d*r))+i64.wrap (e*u))+i64.wrap (f*k))),.sym .i64 (i64.wrap (i64.wrap (i64.wrap ((0:Int)+i64.wrap (g*p))+i64.wrap (h*s))+i64.wrap (i*v))),.sym .i64 (i64.wrap (i64.wrap (i64.wrap ((0:Int)+i64.wrap (g*q))+i64.wrap (h*t))+i64.wrap (i*w))),.sym .i64 (i64.wrap (i64.wrap (i64.wrap ((0:Int)+i64.wrap (g*r))+i64.wrap (h*u))+i64.wrap (i*k))),.sym .i64 (modR (i64.wrap (i64.wrap (i64.wrap (x+i64.wrap (a*l))+i64.wrap (b*m))+i64.wrap (c*n))) 24),.sym .i64 (modR (i64.wrap (i64.wrap (i64.wrap (y+i64.wrap (d*l))+i64.wrap (e*m))+i64.wrap (f*n))) 24),.sym .i64 (modR (i64.wrap (i64.wrap (i64.wrap (z+i64.wrap (g*l))+i64.wrap (h*m))+i64.wrap (i*n))) 24)])) []) := by kernel_rfl
theorem oh_rmul : Holds P O9 111 qRmul := by
  refine holds_ok (fn := Tryz.f111) (by kernel_rfl) (by kernel_rfl) fun args av hg => ?_
  unfold qRmul at hg
  split at hg
  · rw [gives_ok hg]
    refine ⟨rfl, _, rfl, ?_⟩
    rw [nfrmul]
    exact ⟨fun h => absurd h (by decide), fun h => absurd h (by decide), fun h => absurd h (by decide), rfl, rfl⟩
  · exact (gives_fail hg).elim
def O10 : Sums := (((O9.add 141 qCmp3).add 140 qVcmp).add 133 qOcmp).add 111 qRmul
end Go.AM
