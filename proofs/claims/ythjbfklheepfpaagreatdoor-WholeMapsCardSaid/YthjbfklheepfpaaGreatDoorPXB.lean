import Derived.Test.YthjbfklheepfpaaGreatDoorOH
set_option linter.unusedVariables false
set_option linter.unusedSimpArgs false
set_option maxHeartbeats 4000000
open Go Go.AM Go.Proofs
namespace Go.AM
def icmp (a b : Int) : Int := if a < b then -1 else if b < a then 1 else 0
def thenC (c d : Int) : Int := if c = 0 then d else c
theorem leafCon {ee n : Int} (h : ee = n) : (AV.v (.one (.con .i64 n))).valOf = some (.int .i64 ee) := by subst h; rfl
def qCmp : PSpec
  | [.v (.one (.sym .i64 a)), .v (.one (.sym .i64 b))] => .ok (I (icmp a b))
  | _ => .fail
theorem nfcmp (a b : Int) (K : KV) : call P O6 noAnn 100000 Tryz.f48 [I a, I b] [] K = (((!decide (a=a))=true->((!decide (b=b))=true->K (.v (.one (.con .i64 0))) [])/\((!decide (b=b))=false->K (.v (.one (.con .i64 (-1:Int)))) []))/\((!decide (a=a))=false->((!decide (b=b))=true->K (.v (.one (.con .i64 1))) [])/\((!decide (b=b))=false->(decide (a<b)=true->K (.v (.one (.con .i64 (-1:Int)))) [])/\(decide (a<b)=false->(decide (b<a)=true->K (.v (.one (.con .i64 1))) [])/\(decide (b<a)=false->K (.v (.one (.con .i64 0))) []))))) := by kernel_rfl
theorem ohCmp : Holds P O6 48 qCmp := by
  refine holds_ok (fn := Tryz.f48) (by kernel_rfl) (by kernel_rfl) fun args av hg => ?_
  unfold qCmp at hg
  split at hg
  · rename_i a b
    rw [gives_ok hg]
    refine ⟨rfl, .int .i64 (icmp a b), rfl, ?_⟩
    rw [nfcmp]
    clear hg
    repeat' (first | apply And.intro | intro _)
    all_goals first
      | rfl
      | refine leafCon ?_
    all_goals simp only [decide_eq_true_eq, decide_eq_false_iff_not, Bool.not_eq_true', not_true_eq_false] at *
    all_goals (unfold icmp; simp only [*, if_true, if_false])
  · exact (gives_fail hg).elim
def cmp9 (a b c d e f g h i p q r s t u v w k : Int) : Int := thenC (icmp a p) (thenC (icmp b q) (thenC (icmp c r) (thenC (icmp d s) (thenC (icmp e t) (thenC (icmp f u) (thenC (icmp g v) (thenC (icmp h w) (icmp i k))))))))
def qVcmp : PSpec
  | [.v (.agg [.sym .i64 a, .sym .i64 b, .sym .i64 c, .sym .i64 d, .sym .i64 e, .sym .i64 f, .sym .i64 g, .sym .i64 h, .sym .i64 i]), .v (.agg [.sym .i64 p, .sym .i64 q, .sym .i64 r, .sym .i64 s, .sym .i64 t, .sym .i64 u, .sym .i64 v, .sym .i64 w, .sym .i64 k])] => .ok (I (cmp9 a b c d e f g h i p q r s t u v w k))
  | _ => .fail
theorem nfvcmp (a b c d e f g h i p q r s t u v w k : Int) (K : KV) : call P O6 noAnn 100000 Tryz.f47 [.v (.agg [.sym .i64 a, .sym .i64 b, .sym .i64 c, .sym .i64 d, .sym .i64 e, .sym .i64 f, .sym .i64 g, .sym .i64 h, .sym .i64 i]), .v (.agg [.sym .i64 p, .sym .i64 q, .sym .i64 r, .sym .i64 s, .sym .i64 t, .sym .i64 u, .sym .i64 v, .sym .i64 w, .sym .i64 k])] [] K = ((decide (a<p)=true->K (.v (.one (.con .i64 (-1:Int)))) [])/\(decide (a<p)=false->(decide (p<a)=true->K (.v (.one (.con .i64 1))) [])/\(decide (p<a)=false->(decide (b<q)=true->K (.v (.one (.con .i64 (-1:Int)))) [])/\(decide (b<q)=false->(decide (q<b)=true->K (.v (.one (.con .i64 1))) [])/\(decide (q<b)=false->(decide (c<r)=true->K (.v (.one (.con .i64 (-1:Int)))) [])/\(decide (c<r)=false->(decide (r<c)=true->K (.v (.one (.con .i64 1))) [])/\(decide (r<c)=false->(decide (d<s)=true->K (.v (.one (.con .i64 (-1:Int)))) [])/\(decide (d<s)=false->(decide (s<d)=true->K (.v (.one (.con .i64 1))) [])/\(decide (s<d)=false->(decide (e<t)=true->K (.v (.one (.con .i64 (-1:Int)))) [])/\(decide (e<t)=false->(decide (t<e)=true->K (.v (.one (.con .i64 1))) [])/\(decide (t<e)=false->(decide (f<u)=true->K (.v (.one (.con .i64 (-1:Int)))) [])/\(decide (f<u)=false->(decide (u<f)=true->K (.v (.one (.con .i64 1))) [])/\(decide (u<f)=false->(decide (g<v)=true->K (.v (.one (.con .i64 (-1:Int)))) [])/\(decide (g<v)=false->(decide (v<g)=true->K (.v (.one (.con .i64 1))) [])/\(decide (v<g)=false->(decide (h<w)=true->K (.v (.one (.con .i64 (-1:Int)))) [])/\(decide (h<w)=false->(decide (w<h)=true->K (.v (.one (.con .i64 1))) [])/\(decide (w<h)=false->(decide (i<k)=true->K (.v (.one (.con .i64 (-1:Int)))) [])/\(decide (i<k)=false->(decide (k<i)=true->K (.v (.one (.con .i64 1))) [])/\(decide (k<i)=false->K (.v (.one (.con .i64 0))) []))))))))))))))))))) := by kernel_rfl
theorem ohVcmp : Holds P O6 47 qVcmp := by
  refine holds_ok (fn := Tryz.f47) (by kernel_rfl) (by kernel_rfl) fun args av hg => ?_
  unfold qVcmp at hg
  split at hg
  · rename_i a b c d e f g h i p q r s t u v w k
    rw [gives_ok hg]
    refine ⟨rfl, .int .i64 (cmp9 a b c d e f g h i p q r s t u v w k), rfl, ?_⟩
    rw [nfvcmp]
    clear hg
    repeat' (first | apply And.intro | intro _)
    all_goals first
      | rfl
      | refine leafCon ?_
    all_goals simp only [decide_eq_true_eq, decide_eq_false_iff_not] at *
    all_goals (unfold cmp9 thenC icmp; simp only [*, if_true, if_false]; try rfl)
  · exact (gives_fail hg).elim
def O7 : Sums := (O6.add 48 qCmp).add 47 qVcmp
end Go.AM
open Go Go.AM Go.Proofs
namespace Go.AM
theorem leafSym {ee n : Int} (h : ee = n) : (AV.v (.one (.sym .i64 n))).valOf = some (.int .i64 ee) := by subst h; rfl
def cmp12 (a b c d e f g h i x y z p q r s t u v w k l m n : Int) : Int := thenC (cmp9 a b c d e f g h i p q r s t u v w k) (thenC (icmp x l) (thenC (icmp y m) (icmp z n)))
def qOcmp : PSpec
  | [.v (.agg [.sym .i64 a, .sym .i64 b, .sym .i64 c, .sym .i64 d, .sym .i64 e, .sym .i64 f, .sym .i64 g, .sym .i64 h, .sym .i64 i, .sym .i64 x, .sym .i64 y, .sym .i64 z]), .v (.agg [.sym .i64 p, .sym .i64 q, .sym .i64 r, .sym .i64 s, .sym .i64 t, .sym .i64 u, .sym .i64 v, .sym .i64 w, .sym .i64 k, .sym .i64 l, .sym .i64 m, .sym .i64 n])] => .ok (I (cmp12 a b c d e f g h i x y z p q r s t u v w k l m n))
  | _ => .fail
theorem nfocmp (a b c d e f g h i x y z p q r s t u v w k l m n : Int) (K : KV) : call P O7 noAnn 100000 Tryz.f16 [.v (.agg [.sym .i64 a, .sym .i64 b, .sym .i64 c, .sym .i64 d, .sym .i64 e, .sym .i64 f, .sym .i64 g, .sym .i64 h, .sym .i64 i, .sym .i64 x, .sym .i64 y, .sym .i64 z]), .v (.agg [.sym .i64 p, .sym .i64 q, .sym .i64 r, .sym .i64 s, .sym .i64 t, .sym .i64 u, .sym .i64 v, .sym .i64 w, .sym .i64 k, .sym .i64 l, .sym .i64 m, .sym .i64 n])] [] K = (((!decide (cmp9 a b c d e f g h i p q r s t u v w k=0))=true->K (.v (.one (.sym .i64 (cmp9 a b c d e f g h i p q r s t u v w k)))) [])/\((!decide (cmp9 a b c d e f g h i p q r s t u v w k=0))=false->((!decide (icmp x l=0))=true->K (.v (.one (.sym .i64 (icmp x l)))) [])/\((!decide (icmp x l=0))=false->((!decide (icmp y m=0))=true->K (.v (.one (.sym .i64 (icmp y m)))) [])/\((!decide (icmp y m=0))=false->((!decide (icmp z n=0))=true->K (.v (.one (.sym .i64 (icmp z n)))) [])/\((!decide (icmp z n=0))=false->K (.v (.one (.con .i64 0))) []))))) := by kernel_rfl
theorem ohOcmp : Holds P O7 16 qOcmp := by
  refine holds_ok (fn := Tryz.f16) (by kernel_rfl) (by kernel_rfl) fun args av hg => ?_
  unfold qOcmp at hg
  split at hg
  · rename_i a b c d e f g h i x y z p q r s t u v w k l m n
    rw [gives_ok hg]
    refine ⟨rfl, .int .i64 (cmp12 a b c d e f g h i x y z p q r s t u v w k l m n), rfl, ?_⟩
    rw [nfocmp]
    clear hg
    unfold cmp12
    generalize cmp9 a b c d e f g h i p q r s t u v w k = c0
    generalize icmp x l = c1
    generalize icmp y m = c2
    generalize icmp z n = c3
    repeat' (first | apply And.intro | intro _)
    all_goals first
      | rfl
      | refine leafCon ?_
      | refine leafSym ?_
    all_goals simp only [decide_eq_true_eq, decide_eq_false_iff_not, Bool.not_eq_true', Bool.not_eq_false', Bool.not_eq_true, Bool.not_eq_false] at *
    all_goals (unfold thenC; simp only [*, if_true, if_false])
  · exact (gives_fail hg).elim
theorem icmp_cases (a b : Int) : (a < b ∧ icmp a b = -1) ∨ (a = b ∧ icmp a b = 0) ∨ (b < a ∧ icmp a b = 1) := by
  unfold icmp
  by_cases h1 : a < b
  · exact .inl ⟨h1, if_pos h1⟩
  · by_cases h2 : b < a
    · exact .inr (.inr ⟨h2, by rw [if_neg h1, if_pos h2]⟩)
    · exact .inr (.inl ⟨by omega, by rw [if_neg h1, if_neg h2]⟩)
theorem icmp_zero {a b : Int} : icmp a b = 0 ↔ a = b := by
  rcases icmp_cases a b with ⟨h1, h2⟩ | ⟨h1, h2⟩ | ⟨h1, h2⟩ <;> rw [h2] <;> omega
theorem icmp_neg (a b : Int) : icmp b a = - icmp a b := by
  rcases icmp_cases a b with ⟨h1, h2⟩ | ⟨h1, h2⟩ | ⟨h1, h2⟩ <;> rcases icmp_cases b a with ⟨h3, h4⟩ | ⟨h3, h4⟩ | ⟨h3, h4⟩ <;> omega
theorem thenC_zero {c d : Int} : thenC c d = 0 ↔ c = 0 ∧ d = 0 := by
  unfold thenC
  by_cases h : c = 0
  · simp [h]
  · simp [h]
theorem thenC_neg (c d : Int) : thenC (-c) (-d) = - thenC c d := by
  unfold thenC
  by_cases h : c = 0
  · simp [h]
  · rw [if_neg h, if_neg (by omega)]
end Go.AM
