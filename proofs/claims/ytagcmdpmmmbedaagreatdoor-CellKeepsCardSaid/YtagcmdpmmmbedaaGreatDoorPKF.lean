import Derived.Test.YtagcmdpmmmbedaaGreatDoorPKE
/- The document's Keeps: its parts. -/
open Go Go.AM Go.Proofs
namespace Go.AM
theorem hrDCheck' : OkS P (KR1.addSp 26 (rowSpec 0 cOp qCheck)) := oKR1.addRow fine hrDCheck
def KS0 : Sums := KR1.addSp 26 (rowSpec 0 cOp qCheck)
theorem oKS0 : OkS P KS0 := hrDCheck'
def leastI (a b : Int) : Int := if a = 0 ∨ (b ≠ 0 ∧ b < a) then b else a
def qLeast : PSpec
  | [.v (.one (.sym .i64 a)), .v (.one (.sym .i64 b))] => .ok (I (leastI a b))
  | _ => .fail
end Go.AM
/- The document's Keeps: its parts. -/
open Go Go.AM Go.Proofs
namespace Go.AM
open Dist
set_option maxRecDepth 100000
def kp9 (a b c d e f g h i p q r s t u v w x : Int) : Bool := decide (prod9 a b c d e f g h i p s v p s v = a) && (decide (prod9 a b c d e f g h i p s v q t w = b) && (decide (prod9 a b c d e f g h i p s v r u x = c) && (decide (prod9 a b c d e f g h i q t w p s v = d) && (decide (prod9 a b c d e f g h i q t w q t w = e) && (decide (prod9 a b c d e f g h i q t w r u x = f) && (decide (prod9 a b c d e f g h i r u x p s v = g) && (decide (prod9 a b c d e f g h i r u x q t w = h) && (decide (prod9 a b c d e f g h i r u x r u x = i)))))))))
def qKp9 : PSpec
  | [.v (.agg [.sym .i64 a, .sym .i64 b, .sym .i64 c, .sym .i64 d, .sym .i64 e, .sym .i64 f, .sym .i64 g, .sym .i64 h, .sym .i64 i]), .v (.agg [.sym .i64 p, .sym .i64 q, .sym .i64 r, .sym .i64 s, .sym .i64 t, .sym .i64 u, .sym .i64 v, .sym .i64 w, .sym .i64 x])] => .ok (B (kp9 a b c d e f g h i p q r s t u v w x))
  | _ => .fail
theorem nine (b1 b2 b3 b4 b5 b6 b7 b8 b9 : Bool) (K : Bool → Prop) (hK : K (b1 && (b2 && (b3 && (b4 && (b5 && (b6 && (b7 && (b8 && (b9)))))))))) : ((!b1) = true → K false) ∧ ((!b1) = false → ((!b2) = true → K false) ∧ ((!b2) = false → ((!b3) = true → K false) ∧ ((!b3) = false → ((!b4) = true → K false) ∧ ((!b4) = false → ((!b5) = true → K false) ∧ ((!b5) = false → ((!b6) = true → K false) ∧ ((!b6) = false → ((!b7) = true → K false) ∧ ((!b7) = false → ((!b8) = true → K false) ∧ ((!b8) = false → ((!b9) = true → K false) ∧ ((!b9) = false → K true))))))))) := by
  cases b1
  · exact ⟨fun _ => hK, fun h => (by cases h)⟩
  refine ⟨fun h => (by cases h), fun _ => ?_⟩
  cases b2
  · exact ⟨fun _ => hK, fun h => (by cases h)⟩
  refine ⟨fun h => (by cases h), fun _ => ?_⟩
  cases b3
  · exact ⟨fun _ => hK, fun h => (by cases h)⟩
  refine ⟨fun h => (by cases h), fun _ => ?_⟩
  cases b4
  · exact ⟨fun _ => hK, fun h => (by cases h)⟩
  refine ⟨fun h => (by cases h), fun _ => ?_⟩
  cases b5
  · exact ⟨fun _ => hK, fun h => (by cases h)⟩
  refine ⟨fun h => (by cases h), fun _ => ?_⟩
  cases b6
  · exact ⟨fun _ => hK, fun h => (by cases h)⟩
  refine ⟨fun h => (by cases h), fun _ => ?_⟩
  cases b7
  · exact ⟨fun _ => hK, fun h => (by cases h)⟩
  refine ⟨fun h => (by cases h), fun _ => ?_⟩
  cases b8
  · exact ⟨fun _ => hK, fun h => (by cases h)⟩
  refine ⟨fun h => (by cases h), fun _ => ?_⟩
  cases b9
  · exact ⟨fun _ => hK, fun h => (by cases h)⟩
  exact ⟨fun h => (by cases h), fun _ => hK⟩
theorem nfKp9 (a b c d e f g h i p q r s t u v w x : Int) (K : KV) : call P KS0 noAnn 100000 Tryz.f27 [.v (.agg [.sym .i64 a, .sym .i64 b, .sym .i64 c, .sym .i64 d, .sym .i64 e, .sym .i64 f, .sym .i64 g, .sym .i64 h, .sym .i64 i]), .v (.agg [.sym .i64 p, .sym .i64 q, .sym .i64 r, .sym .i64 s, .sym .i64 t, .sym .i64 u, .sym .i64 v, .sym .i64 w, .sym .i64 x])] [] K = (((!decide (prod9 a b c d e f g h i p s v p s v = a)) = true → K (AV.v (PV.one (SV.cb false))) []) ∧ ((!decide (prod9 a b c d e f g h i p s v p s v = a)) = false → ((!decide (prod9 a b c d e f g h i p s v q t w = b)) = true → K (AV.v (PV.one (SV.cb false))) []) ∧ ((!decide (prod9 a b c d e f g h i p s v q t w = b)) = false → ((!decide (prod9 a b c d e f g h i p s v r u x = c)) = true → K (AV.v (PV.one (SV.cb false))) []) ∧ ((!decide (prod9 a b c d e f g h i p s v r u x = c)) = false → ((!decide (prod9 a b c d e f g h i q t w p s v = d)) = true → K (AV.v (PV.one (SV.cb false))) []) ∧ ((!decide (prod9 a b c d e f g h i q t w p s v = d)) = false → ((!decide (prod9 a b c d e f g h i q t w q t w = e)) = true → K (AV.v (PV.one (SV.cb false))) []) ∧ ((!decide (prod9 a b c d e f g h i q t w q t w = e)) = false → ((!decide (prod9 a b c d e f g h i q t w r u x = f)) = true → K (AV.v (PV.one (SV.cb false))) []) ∧ ((!decide (prod9 a b c d e f g h i q t w r u x = f)) = false → ((!decide (prod9 a b c d e f g h i r u x p s v = g)) = true → K (AV.v (PV.one (SV.cb false))) []) ∧ ((!decide (prod9 a b c d e f g h i r u x p s v = g)) = false → ((!decide (prod9 a b c d e f g h i r u x q t w = h)) = true → K (AV.v (PV.one (SV.cb false))) []) ∧ ((!decide (prod9 a b c d e f g h i r u x q t w = h)) = false → ((!decide (prod9 a b c d e f g h i r u x r u x = i)) = true → K (AV.v (PV.one (SV.cb false))) []) ∧ ((!decide (prod9 a b c d e f g h i r u x r u x = i)) = false → K (AV.v (PV.one (SV.cb true))) [])))))))))) := by kernel_rfl
end Go.AM
/- The document's Keeps: its parts. -/
open Go Go.AM Go.Proofs
namespace Go.AM
open Dist
set_option maxRecDepth 100000
theorem ohKp9 : Holds P KS0 27 qKp9 := by
  refine holds_okA (fn := Tryz.f27) noAnn 100000 rfl (by kernel_rfl) (by kernel_rfl) fun args av hg => ?_
  unfold qKp9 at hg
  split at hg
  · rename_i a b c d e f g h i p q r s t u v w x
    rw [gives_ok hg]
    refine ⟨rfl, _, rfl, ?_⟩
    rw [nfKp9]
    exact nine (decide (prod9 a b c d e f g h i p s v p s v = a)) (decide (prod9 a b c d e f g h i p s v q t w = b)) (decide (prod9 a b c d e f g h i p s v r u x = c)) (decide (prod9 a b c d e f g h i q t w p s v = d)) (decide (prod9 a b c d e f g h i q t w q t w = e)) (decide (prod9 a b c d e f g h i q t w r u x = f)) (decide (prod9 a b c d e f g h i r u x p s v = g)) (decide (prod9 a b c d e f g h i r u x q t w = h)) (decide (prod9 a b c d e f g h i r u x r u x = i)) (fun bb => (AV.v (PV.one (SV.cb bb))).valOf = (B (kp9 a b c d e f g h i p q r s t u v w x)).valOf ∧ ([] : Heap) = []) ⟨rfl, rfl⟩
  · exact (gives_fail hg).elim
theorem nfLeast (a b : Int) (K : KV) : call P KS0 noAnn 1000 Tryz.f24 [I a, I b] [] K = ((decide (a = (0 : Int)) = true → K (AV.v (PV.one (SV.sym IntKind.i64 b))) []) ∧ (decide (a = (0 : Int)) = false → ((!decide (b = (0 : Int))) = true → (decide (b < a) = true → K (AV.v (PV.one (SV.sym IntKind.i64 b))) []) ∧ (decide (b < a) = false → K (AV.v (PV.one (SV.sym IntKind.i64 a))) [])) ∧ ((!decide (b = (0 : Int))) = false → K (AV.v (PV.one (SV.sym IntKind.i64 a))) []))) := by kernel_rfl
theorem ohLeast : Holds P KS0 24 qLeast := by
  refine holds_okA (fn := Tryz.f24) noAnn 1000 rfl (by kernel_rfl) (by kernel_rfl) fun args av hg => ?_
  unfold qLeast at hg
  split at hg
  · rename_i a b
    rw [gives_ok hg]
    refine ⟨rfl, _, rfl, ?_⟩
    rw [nfLeast]
    refine ⟨fun h => ?_, fun h => ⟨fun h2 => ⟨fun h3 => ?_, fun h3 => ?_⟩, fun h2 => ?_⟩⟩
    · have h : a = 0 := of_decide_eq_true h
      rw [leastI, if_pos (.inl h)]; exact ⟨rfl, rfl⟩
    · have h2 : b ≠ 0 := by simpa using h2
      rw [leastI, if_pos (.inr ⟨h2, of_decide_eq_true h3⟩)]; exact ⟨rfl, rfl⟩
    · have h : ¬ a = 0 := of_decide_eq_false h
      rw [leastI, if_neg (fun hh => hh.elim h (fun hh => of_decide_eq_false h3 hh.2))]; exact ⟨rfl, rfl⟩
    · have h : ¬ a = 0 := of_decide_eq_false h
      have h2 : b = 0 := by simpa using h2
      rw [leastI, if_neg (fun hh => hh.elim h (fun hh => hh.1 h2))]; exact ⟨rfl, rfl⟩
  · exact (gives_fail hg).elim
def KS1 : Sums := (KS0.add 27 qKp9).add 24 qLeast
theorem oKS1 : OkS P KS1 := (oKS0.add1 fine oKS0 ohKp9).add1 fine oKS0 ohLeast
def kpO (a b c d e f : Int) (o : OpI) : Bool := kp9 a f e f b d e d c o.a o.b o.c o.d o.e o.f o.g o.h o.i
def annDKeeps (a b c d e f : Int) (xs : List OpI) : Annos := ⟨1, fun id env h =>
  if id = 5 then forceE (keepS [1, 2, 17, 18, 19] 0 env) fun env => some ⟨{ i : Nat // i ≤ xs.length ∧ xs.all (kpO a b c d e f) = (xs.drop i).all (kpO a b c d e f) }, fun i => (set env 19 (I' (i.1 : Int)), headH 2 h), fun i => xs.length - i.1⟩ else none, fun _ => none⟩
end Go.AM
/- The document's Keeps is the program's. -/
open Go Go.AM Go.Proofs
namespace Go.AM
open Dist
set_option maxRecDepth 100000
theorem nfDKeeps (a b c d e f : Int) (xs : List OpI) (cc : Nat) (K : KV) : call P KS1 (annDKeeps a b c d e f xs) 100000 Tryz.f8 [M6 a b c d e f, .v (.one (.rs 0 12 xs.length cc))] [.ro 0 cOp xs] K = (∃ (z : List cOp.τ), SameRows cOp z cOp xs ∧ (xs.length = xs.length ∧ True) ∧ ((!decide (leastI (checkR a b c d e f) (checkP z) = (0 : Int))) = true → K (AV.tup [PV.one (SV.cb false), PV.one (SV.sym IntKind.i64 (leastI (checkR a b c d e f) (checkP z)))]) [Blk.ro 0 cOp xs]) ∧ ((!decide (leastI (checkR a b c d e f) (checkP z) = (0 : Int))) = false → (∃ (z : { i : Nat // i ≤ xs.length ∧ xs.all (kpO a b c d e f) = (List.drop i xs).all (kpO a b c d e f) }), ((xs.length = xs.length ∧ cc = cc) ∧ (xs.length = xs.length ∧ cc = cc) ∧ (↑xs.length : Int) = (↑xs.length : Int) ∧ (↑z.val : Int) = (0 : Int) ∧ True) ∧ SameRows cOp xs cOp xs ∧ (a = a ∧ b = b ∧ c = c ∧ d = d ∧ e = e ∧ f = f ∧ True) ∧ True) ∧ ∀ (x : { i : Nat // i ≤ xs.length ∧ xs.all (kpO a b c d e f) = (List.drop i xs).all (kpO a b c d e f) }), (decide ((↑x.val : Int) < (↑xs.length : Int)) = true → ((0 : Int) ≤ (↑x.val : Int) ∧ (↑x.val : Int) < (↑xs.length : Int)) ∧ (↑x.val : Int).toNat.succ.le xs.length ∧ ((!kp9 a f e f b d e d c (gt xs x.val).a (gt xs x.val).b (gt xs x.val).c (gt xs x.val).d (gt xs x.val).e (gt xs x.val).f (gt xs x.val).g (gt xs x.val).h (gt xs x.val).i) = true → K (AV.tup [PV.one (SV.cb false), PV.one (SV.con IntKind.i64 (0 : Int))]) [Blk.ro 0 cOp xs]) ∧ ((!kp9 a f e f b d e d c (gt xs x.val).a (gt xs x.val).b (gt xs x.val).c (gt xs x.val).d (gt xs x.val).e (gt xs x.val).f (gt xs x.val).g (gt xs x.val).h (gt xs x.val).i) = false → ∃ (z : { i : Nat // i ≤ xs.length ∧ xs.all (kpO a b c d e f) = (List.drop i xs).all (kpO a b c d e f) }), (xs.length - z.val).succ.le (xs.length - x.val) ∧ ((xs.length = xs.length ∧ cc = cc) ∧ (xs.length = xs.length ∧ cc = cc) ∧ (↑xs.length : Int) = (↑xs.length : Int) ∧ (↑z.val : Int) = IntKind.i64.wrap ((↑x.val : Int) + (1 : Int)) ∧ True) ∧ SameRows cOp xs cOp xs ∧ (a = a ∧ b = b ∧ c = c ∧ d = d ∧ e = e ∧ f = f ∧ True) ∧ True)) ∧ (decide ((↑x.val : Int) < (↑xs.length : Int)) = false → K (AV.tup [PV.one (SV.cb true), PV.one (SV.con IntKind.i64 (0 : Int))]) [Blk.ro 0 cOp xs]))) := by kernel_rfl
theorem least_keeps (a b c d e f : Int) (xs : List OpI) : leastI (checkR a b c d e f) (checkP xs) = keepsE a b c d e f xs := by
  rw [checkR_eq]
  unfold leastI keepsE
  by_cases h1 : checkC a b c d e f = 0
  · rw [if_pos (.inl h1)]
    by_cases h2 : checkP xs = 0
    · rw [if_neg (fun h => h.1 h2), h1, h2]
    · rw [if_pos ⟨h2, .inl h1⟩]
  · by_cases h2 : checkP xs ≠ 0 ∧ checkP xs < checkC a b c d e f
    · rw [if_pos (.inr h2), if_pos ⟨h2.1, .inr h2.2⟩]
    · rw [if_neg (fun h => h.elim h1 h2), if_neg (fun h => h.2.elim h1 (fun h3 => h2 ⟨h.1, h3⟩))]
theorem kpO_B {a b c d e f : Int} {o : OpI} (h : ovO o = false) : kpO a b c d e f o = keepsB a b c d e f o := by
  have z : ∀ n, tz o n = n := fun n => by rw [tz, h]; rfl
  unfold kpO kp9 keepsB
  simp only [z]
theorem callDKeeps (a b c d e f : Int) (xs : List OpI) (cc : Nat) : CallR P KS1 (annDKeeps a b c d e f xs) 100000 Tryz.f8 [M6 a b c d e f, .v (.one (.rs 0 12 xs.length cc))] [.ro 0 cOp xs] (fun v' h' => MatchTo 1 [v'] h' ([(AV.tup [.one (.sb (keepsP a b c d e f xs)), .one (.sym .i64 (keepsE a b c d e f xs))]).sh 1], .ro 0 cOp xs :: shH 1 [])) := by
  refine ⟨?_⟩
  rw [nfDKeeps]
  refine ⟨xs, sameR _ _, ⟨rfl, trivial⟩, fun h => leafBS ?_ (least_keeps a b c d e f xs).symm, fun h => ?_⟩
  · have h : ¬ leastI (checkR a b c d e f) (checkP xs) = 0 := by simpa using h
    rw [least_keeps] at h
    simp [keepsP, h]
  have h : leastI (checkR a b c d e f) (checkP xs) = 0 := by simpa using h
  rw [least_keeps] at h
  have hcp := (keepsE_check h).2
  have hlen := checkP_len hcp
  have hB : ∀ o ∈ xs, kpO a b c d e f o = keepsB a b c d e f o := fun o ho => kpO_B (opE_zero.1 (checkP_forms hcp o ho)).2.1
  have hall : xs.all (kpO a b c d e f) = xs.all (keepsB a b c d e f) := by
    rw [Bool.eq_iff_iff, List.all_eq_true, List.all_eq_true]
    exact forall_congr' fun o => forall_congr' fun ho => by rw [hB o ho]
  have hP : keepsP a b c d e f xs = xs.all (kpO a b c d e f) := by rw [keepsP, hall, h]; rfl
  refine ⟨⟨⟨0, Nat.zero_le _, rfl⟩, ⟨⟨rfl, rfl⟩, ⟨rfl, rfl⟩, rfl, rfl, trivial⟩, sameR _ _, ⟨rfl, rfl, rfl, rfl, rfl, rfl, trivial⟩, trivial⟩, fun x => ⟨fun hk => ?_, fun hk => ?_⟩⟩
  · obtain ⟨i, h1, h2⟩ := x
    have hk : (i : Int) < xs.length := of_decide_eq_true hk
    have hk' : i < xs.length := by omega
    have w2 := wr_id (n := (i : Int) + 1) (by omega) (by omega)
    have hst := all_step (f := kpO a b c d e f) hk'
    refine ⟨⟨by show (0 : Int) ≤ (i : Int); omega, hk⟩, hk', fun h4 => leafBC ?_ h, fun h4 => ⟨⟨i + 1, hk', ?_⟩, show xs.length - (i + 1) < xs.length - i by omega, ⟨⟨rfl, rfl⟩, ⟨rfl, rfl⟩, rfl, w2.symm, trivial⟩, sameR _ _, ⟨rfl, rfl, rfl, rfl, rfl, rfl, trivial⟩, trivial⟩⟩
    · have h4 : (!kpO a b c d e f (gt xs i)) = true := h4
      rw [Bool.not_eq_true'] at h4
      rw [hP, h2, hst, h4]
      rfl
    · have h4 : (!kpO a b c d e f (gt xs i)) = false := h4
      rw [Bool.not_eq_false'] at h4
      rw [h2, hst, h4]
      rfl
  · obtain ⟨i, h1, h2⟩ := x
    have hk : ¬ (i : Int) < xs.length := of_decide_eq_false hk
    have hj : i = xs.length := by omega
    rw [hj, List.drop_length] at h2
    exact leafBC (by rw [hP, h2]; rfl) h
theorem hrDKeeps : HoldsR P 8 1 cOp qKeeps := by
  refine ⟨Tryz.f8, by kernel_rfl, by kernel_rfl, fun os (xs : List OpI) p v hs hq hp hno cc => ?_⟩
  unfold qKeeps at hq
  split at hq
  · rename_i a b c d e f
    have := Option.some.inj hq
    simp only [Prod.mk.injEq] at this
    obtain ⟨rfl, rfl, rfl⟩ := this
    exact ⟨100000, annDKeeps a b c d e f xs, KS1, rfl, oKS1, callDKeeps a b c d e f xs cc⟩
  · cases hq
def KS2 : Sums := KS1.addSp 8 (rowSpec 1 cOp qKeeps)
theorem oKS2 : OkS P KS2 := oKS1.addRow fine hrDKeeps
end Go.AM
/- CellKeeps: the law's run. -/
open Go Go.AM Go.Proofs
namespace Go.AM
/-- facetref05.Same, entered -/
def annSame (env : Env) (h : Heap) : Option Ann :=
  forceE (keepS [0, 1, 11, 12, 13] 0 env) fun env => withI (getD env 12 AV.any) fun n => some ⟨{ i : Nat // (i : Int) ≤ n }, fun i => (set env 13 (I' (i.1 : Int)), h), fun i => n.toNat - i.1⟩
def KSL : Sums := { KS2 with ann := fun f => if f = 9 then some (fun id env h => if id = 4 then annSame env h else none) else none }
theorem oKSL : OkS P KSL := ⟨oKS2.pure, ⟨oKS2.spec.1, oKS2.spec.2⟩, oKS2.mono⟩
def ann1 : Annos := ⟨1, fun _ _ _ => none, fun _ => none⟩
end Go.AM
/- CellKeeps' law on the abstract row. -/
open Go Go.AM Go.Proofs
namespace Go.AM
open Dist
set_option maxRecDepth 100000
/-- the element behind the list -/
def oNine : OpI := ⟨0, 0, 0, 0, 0, 0, 0, 0, 0, 9, 9, 9⟩
theorem nfLawKeeps (a b c d e f : Int) (xs : List OpI) (cc : Nat) (K : KV) : call P KSL ann1 100000 Tryz.f3 [M6 a b c d e f, .v (.one (.rs 0 12 xs.length cc))] [.ro 0 cOp xs] K = ((xs.length = xs.length ∧ (xs.length * 96).le (140737488355328 : Nat) ∧ xs.length.le (4611686018427387904 : Nat)) ∧ (xs.length = xs.length ∧ ((xs.length + (1 : Nat)) * 96).le (140737488355328 : Nat) ∧ (xs.length + (1 : Nat)).le (4611686018427387904 : Nat)) ∧ ((0 : Int) ≤ (0 : Int) ∧ (0 : Int) ≤ (↑xs.length : Int) ∧ (↑xs.length : Int) ≤ (↑(xs.length + (1 : Nat)) : Int) ∧ ((0 : Nat) + (xs.length + (1 : Nat))).le (xs ++ [oNine]).length ∧ ((0 : Int) < (↑(xs.length + (1 : Nat)) : Int) ∨ (0 : Int) = (0 : Int) ∨ (0 : Nat) = (0 : Nat))) ∧ ∃ (z : List cOp.τ), SameRows cOp z cOp (List.take ((↑xs.length : Int) - (0 : Int)).toNat (List.drop ((0 : Nat) + Int.toNat (0 : Int)) (xs ++ [oNine]))) ∧ (((0 : Nat) + Int.toNat (0 : Int) + ((↑xs.length : Int) - (0 : Int)).toNat).le (xs ++ [oNine]).length ∧ True) ∧ ∃ (z_1 : List cOp.τ), SameRows cOp z_1 cOp xs ∧ (xs.length = xs.length ∧ True) ∧ ((keepsP a b c d e f z == keepsP a b c d e f z_1) = true → (decide (keepsE a b c d e f z = keepsE a b c d e f z_1) = true → ((0 : Int) ≤ (0 : Int) ∧ (0 : Int) ≤ (↑xs.length : Int) ∧ (↑xs.length : Int) ≤ (↑(xs.length + (1 : Nat)) : Int) ∧ ((0 : Nat) + (xs.length + (1 : Nat))).le (xs ++ [oNine]).length ∧ ((0 : Int) < (↑(xs.length + (1 : Nat)) : Int) ∨ (0 : Int) = (0 : Int) ∨ (0 : Nat) = (0 : Nat))) ∧ ((!decide ((↑((↑xs.length : Int) - (0 : Int)).toNat : Int) = (↑xs.length : Int))) = true → K (AV.v (PV.one (SV.cb false))) [Blk.ro 0 cOp xs]) ∧ ((!decide ((↑((↑xs.length : Int) - (0 : Int)).toNat : Int) = (↑xs.length : Int))) = false → (∃ (z : { i : Nat // (↑i : Int) ≤ (↑((↑xs.length : Int) - (0 : Int)).toNat : Int) }), (((0 : Nat) + Int.toNat (0 : Int) = (0 : Nat) + Int.toNat (0 : Int) ∧ ((↑xs.length : Int) - (0 : Int)).toNat = ((↑xs.length : Int) - (0 : Int)).toNat) ∧ (xs.length = xs.length ∧ cc = cc) ∧ ((0 : Nat) + Int.toNat (0 : Int) = (0 : Nat) + Int.toNat (0 : Int) ∧ ((↑xs.length : Int) - (0 : Int)).toNat = ((↑xs.length : Int) - (0 : Int)).toNat) ∧ (↑((↑xs.length : Int) - (0 : Int)).toNat : Int) = (↑((↑xs.length : Int) - (0 : Int)).toNat : Int) ∧ (↑z.val : Int) = (0 : Int) ∧ True) ∧ SameRows cOp xs cOp xs ∧ (a = a ∧ b = b ∧ c = c ∧ d = d ∧ e = e ∧ f = f ∧ True) ∧ True ∧ ((1 : Nat) = (1 : Nat) ∧ True) ∧ SameRows cOp (xs ++ [oNine]) cOp (xs ++ [oNine]) ∧ True) ∧ ∀ (x : { i : Nat // (↑i : Int) ≤ (↑((↑xs.length : Int) - (0 : Int)).toNat : Int) }), (decide ((↑x.val : Int) < (↑((↑xs.length : Int) - (0 : Int)).toNat : Int)) = true → ((0 : Int) ≤ (↑x.val : Int) ∧ (↑x.val : Int) < (↑((↑xs.length : Int) - (0 : Int)).toNat : Int)) ∧ ((0 : Nat) + Int.toNat (0 : Int) + (↑x.val : Int).toNat).succ.le (xs ++ [oNine]).length ∧ ((0 : Int) ≤ (↑x.val : Int) ∧ (↑x.val : Int) < (↑xs.length : Int)) ∧ (↑x.val : Int).toNat.succ.le xs.length ∧ ((!(decide (((xs ++ [oNine]).getD ((0 : Nat) + Int.toNat (0 : Int) + (↑x.val : Int).toNat) cOp.d).a = (gt xs x.val).a) && (decide (((xs ++ [oNine]).getD ((0 : Nat) + Int.toNat (0 : Int) + (↑x.val : Int).toNat) cOp.d).b = (gt xs x.val).b) && (decide (((xs ++ [oNine]).getD ((0 : Nat) + Int.toNat (0 : Int) + (↑x.val : Int).toNat) cOp.d).c = (gt xs x.val).c) && true)) && (decide (((xs ++ [oNine]).getD ((0 : Nat) + Int.toNat (0 : Int) + (↑x.val : Int).toNat) cOp.d).d = (gt xs x.val).d) && (decide (((xs ++ [oNine]).getD ((0 : Nat) + Int.toNat (0 : Int) + (↑x.val : Int).toNat) cOp.d).e = (gt xs x.val).e) && (decide (((xs ++ [oNine]).getD ((0 : Nat) + Int.toNat (0 : Int) + (↑x.val : Int).toNat) cOp.d).f = (gt xs x.val).f) && true)) && (decide (((xs ++ [oNine]).getD ((0 : Nat) + Int.toNat (0 : Int) + (↑x.val : Int).toNat) cOp.d).g = (gt xs x.val).g) && (decide (((xs ++ [oNine]).getD ((0 : Nat) + Int.toNat (0 : Int) + (↑x.val : Int).toNat) cOp.d).h = (gt xs x.val).h) && (decide (((xs ++ [oNine]).getD ((0 : Nat) + Int.toNat (0 : Int) + (↑x.val : Int).toNat) cOp.d).i = (gt xs x.val).i) && true)) && true)) && (decide (((xs ++ [oNine]).getD ((0 : Nat) + Int.toNat (0 : Int) + (↑x.val : Int).toNat) cOp.d).x = (gt xs x.val).x) && (decide (((xs ++ [oNine]).getD ((0 : Nat) + Int.toNat (0 : Int) + (↑x.val : Int).toNat) cOp.d).y = (gt xs x.val).y) && (decide (((xs ++ [oNine]).getD ((0 : Nat) + Int.toNat (0 : Int) + (↑x.val : Int).toNat) cOp.d).z = (gt xs x.val).z) && true)) && true))) = true → K (AV.v (PV.one (SV.cb false))) [Blk.ro 0 cOp xs]) ∧ ((!(decide (((xs ++ [oNine]).getD ((0 : Nat) + Int.toNat (0 : Int) + (↑x.val : Int).toNat) cOp.d).a = (gt xs x.val).a) && (decide (((xs ++ [oNine]).getD ((0 : Nat) + Int.toNat (0 : Int) + (↑x.val : Int).toNat) cOp.d).b = (gt xs x.val).b) && (decide (((xs ++ [oNine]).getD ((0 : Nat) + Int.toNat (0 : Int) + (↑x.val : Int).toNat) cOp.d).c = (gt xs x.val).c) && true)) && (decide (((xs ++ [oNine]).getD ((0 : Nat) + Int.toNat (0 : Int) + (↑x.val : Int).toNat) cOp.d).d = (gt xs x.val).d) && (decide (((xs ++ [oNine]).getD ((0 : Nat) + Int.toNat (0 : Int) + (↑x.val : Int).toNat) cOp.d).e = (gt xs x.val).e) && (decide (((xs ++ [oNine]).getD ((0 : Nat) + Int.toNat (0 : Int) + (↑x.val : Int).toNat) cOp.d).f = (gt xs x.val).f) && true)) && (decide (((xs ++ [oNine]).getD ((0 : Nat) + Int.toNat (0 : Int) + (↑x.val : Int).toNat) cOp.d).g = (gt xs x.val).g) && (decide (((xs ++ [oNine]).getD ((0 : Nat) + Int.toNat (0 : Int) + (↑x.val : Int).toNat) cOp.d).h = (gt xs x.val).h) && (decide (((xs ++ [oNine]).getD ((0 : Nat) + Int.toNat (0 : Int) + (↑x.val : Int).toNat) cOp.d).i = (gt xs x.val).i) && true)) && true)) && (decide (((xs ++ [oNine]).getD ((0 : Nat) + Int.toNat (0 : Int) + (↑x.val : Int).toNat) cOp.d).x = (gt xs x.val).x) && (decide (((xs ++ [oNine]).getD ((0 : Nat) + Int.toNat (0 : Int) + (↑x.val : Int).toNat) cOp.d).y = (gt xs x.val).y) && (decide (((xs ++ [oNine]).getD ((0 : Nat) + Int.toNat (0 : Int) + (↑x.val : Int).toNat) cOp.d).z = (gt xs x.val).z) && true)) && true))) = false → ∃ (z : { i : Nat // (↑i : Int) ≤ (↑((↑xs.length : Int) - (0 : Int)).toNat : Int) }), ((↑((↑xs.length : Int) - (0 : Int)).toNat : Int).toNat - z.val).succ.le ((↑((↑xs.length : Int) - (0 : Int)).toNat : Int).toNat - x.val) ∧ (((0 : Nat) + Int.toNat (0 : Int) = (0 : Nat) + Int.toNat (0 : Int) ∧ ((↑xs.length : Int) - (0 : Int)).toNat = ((↑xs.length : Int) - (0 : Int)).toNat) ∧ (xs.length = xs.length ∧ cc = cc) ∧ ((0 : Nat) + Int.toNat (0 : Int) = (0 : Nat) + Int.toNat (0 : Int) ∧ ((↑xs.length : Int) - (0 : Int)).toNat = ((↑xs.length : Int) - (0 : Int)).toNat) ∧ (↑((↑xs.length : Int) - (0 : Int)).toNat : Int) = (↑((↑xs.length : Int) - (0 : Int)).toNat : Int) ∧ (↑z.val : Int) = IntKind.i64.wrap ((↑x.val : Int) + (1 : Int)) ∧ True) ∧ SameRows cOp xs cOp xs ∧ (a = a ∧ b = b ∧ c = c ∧ d = d ∧ e = e ∧ f = f ∧ True) ∧ True ∧ ((1 : Nat) = (1 : Nat) ∧ True) ∧ SameRows cOp (xs ++ [oNine]) cOp (xs ++ [oNine]) ∧ True)) ∧ (decide ((↑x.val : Int) < (↑((↑xs.length : Int) - (0 : Int)).toNat : Int)) = false → ((0 : Int) ≤ (↑xs.length : Int) ∧ (↑xs.length : Int) < (↑(xs.length + (1 : Nat)) : Int)) ∧ ((0 : Nat) + (↑xs.length : Int).toNat).succ.le (xs ++ [oNine]).length ∧ K (AV.v (PV.one (SV.sb (decide (((xs ++ [oNine]).getD ((0 : Nat) + (↑xs.length : Int).toNat) cOp.d).x = (9 : Int)))))) [Blk.ro 0 cOp xs]))) ∧ (decide (keepsE a b c d e f z = keepsE a b c d e f z_1) = false → K (AV.v (PV.one (SV.cb false))) [Blk.ro 0 cOp xs])) ∧ ((keepsP a b c d e f z == keepsP a b c d e f z_1) = false → K (AV.v (PV.one (SV.cb false))) [Blk.ro 0 cOp xs])) := by kernel_rfl
theorem nine_get {xs : List OpI} (q d : OpI) {i : Nat} (h : i < xs.length) : (xs ++ [q]).getD (0 + Int.toNat 0 + (i : Int).toNat) d = gt xs i := by
  have e : 0 + Int.toNat 0 + (i : Int).toNat = i := by
    rw [show Int.toNat 0 = 0 from rfl, Int.toNat_natCast]; omega
  rw [e]
  simp [gt, List.getD, List.getElem?_append_left h, List.getElem?_eq_getElem h]
theorem nine_end (xs : List OpI) (q d : OpI) : (xs ++ [q]).getD (0 + (xs.length : Int).toNat) d = q := by
  rw [Int.toNat_natCast, Nat.zero_add]
  simp [List.getD]
theorem nine_take (xs : List OpI) (q : OpI) : List.take ((xs.length : Int) - 0).toNat (List.drop (0 + Int.toNat 0) (xs ++ [q])) = xs := by
  have e : ((xs.length : Int) - 0).toNat = xs.length := by omega
  rw [e, show 0 + Int.toNat 0 = 0 from rfl, List.drop_zero, List.take_left]
theorem beq_self' (b : Bool) : (b == b) = true := by cases b <;> rfl
theorem lawKeeps (a b c d e f : Int) (xs : List OpI) (cc : Nat) (hsz : xs.length * 96 ≤ 140737488351232) : LawR KSL 100000 Tryz.f3 [M6 a b c d e f, .v (.one (.rs 0 12 xs.length cc))] [.ro 0 cOp xs] ann1 := by
  refine ⟨?_⟩
  rw [nfLawKeeps]
  have hl1 : xs.length * 96 ≤ 140737488355328 := by omega
  have hl2 : xs.length ≤ 4611686018427387904 := by omega
  have hl3 : (xs.length + 1) * 96 ≤ 140737488355328 := by omega
  have hl4 : xs.length + 1 ≤ 4611686018427387904 := by omega
  have el : ((xs.length : Int) - 0).toNat = xs.length := by omega
  have hlen : ∀ q : OpI, (xs ++ [q]).length = xs.length + 1 := fun q => by simp
  have hb : ∀ q : OpI, (0 : Int) ≤ 0 ∧ (0 : Int) ≤ (xs.length : Int) ∧ (xs.length : Int) ≤ ((xs.length + 1 : Nat) : Int) ∧ (0 + (xs.length + 1)).le (xs ++ [q]).length ∧ ((0 : Int) < ((xs.length + 1 : Nat) : Int) ∨ (0 : Int) = 0 ∨ (0 : Nat) = 0) := fun q =>
    ⟨Int.le_refl _, by omega, by omega, by rw [hlen]; show 0 + (xs.length + 1) ≤ _; omega, .inr (.inl rfl)⟩
  refine ⟨⟨rfl, hl1, hl2⟩, ⟨rfl, hl3, hl4⟩, hb _, xs, by rw [nine_take]; exact sameR _ _, ⟨by rw [hlen, el]; show 0 + 0 + xs.length ≤ _; omega, trivial⟩, xs, sameR _ _, ⟨rfl, trivial⟩, fun _ => ⟨fun _ => ⟨hb _, fun h => ?_, fun _ => ⟨⟨⟨0, by rw [el]; omega⟩, ⟨⟨rfl, rfl⟩, ⟨rfl, rfl⟩, ⟨rfl, rfl⟩, rfl, rfl, trivial⟩, sameR _ _, ⟨rfl, rfl, rfl, rfl, rfl, rfl, trivial⟩, trivial, ⟨rfl, trivial⟩, sameR _ _, trivial⟩, fun x => ⟨fun hm => ?_, fun hm => ?_⟩⟩⟩,
    fun h => absurd (decide_eq_true (rfl : keepsE a b c d e f xs = keepsE a b c d e f xs)) (by rw [h]; decide)⟩, fun h => absurd (beq_self' (keepsP a b c d e f xs)) (by rw [h]; decide)⟩
  · rw [el] at h
    simp at h
  · obtain ⟨i, hi⟩ := x
    have hi0 : (i : Int) ≤ xs.length := by rw [← el]; exact hi
    have hm : (i : Int) < (((xs.length : Int) - 0).toNat : Int) := of_decide_eq_true hm
    rw [el] at hm
    have hm' : i < xs.length := by omega
    have w2 := wr_id (n := (i : Int) + 1) (by omega) (by omega)
    refine ⟨⟨by show (0 : Int) ≤ (i : Int); omega, by show (i : Int) < (((xs.length : Int) - 0).toNat : Int); rw [el]; exact hm⟩, by rw [hlen]; show 0 + 0 + i < _; omega, ⟨by show (0 : Int) ≤ (i : Int); omega, hm⟩, hm', fun h => ?_, fun _ => ⟨⟨i + 1, by rw [el]; omega⟩, show (((xs.length : Int) - 0).toNat : Int).toNat - (i + 1) < (((xs.length : Int) - 0).toNat : Int).toNat - i by rw [el]; omega, ⟨⟨rfl, rfl⟩, ⟨rfl, rfl⟩, ⟨rfl, rfl⟩, rfl, w2.symm, trivial⟩, sameR _ _, ⟨rfl, rfl, rfl, rfl, rfl, rfl, trivial⟩, trivial, ⟨rfl, trivial⟩, sameR _ _, trivial⟩⟩
    · have h : (!eqO ((xs ++ [oNine]).getD (0 + Int.toNat 0 + (i : Int).toNat) zeroO) (gt xs i)) = true := h
      rw [nine_get _ _ hm', (eqO_iff _ _).2 rfl] at h
      cases h
  · refine ⟨⟨by omega, by omega⟩, by rw [hlen]; show 0 + (xs.length : Int).toNat < _; omega, ?_⟩
    show some (Value.bool (decide (((xs ++ [oNine]).getD (0 + (xs.length : Int).toNat) zeroO).x = 9))) = some (Value.bool true)
    rw [nine_end]
    rfl
end Go.AM
