import Derived.Test.YtagcmdpmmmbedaaGreatDoorKB0
open Go Go.AM Go.Proofs
namespace Go.AM
open Dist
theorem nfKeeps (a b c d e f : Int) (xs : List OpI) (cc : Nat) (K : KV) : call P KR0 (annKeeps a b c d e f xs cc) 100000 Tryz.f7 [M6 a b c d e f, .v (.one (.rs 0 12 xs.length cc))] [.ro 0 cOp xs] K = ((∃ (z : List cOp.τ), SameRows cOp z cOp xs ∧ (xs.length = xs.length ∧ True) ∧ ((!decide (checkP z = (0 : Int))) = true → (decide (checkC a b c d e f = (0 : Int)) = true → ∃ (z_1 : Unit), ((xs.length = xs.length ∧ cc = cc) ∧ keepsE a b c d e f xs = checkP z ∧ True) ∧ SameRows cOp xs cOp xs ∧ (a = a ∧ b = b ∧ c = c ∧ d = d ∧ e = e ∧ f = f ∧ True) ∧ True) ∧ (decide (checkC a b c d e f = (0 : Int)) = false → (decide (checkP z < checkC a b c d e f) = true → ∃ (z_1 : Unit), ((xs.length = xs.length ∧ cc = cc) ∧ keepsE a b c d e f xs = checkP z ∧ True) ∧ SameRows cOp xs cOp xs ∧ (a = a ∧ b = b ∧ c = c ∧ d = d ∧ e = e ∧ f = f ∧ True) ∧ True) ∧ (decide (checkP z < checkC a b c d e f) = false → ∃ (z : Unit), ((xs.length = xs.length ∧ cc = cc) ∧ keepsE a b c d e f xs = checkC a b c d e f ∧ True) ∧ SameRows cOp xs cOp xs ∧ (a = a ∧ b = b ∧ c = c ∧ d = d ∧ e = e ∧ f = f ∧ True) ∧ True))) ∧ ((!decide (checkP z = (0 : Int))) = false → ∃ (z : Unit), ((xs.length = xs.length ∧ cc = cc) ∧ keepsE a b c d e f xs = checkC a b c d e f ∧ True) ∧ SameRows cOp xs cOp xs ∧ (a = a ∧ b = b ∧ c = c ∧ d = d ∧ e = e ∧ f = f ∧ True) ∧ True)) ∧ ∀ (x : Unit), ((!decide (keepsE a b c d e f xs = (0 : Int))) = true → K (AV.tup [PV.one (SV.cb false), PV.one (SV.sym IntKind.i64 (keepsE a b c d e f xs))]) [Blk.ro 0 cOp xs]) ∧ ((!decide (keepsE a b c d e f xs = (0 : Int))) = false → (∃ (z : { i : Nat // i ≤ xs.length ∧ xs.all (keepsB a b c d e f) = (List.drop i xs).all (keepsB a b c d e f) }), ((xs.length = xs.length ∧ cc = cc) ∧ (↑xs.length : Int) = (↑xs.length : Int) ∧ (↑z.val : Int) = (0 : Int) ∧ True) ∧ SameRows cOp xs cOp xs ∧ True ∧ (a = a ∧ f = f ∧ e = e ∧ f = f ∧ b = b ∧ d = d ∧ e = e ∧ d = d ∧ c = c ∧ True) ∧ True) ∧ ∀ (x : { i : Nat // i ≤ xs.length ∧ xs.all (keepsB a b c d e f) = (List.drop i xs).all (keepsB a b c d e f) }), (decide ((↑x.val : Int) < (↑xs.length : Int)) = true → ((0 : Int) ≤ (↑x.val : Int) ∧ (↑x.val : Int) < (↑xs.length : Int)) ∧ (↑x.val : Int).toNat.succ.le xs.length ∧ ((!decide (prod9 a f e f b d e d c (zb (ovO (gt xs x.val)) (gt xs x.val).a) (zb (ovO (gt xs x.val)) (gt xs x.val).d) (zb (ovO (gt xs x.val)) (gt xs x.val).g) (zb (ovO (gt xs x.val)) (gt xs x.val).a) (zb (ovO (gt xs x.val)) (gt xs x.val).d) (zb (ovO (gt xs x.val)) (gt xs x.val).g) = a)) = true → K (AV.tup [PV.one (SV.cb false), PV.one (SV.con IntKind.i64 (0 : Int))]) [Blk.ro 0 cOp xs]) ∧ ((!decide (prod9 a f e f b d e d c (zb (ovO (gt xs x.val)) (gt xs x.val).a) (zb (ovO (gt xs x.val)) (gt xs x.val).d) (zb (ovO (gt xs x.val)) (gt xs x.val).g) (zb (ovO (gt xs x.val)) (gt xs x.val).a) (zb (ovO (gt xs x.val)) (gt xs x.val).d) (zb (ovO (gt xs x.val)) (gt xs x.val).g) = a)) = false → ((!decide (prod9 a f e f b d e d c (zb (ovO (gt xs x.val)) (gt xs x.val).a) (zb (ovO (gt xs x.val)) (gt xs x.val).d) (zb (ovO (gt xs x.val)) (gt xs x.val).g) (zb (ovO (gt xs x.val)) (gt xs x.val).b) (zb (ovO (gt xs x.val)) (gt xs x.val).e) (zb (ovO (gt xs x.val)) (gt xs x.val).h) = f)) = true → K (AV.tup [PV.one (SV.cb false), PV.one (SV.con IntKind.i64 (0 : Int))]) [Blk.ro 0 cOp xs]) ∧ ((!decide (prod9 a f e f b d e d c (zb (ovO (gt xs x.val)) (gt xs x.val).a) (zb (ovO (gt xs x.val)) (gt xs x.val).d) (zb (ovO (gt xs x.val)) (gt xs x.val).g) (zb (ovO (gt xs x.val)) (gt xs x.val).b) (zb (ovO (gt xs x.val)) (gt xs x.val).e) (zb (ovO (gt xs x.val)) (gt xs x.val).h) = f)) = false → ((!decide (prod9 a f e f b d e d c (zb (ovO (gt xs x.val)) (gt xs x.val).a) (zb (ovO (gt xs x.val)) (gt xs x.val).d) (zb (ovO (gt xs x.val)) (gt xs x.val).g) (zb (ovO (gt xs x.val)) (gt xs x.val).c) (zb (ovO (gt xs x.val)) (gt xs x.val).f) (zb (ovO (gt xs x.val)) (gt xs x.val).i) = e)) = true → K (AV.tup [PV.one (SV.cb false), PV.one (SV.con IntKind.i64 (0 : Int))]) [Blk.ro 0 cOp xs]) ∧ ((!decide (prod9 a f e f b d e d c (zb (ovO (gt xs x.val)) (gt xs x.val).a) (zb (ovO (gt xs x.val)) (gt xs x.val).d) (zb (ovO (gt xs x.val)) (gt xs x.val).g) (zb (ovO (gt xs x.val)) (gt xs x.val).c) (zb (ovO (gt xs x.val)) (gt xs x.val).f) (zb (ovO (gt xs x.val)) (gt xs x.val).i) = e)) = false → ((!decide (prod9 a f e f b d e d c (zb (ovO (gt xs x.val)) (gt xs x.val).b) (zb (ovO (gt xs x.val)) (gt xs x.val).e) (zb (ovO (gt xs x.val)) (gt xs x.val).h) (zb (ovO (gt xs x.val)) (gt xs x.val).a) (zb (ovO (gt xs x.val)) (gt xs x.val).d) (zb (ovO (gt xs x.val)) (gt xs x.val).g) = f)) = true → K (AV.tup [PV.one (SV.cb false), PV.one (SV.con IntKind.i64 (0 : Int))]) [Blk.ro 0 cOp xs]) ∧ ((!decide (prod9 a f e f b d e d c (zb (ovO (gt xs x.val)) (gt xs x.val).b) (zb (ovO (gt xs x.val)) (gt xs x.val).e) (zb (ovO (gt xs x.val)) (gt xs x.val).h) (zb (ovO (gt xs x.val)) (gt xs x.val).a) (zb (ovO (gt xs x.val)) (gt xs x.val).d) (zb (ovO (gt xs x.val)) (gt xs x.val).g) = f)) = false → ((!decide (prod9 a f e f b d e d c (zb (ovO (gt xs x.val)) (gt xs x.val).b) (zb (ovO (gt xs x.val)) (gt xs x.val).e) (zb (ovO (gt xs x.val)) (gt xs x.val).h) (zb (ovO (gt xs x.val)) (gt xs x.val).b) (zb (ovO (gt xs x.val)) (gt xs x.val).e) (zb (ovO (gt xs x.val)) (gt xs x.val).h) = b)) = true → K (AV.tup [PV.one (SV.cb false), PV.one (SV.con IntKind.i64 (0 : Int))]) [Blk.ro 0 cOp xs]) ∧ ((!decide (prod9 a f e f b d e d c (zb (ovO (gt xs x.val)) (gt xs x.val).b) (zb (ovO (gt xs x.val)) (gt xs x.val).e) (zb (ovO (gt xs x.val)) (gt xs x.val).h) (zb (ovO (gt xs x.val)) (gt xs x.val).b) (zb (ovO (gt xs x.val)) (gt xs x.val).e) (zb (ovO (gt xs x.val)) (gt xs x.val).h) = b)) = false → ((!decide (prod9 a f e f b d e d c (zb (ovO (gt xs x.val)) (gt xs x.val).b) (zb (ovO (gt xs x.val)) (gt xs x.val).e) (zb (ovO (gt xs x.val)) (gt xs x.val).h) (zb (ovO (gt xs x.val)) (gt xs x.val).c) (zb (ovO (gt xs x.val)) (gt xs x.val).f) (zb (ovO (gt xs x.val)) (gt xs x.val).i) = d)) = true → K (AV.tup [PV.one (SV.cb false), PV.one (SV.con IntKind.i64 (0 : Int))]) [Blk.ro 0 cOp xs]) ∧ ((!decide (prod9 a f e f b d e d c (zb (ovO (gt xs x.val)) (gt xs x.val).b) (zb (ovO (gt xs x.val)) (gt xs x.val).e) (zb (ovO (gt xs x.val)) (gt xs x.val).h) (zb (ovO (gt xs x.val)) (gt xs x.val).c) (zb (ovO (gt xs x.val)) (gt xs x.val).f) (zb (ovO (gt xs x.val)) (gt xs x.val).i) = d)) = false → ((!decide (prod9 a f e f b d e d c (zb (ovO (gt xs x.val)) (gt xs x.val).c) (zb (ovO (gt xs x.val)) (gt xs x.val).f) (zb (ovO (gt xs x.val)) (gt xs x.val).i) (zb (ovO (gt xs x.val)) (gt xs x.val).a) (zb (ovO (gt xs x.val)) (gt xs x.val).d) (zb (ovO (gt xs x.val)) (gt xs x.val).g) = e)) = true → K (AV.tup [PV.one (SV.cb false), PV.one (SV.con IntKind.i64 (0 : Int))]) [Blk.ro 0 cOp xs]) ∧ ((!decide (prod9 a f e f b d e d c (zb (ovO (gt xs x.val)) (gt xs x.val).c) (zb (ovO (gt xs x.val)) (gt xs x.val).f) (zb (ovO (gt xs x.val)) (gt xs x.val).i) (zb (ovO (gt xs x.val)) (gt xs x.val).a) (zb (ovO (gt xs x.val)) (gt xs x.val).d) (zb (ovO (gt xs x.val)) (gt xs x.val).g) = e)) = false → ((!decide (prod9 a f e f b d e d c (zb (ovO (gt xs x.val)) (gt xs x.val).c) (zb (ovO (gt xs x.val)) (gt xs x.val).f) (zb (ovO (gt xs x.val)) (gt xs x.val).i) (zb (ovO (gt xs x.val)) (gt xs x.val).b) (zb (ovO (gt xs x.val)) (gt xs x.val).e) (zb (ovO (gt xs x.val)) (gt xs x.val).h) = d)) = true → K (AV.tup [PV.one (SV.cb false), PV.one (SV.con IntKind.i64 (0 : Int))]) [Blk.ro 0 cOp xs]) ∧ ((!decide (prod9 a f e f b d e d c (zb (ovO (gt xs x.val)) (gt xs x.val).c) (zb (ovO (gt xs x.val)) (gt xs x.val).f) (zb (ovO (gt xs x.val)) (gt xs x.val).i) (zb (ovO (gt xs x.val)) (gt xs x.val).b) (zb (ovO (gt xs x.val)) (gt xs x.val).e) (zb (ovO (gt xs x.val)) (gt xs x.val).h) = d)) = false → ((!decide (prod9 a f e f b d e d c (zb (ovO (gt xs x.val)) (gt xs x.val).c) (zb (ovO (gt xs x.val)) (gt xs x.val).f) (zb (ovO (gt xs x.val)) (gt xs x.val).i) (zb (ovO (gt xs x.val)) (gt xs x.val).c) (zb (ovO (gt xs x.val)) (gt xs x.val).f) (zb (ovO (gt xs x.val)) (gt xs x.val).i) = c)) = true → K (AV.tup [PV.one (SV.cb false), PV.one (SV.con IntKind.i64 (0 : Int))]) [Blk.ro 0 cOp xs]) ∧ ((!decide (prod9 a f e f b d e d c (zb (ovO (gt xs x.val)) (gt xs x.val).c) (zb (ovO (gt xs x.val)) (gt xs x.val).f) (zb (ovO (gt xs x.val)) (gt xs x.val).i) (zb (ovO (gt xs x.val)) (gt xs x.val).c) (zb (ovO (gt xs x.val)) (gt xs x.val).f) (zb (ovO (gt xs x.val)) (gt xs x.val).i) = c)) = false → ∃ (z : { i : Nat // i ≤ xs.length ∧ xs.all (keepsB a b c d e f) = (List.drop i xs).all (keepsB a b c d e f) }), (xs.length - z.val).succ.le (xs.length - x.val) ∧ ((xs.length = xs.length ∧ cc = cc) ∧ (↑xs.length : Int) = (↑xs.length : Int) ∧ (↑z.val : Int) = IntKind.i64.wrap ((↑x.val : Int) + (1 : Int)) ∧ True) ∧ SameRows cOp xs cOp xs ∧ True ∧ (a = a ∧ f = f ∧ e = e ∧ f = f ∧ b = b ∧ d = d ∧ e = e ∧ d = d ∧ c = c ∧ True) ∧ True)))))))))) ∧ (decide ((↑x.val : Int) < (↑xs.length : Int)) = false → K (AV.tup [PV.one (SV.cb true), PV.one (SV.con IntKind.i64 (0 : Int))]) [Blk.ro 0 cOp xs]))) := by kernel_rfl
theorem leafBC {C : Codec} {xs : List C.τ} {b v : Bool} {n m : Int} (h1 : v = b) (h2 : m = n) : MatchTo 1 [.tup [.one (.cb b), .one (.con .i64 n)]] [.ro 0 C xs] ([(AV.tup [.one (.sb v), .one (.sym .i64 m)]).sh 1], .ro 0 C xs :: shH 1 []) := by
  rw [MatchTo_eq]
  exact (show MatchBy 1 (mkRen 1 [.tup [.one (.cb b), .one (.con .i64 n)]] [.ro 0 C xs] [(AV.tup [.one (.sb v), .one (.sym .i64 m)]).sh 1] (.ro 0 C xs :: shH 1 [])) [.tup [.one (.cb b), .one (.con .i64 n)]] [.ro 0 C xs] [(AV.tup [.one (.sb v), .one (.sym .i64 m)]).sh 1] (.ro 0 C xs :: shH 1 []) = (((v = b ∧ m = n ∧ True) ∧ True) ∧ Blk.eqs (mkRen 1 [.tup [.one (.cb b), .one (.con .i64 n)]] [.ro 0 C xs] [(AV.tup [.one (.sb v), .one (.sym .i64 m)]).sh 1] (.ro 0 C xs :: shH 1 [])) (.ro 0 C xs) (.ro 0 C xs) ∧ True) by kernel_rfl).mpr ⟨⟨⟨h1, h2, trivial⟩, trivial⟩, roEqs _ C xs, trivial⟩
theorem leafBS {C : Codec} {xs : List C.τ} {b v : Bool} {n m : Int} (h1 : v = b) (h2 : m = n) : MatchTo 1 [.tup [.one (.cb b), .one (.sym .i64 n)]] [.ro 0 C xs] ([(AV.tup [.one (.sb v), .one (.sym .i64 m)]).sh 1], .ro 0 C xs :: shH 1 []) := by
  rw [MatchTo_eq]
  exact (show MatchBy 1 (mkRen 1 [.tup [.one (.cb b), .one (.sym .i64 n)]] [.ro 0 C xs] [(AV.tup [.one (.sb v), .one (.sym .i64 m)]).sh 1] (.ro 0 C xs :: shH 1 [])) [.tup [.one (.cb b), .one (.sym .i64 n)]] [.ro 0 C xs] [(AV.tup [.one (.sb v), .one (.sym .i64 m)]).sh 1] (.ro 0 C xs :: shH 1 []) = (((v = b ∧ m = n ∧ True) ∧ True) ∧ Blk.eqs (mkRen 1 [.tup [.one (.cb b), .one (.sym .i64 n)]] [.ro 0 C xs] [(AV.tup [.one (.sb v), .one (.sym .i64 m)]).sh 1] (.ro 0 C xs :: shH 1 [])) (.ro 0 C xs) (.ro 0 C xs) ∧ True) by kernel_rfl).mpr ⟨⟨⟨h1, h2, trivial⟩, trivial⟩, roEqs _ C xs, trivial⟩
def keepsP (a b c d e f : Int) (xs : List OpI) : Bool := decide (keepsE a b c d e f xs = 0) && xs.all (keepsB a b c d e f)
theorem keepsE_check {a b c d e f : Int} {xs : List OpI} (h : keepsE a b c d e f xs = 0) : checkC a b c d e f = 0 ∧ checkP xs = 0 := by
  unfold keepsE at h
  split at h
  · rename_i h1
    exact absurd h h1.1
  · rename_i h1
    refine ⟨h, ?_⟩
    by_cases h2 : checkP xs = 0
    · exact h2
    · exact absurd ⟨h2, .inl h⟩ h1
theorem checkP_len {xs : List OpI} (h : checkP xs = 0) : xs.length ≤ 192 := by
  unfold checkP at h
  split at h
  · rename_i h1
    exact absurd h h1
  · rename_i h1
    have h2 : mapsE xs = 0 := by simpa using h1
    unfold mapsE at h2
    split at h2
    · cases h2
    · omega
theorem callKeeps (a b c d e f : Int) (xs : List OpI) (cc : Nat) : CallR P KR0 (annKeeps a b c d e f xs cc) 100000 Tryz.f7 [M6 a b c d e f, .v (.one (.rs 0 12 xs.length cc))] [.ro 0 cOp xs] (fun v' h' => MatchTo 1 [v'] h' ([(AV.tup [.one (.sb (keepsP a b c d e f xs)), .one (.sym .i64 (keepsE a b c d e f xs))]).sh 1], .ro 0 cOp xs :: shH 1 [])) := by
  refine ⟨?_⟩
  rw [nfKeeps]
  refine ⟨⟨xs, sameR _ _, ⟨rfl, trivial⟩, fun h1 => ⟨fun h2 => ⟨⟨⟩, ⟨⟨rfl, rfl⟩, ?_, trivial⟩, sameR _ _, ⟨rfl, rfl, rfl, rfl, rfl, rfl, trivial⟩, trivial⟩, fun h2 => ⟨fun h3 => ⟨⟨⟩, ⟨⟨rfl, rfl⟩, ?_, trivial⟩, sameR _ _, ⟨rfl, rfl, rfl, rfl, rfl, rfl, trivial⟩, trivial⟩, fun h3 => ⟨⟨⟩, ⟨⟨rfl, rfl⟩, ?_, trivial⟩, sameR _ _, ⟨rfl, rfl, rfl, rfl, rfl, rfl, trivial⟩, trivial⟩⟩⟩, fun h1 => ⟨⟨⟩, ⟨⟨rfl, rfl⟩, ?_, trivial⟩, sameR _ _, ⟨rfl, rfl, rfl, rfl, rfl, rfl, trivial⟩, trivial⟩⟩, fun _ => ⟨fun h => leafBS ?_ rfl, fun h => ?_⟩⟩
  · have h1 : ¬ checkP xs = 0 := by simpa using h1
    have h2 : checkC a b c d e f = 0 := of_decide_eq_true h2
    rw [keepsE, if_pos ⟨h1, .inl h2⟩]
  · have h1 : ¬ checkP xs = 0 := by simpa using h1
    have h3 : checkP xs < checkC a b c d e f := of_decide_eq_true h3
    rw [keepsE, if_pos ⟨h1, .inr h3⟩]
  · have h1 : ¬ checkP xs = 0 := by simpa using h1
    have h2 : ¬ checkC a b c d e f = 0 := of_decide_eq_false h2
    have h3 : ¬ checkP xs < checkC a b c d e f := of_decide_eq_false h3
    rw [keepsE, if_neg (fun h => h.2.elim h2 h3)]
  · have h1 : checkP xs = 0 := by simpa using h1
    rw [keepsE, if_neg (fun h => h.1 h1)]
  · have h : ¬ keepsE a b c d e f xs = 0 := by simpa using h
    simp [keepsP, h]
  have h : keepsE a b c d e f xs = 0 := by simpa using h
  have hlen := checkP_len (keepsE_check h).2
  refine ⟨⟨⟨0, Nat.zero_le _, rfl⟩, ⟨⟨rfl, rfl⟩, rfl, rfl, trivial⟩, sameR _ _, trivial, ⟨rfl, rfl, rfl, rfl, rfl, rfl, rfl, rfl, rfl, trivial⟩, trivial⟩, fun x => ⟨fun hk => ?_, fun hk => ?_⟩⟩
  · obtain ⟨i, h1, h2⟩ := x
    have hk : (i : Int) < xs.length := of_decide_eq_true hk
    have hk' : i < xs.length := by omega
    have w2 := wr_id (n := (i : Int) + 1) (by omega) (by omega)
    have hst := all_step (f := keepsB a b c d e f) hk'
    have bad : keepsB a b c d e f (gt xs i) = false → keepsP a b c d e f xs = false := fun hb => by
      rw [keepsP, h2, hst, hb]
      simp
    refine ⟨⟨by show (0 : Int) ≤ (i : Int); omega, hk⟩, hk', ?_⟩
    refine ⟨fun p => leafBC (bad ?_) h, fun p0 => ?_⟩
    · have p : (!decide (prod9 a f e f b d e d c (tz (gt xs i) (gt xs i).a) (tz (gt xs i) (gt xs i).d) (tz (gt xs i) (gt xs i).g) (tz (gt xs i) (gt xs i).a) (tz (gt xs i) (gt xs i).d) (tz (gt xs i) (gt xs i).g) = a)) = true := p
      rw [Bool.not_eq_true'] at p
      unfold keepsB
      rw [p]
      simp
    have p0 : (!decide (prod9 a f e f b d e d c (tz (gt xs i) (gt xs i).a) (tz (gt xs i) (gt xs i).d) (tz (gt xs i) (gt xs i).g) (tz (gt xs i) (gt xs i).a) (tz (gt xs i) (gt xs i).d) (tz (gt xs i) (gt xs i).g) = a)) = false := p0
    have q0 : decide (prod9 a f e f b d e d c (tz (gt xs i) (gt xs i).a) (tz (gt xs i) (gt xs i).d) (tz (gt xs i) (gt xs i).g) (tz (gt xs i) (gt xs i).a) (tz (gt xs i) (gt xs i).d) (tz (gt xs i) (gt xs i).g) = a) = true := by simpa using p0
    refine ⟨fun p => leafBC (bad ?_) h, fun p1 => ?_⟩
    · have p : (!decide (prod9 a f e f b d e d c (tz (gt xs i) (gt xs i).a) (tz (gt xs i) (gt xs i).d) (tz (gt xs i) (gt xs i).g) (tz (gt xs i) (gt xs i).b) (tz (gt xs i) (gt xs i).e) (tz (gt xs i) (gt xs i).h) = f)) = true := p
      rw [Bool.not_eq_true'] at p
      unfold keepsB
      rw [q0, p]
      simp
    have p1 : (!decide (prod9 a f e f b d e d c (tz (gt xs i) (gt xs i).a) (tz (gt xs i) (gt xs i).d) (tz (gt xs i) (gt xs i).g) (tz (gt xs i) (gt xs i).b) (tz (gt xs i) (gt xs i).e) (tz (gt xs i) (gt xs i).h) = f)) = false := p1
    have q1 : decide (prod9 a f e f b d e d c (tz (gt xs i) (gt xs i).a) (tz (gt xs i) (gt xs i).d) (tz (gt xs i) (gt xs i).g) (tz (gt xs i) (gt xs i).b) (tz (gt xs i) (gt xs i).e) (tz (gt xs i) (gt xs i).h) = f) = true := by simpa using p1
    refine ⟨fun p => leafBC (bad ?_) h, fun p2 => ?_⟩
    · have p : (!decide (prod9 a f e f b d e d c (tz (gt xs i) (gt xs i).a) (tz (gt xs i) (gt xs i).d) (tz (gt xs i) (gt xs i).g) (tz (gt xs i) (gt xs i).c) (tz (gt xs i) (gt xs i).f) (tz (gt xs i) (gt xs i).i) = e)) = true := p
      rw [Bool.not_eq_true'] at p
      unfold keepsB
      rw [q0, q1, p]
      simp
    have p2 : (!decide (prod9 a f e f b d e d c (tz (gt xs i) (gt xs i).a) (tz (gt xs i) (gt xs i).d) (tz (gt xs i) (gt xs i).g) (tz (gt xs i) (gt xs i).c) (tz (gt xs i) (gt xs i).f) (tz (gt xs i) (gt xs i).i) = e)) = false := p2
    have q2 : decide (prod9 a f e f b d e d c (tz (gt xs i) (gt xs i).a) (tz (gt xs i) (gt xs i).d) (tz (gt xs i) (gt xs i).g) (tz (gt xs i) (gt xs i).c) (tz (gt xs i) (gt xs i).f) (tz (gt xs i) (gt xs i).i) = e) = true := by simpa using p2
    refine ⟨fun p => leafBC (bad ?_) h, fun p3 => ?_⟩
    · have p : (!decide (prod9 a f e f b d e d c (tz (gt xs i) (gt xs i).b) (tz (gt xs i) (gt xs i).e) (tz (gt xs i) (gt xs i).h) (tz (gt xs i) (gt xs i).a) (tz (gt xs i) (gt xs i).d) (tz (gt xs i) (gt xs i).g) = f)) = true := p
      rw [Bool.not_eq_true'] at p
      unfold keepsB
      rw [q0, q1, q2, p]
      simp
    have p3 : (!decide (prod9 a f e f b d e d c (tz (gt xs i) (gt xs i).b) (tz (gt xs i) (gt xs i).e) (tz (gt xs i) (gt xs i).h) (tz (gt xs i) (gt xs i).a) (tz (gt xs i) (gt xs i).d) (tz (gt xs i) (gt xs i).g) = f)) = false := p3
    have q3 : decide (prod9 a f e f b d e d c (tz (gt xs i) (gt xs i).b) (tz (gt xs i) (gt xs i).e) (tz (gt xs i) (gt xs i).h) (tz (gt xs i) (gt xs i).a) (tz (gt xs i) (gt xs i).d) (tz (gt xs i) (gt xs i).g) = f) = true := by simpa using p3
    refine ⟨fun p => leafBC (bad ?_) h, fun p4 => ?_⟩
    · have p : (!decide (prod9 a f e f b d e d c (tz (gt xs i) (gt xs i).b) (tz (gt xs i) (gt xs i).e) (tz (gt xs i) (gt xs i).h) (tz (gt xs i) (gt xs i).b) (tz (gt xs i) (gt xs i).e) (tz (gt xs i) (gt xs i).h) = b)) = true := p
      rw [Bool.not_eq_true'] at p
      unfold keepsB
      rw [q0, q1, q2, q3, p]
      simp
    have p4 : (!decide (prod9 a f e f b d e d c (tz (gt xs i) (gt xs i).b) (tz (gt xs i) (gt xs i).e) (tz (gt xs i) (gt xs i).h) (tz (gt xs i) (gt xs i).b) (tz (gt xs i) (gt xs i).e) (tz (gt xs i) (gt xs i).h) = b)) = false := p4
    have q4 : decide (prod9 a f e f b d e d c (tz (gt xs i) (gt xs i).b) (tz (gt xs i) (gt xs i).e) (tz (gt xs i) (gt xs i).h) (tz (gt xs i) (gt xs i).b) (tz (gt xs i) (gt xs i).e) (tz (gt xs i) (gt xs i).h) = b) = true := by simpa using p4
    refine ⟨fun p => leafBC (bad ?_) h, fun p5 => ?_⟩
    · have p : (!decide (prod9 a f e f b d e d c (tz (gt xs i) (gt xs i).b) (tz (gt xs i) (gt xs i).e) (tz (gt xs i) (gt xs i).h) (tz (gt xs i) (gt xs i).c) (tz (gt xs i) (gt xs i).f) (tz (gt xs i) (gt xs i).i) = d)) = true := p
      rw [Bool.not_eq_true'] at p
      unfold keepsB
      rw [q0, q1, q2, q3, q4, p]
      simp
    have p5 : (!decide (prod9 a f e f b d e d c (tz (gt xs i) (gt xs i).b) (tz (gt xs i) (gt xs i).e) (tz (gt xs i) (gt xs i).h) (tz (gt xs i) (gt xs i).c) (tz (gt xs i) (gt xs i).f) (tz (gt xs i) (gt xs i).i) = d)) = false := p5
    have q5 : decide (prod9 a f e f b d e d c (tz (gt xs i) (gt xs i).b) (tz (gt xs i) (gt xs i).e) (tz (gt xs i) (gt xs i).h) (tz (gt xs i) (gt xs i).c) (tz (gt xs i) (gt xs i).f) (tz (gt xs i) (gt xs i).i) = d) = true := by simpa using p5
    refine ⟨fun p => leafBC (bad ?_) h, fun p6 => ?_⟩
    · have p : (!decide (prod9 a f e f b d e d c (tz (gt xs i) (gt xs i).c) (tz (gt xs i) (gt xs i).f) (tz (gt xs i) (gt xs i).i) (tz (gt xs i) (gt xs i).a) (tz (gt xs i) (gt xs i).d) (tz (gt xs i) (gt xs i).g) = e)) = true := p
      rw [Bool.not_eq_true'] at p
      unfold keepsB
      rw [q0, q1, q2, q3, q4, q5, p]
      simp
    have p6 : (!decide (prod9 a f e f b d e d c (tz (gt xs i) (gt xs i).c) (tz (gt xs i) (gt xs i).f) (tz (gt xs i) (gt xs i).i) (tz (gt xs i) (gt xs i).a) (tz (gt xs i) (gt xs i).d) (tz (gt xs i) (gt xs i).g) = e)) = false := p6
    have q6 : decide (prod9 a f e f b d e d c (tz (gt xs i) (gt xs i).c) (tz (gt xs i) (gt xs i).f) (tz (gt xs i) (gt xs i).i) (tz (gt xs i) (gt xs i).a) (tz (gt xs i) (gt xs i).d) (tz (gt xs i) (gt xs i).g) = e) = true := by simpa using p6
    refine ⟨fun p => leafBC (bad ?_) h, fun p7 => ?_⟩
    · have p : (!decide (prod9 a f e f b d e d c (tz (gt xs i) (gt xs i).c) (tz (gt xs i) (gt xs i).f) (tz (gt xs i) (gt xs i).i) (tz (gt xs i) (gt xs i).b) (tz (gt xs i) (gt xs i).e) (tz (gt xs i) (gt xs i).h) = d)) = true := p
      rw [Bool.not_eq_true'] at p
      unfold keepsB
      rw [q0, q1, q2, q3, q4, q5, q6, p]
      simp
    have p7 : (!decide (prod9 a f e f b d e d c (tz (gt xs i) (gt xs i).c) (tz (gt xs i) (gt xs i).f) (tz (gt xs i) (gt xs i).i) (tz (gt xs i) (gt xs i).b) (tz (gt xs i) (gt xs i).e) (tz (gt xs i) (gt xs i).h) = d)) = false := p7
    have q7 : decide (prod9 a f e f b d e d c (tz (gt xs i) (gt xs i).c) (tz (gt xs i) (gt xs i).f) (tz (gt xs i) (gt xs i).i) (tz (gt xs i) (gt xs i).b) (tz (gt xs i) (gt xs i).e) (tz (gt xs i) (gt xs i).h) = d) = true := by simpa using p7
    refine ⟨fun p => leafBC (bad ?_) h, fun p8 => ?_⟩
    · have p : (!decide (prod9 a f e f b d e d c (tz (gt xs i) (gt xs i).c) (tz (gt xs i) (gt xs i).f) (tz (gt xs i) (gt xs i).i) (tz (gt xs i) (gt xs i).c) (tz (gt xs i) (gt xs i).f) (tz (gt xs i) (gt xs i).i) = c)) = true := p
      rw [Bool.not_eq_true'] at p
      unfold keepsB
      rw [q0, q1, q2, q3, q4, q5, q6, q7, p]
      simp
    have p8 : (!decide (prod9 a f e f b d e d c (tz (gt xs i) (gt xs i).c) (tz (gt xs i) (gt xs i).f) (tz (gt xs i) (gt xs i).i) (tz (gt xs i) (gt xs i).c) (tz (gt xs i) (gt xs i).f) (tz (gt xs i) (gt xs i).i) = c)) = false := p8
    have q8 : decide (prod9 a f e f b d e d c (tz (gt xs i) (gt xs i).c) (tz (gt xs i) (gt xs i).f) (tz (gt xs i) (gt xs i).i) (tz (gt xs i) (gt xs i).c) (tz (gt xs i) (gt xs i).f) (tz (gt xs i) (gt xs i).i) = c) = true := by simpa using p8
    have good : keepsB a b c d e f (gt xs i) = true := by
      unfold keepsB
      rw [q0, q1, q2, q3, q4, q5, q6, q7, q8]
      rfl
    refine ⟨⟨i + 1, by omega, ?_⟩, show xs.length - (i + 1) < xs.length - i by omega, ⟨⟨rfl, rfl⟩, rfl, w2.symm, trivial⟩, sameR _ _, trivial, ⟨rfl, rfl, rfl, rfl, rfl, rfl, rfl, rfl, rfl, trivial⟩, trivial⟩
    rw [h2, hst, good]
    rfl
  · obtain ⟨i, h1, h2⟩ := x
    have hk : ¬ (i : Int) < xs.length := of_decide_eq_false hk
    have hj : i = xs.length := by omega
    rw [hj, List.drop_length] at h2
    refine leafBC ?_ h
    rw [keepsP, h2, decide_eq_true h]
    rfl
def qKeeps : RSpec cOp := fun os xs => match os with
  | [.v (.agg [.sym .i64 a, .sym .i64 b, .sym .i64 c, .sym .i64 d, .sym .i64 e, .sym .i64 f])] => some (True, .tup [.one (.sb (keepsP a b c d e f xs)), .one (.sym .i64 (keepsE a b c d e f xs))], [])
  | _ => none
theorem hrKeeps : HoldsR P 7 1 cOp qKeeps := by
  refine ⟨Tryz.f7, by kernel_rfl, by kernel_rfl, fun os (xs : List OpI) p v hs hq hp hno cc => ?_⟩
  unfold qKeeps at hq
  split at hq
  · rename_i a b c d e f
    have := Option.some.inj hq
    simp only [Prod.mk.injEq] at this
    obtain ⟨rfl, rfl, rfl⟩ := this
    exact ⟨100000, annKeeps a b c d e f xs cc, KR0, rfl, oKR0, callKeeps a b c d e f xs cc⟩
  · cases hq
def KR1 : Sums := KR0.addSp 7 (rowSpec 1 cOp qKeeps)
theorem oKR1 : OkS P KR1 := oKR0.addRow fine hrKeeps
end Go.AM
