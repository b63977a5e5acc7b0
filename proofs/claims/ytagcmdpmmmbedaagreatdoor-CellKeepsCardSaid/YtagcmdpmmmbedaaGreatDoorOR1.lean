import Derived.Test.YtagcmdpmmmbedaaGreatDoorOR0
open Go Go.AM Go.Proofs
namespace Go.AM
open Dist
theorem drop_gt {xs : List OpI} {k : Nat} (h : k < xs.length) : xs.drop k = gt xs k :: xs.drop (k + 1) := by
  rw [List.drop_eq_getElem_cons h]
  have : gt xs k = xs[k] := by
    unfold gt
    rw [List.getD_eq_getElem?_getD, List.getElem?_eq_getElem h]
    rfl
  rw [this]
theorem sameR (C : Codec) (xs : List C.τ) : SameRows C xs C xs := ⟨rfl, rfl⟩
theorem roEqs (r : List (Nat × Nat)) (C : Codec) (xs : List C.τ) : Blk.eqs r (.ro 0 C xs) (.ro 0 C xs) := by
  simp only [Blk.eqs]
  rw [if_pos ⟨trivial, trivial⟩]
  exact sameR C xs
/-- the end of a call that reads a row and gives a number -/
theorem leafRC {C : Codec} {xs : List C.τ} {n m : Int} (h : m = n) : MatchTo 1 [.v (.one (.con .i64 n))] [.ro 0 C xs] ([(I' m).sh 1], .ro 0 C xs :: shH 1 []) := by
  rw [MatchTo_eq]
  exact (show MatchBy 1 (mkRen 1 [.v (.one (.con .i64 n))] [.ro 0 C xs] [(I' m).sh 1] (.ro 0 C xs :: shH 1 [])) [.v (.one (.con .i64 n))] [.ro 0 C xs] [(I' m).sh 1] (.ro 0 C xs :: shH 1 []) = ((m = n ∧ True) ∧ Blk.eqs (mkRen 1 [.v (.one (.con .i64 n))] [.ro 0 C xs] [(I' m).sh 1] (.ro 0 C xs :: shH 1 [])) (.ro 0 C xs) (.ro 0 C xs) ∧ True) by kernel_rfl).mpr ⟨⟨h, trivial⟩, roEqs _ C xs, trivial⟩
theorem leafRS {C : Codec} {xs : List C.τ} {n m : Int} (h : m = n) : MatchTo 1 [.v (.one (.sym .i64 n))] [.ro 0 C xs] ([(I' m).sh 1], .ro 0 C xs :: shH 1 []) := by
  rw [MatchTo_eq]
  exact (show MatchBy 1 (mkRen 1 [.v (.one (.sym .i64 n))] [.ro 0 C xs] [(I' m).sh 1] (.ro 0 C xs :: shH 1 [])) [.v (.one (.sym .i64 n))] [.ro 0 C xs] [(I' m).sh 1] (.ro 0 C xs :: shH 1 []) = ((m = n ∧ True) ∧ Blk.eqs (mkRen 1 [.v (.one (.sym .i64 n))] [.ro 0 C xs] [(I' m).sh 1] (.ro 0 C xs :: shH 1 [])) (.ro 0 C xs) (.ro 0 C xs) ∧ True) by kernel_rfl).mpr ⟨⟨h, trivial⟩, roEqs _ C xs, trivial⟩
theorem nfMaps (xs : List OpI) (c : Nat) (K : KV) : call P R0 (annMaps xs) 100000 Tryz.f40 [.v (.one (.rs 0 12 xs.length c))] [.ro 0 cOp xs] K = ((decide ((192 : Int) < (↑xs.length : Int)) = true → K (AV.v (PV.one (SV.con IntKind.i64 (2 : Int)))) [Blk.ro 0 cOp xs]) ∧ (decide ((192 : Int) < (↑xs.length : Int)) = false → (∃ (z : { p : Nat × Int // p.fst ≤ xs.length ∧ mapsL xs (0 : Int) = mapsL (List.drop p.fst xs) p.snd }), ((xs.length = xs.length ∧ c = c) ∧ z.val.snd = (0 : Int) ∧ (xs.length = xs.length ∧ c = c) ∧ (↑xs.length : Int) = (↑xs.length : Int) ∧ (↑z.val.fst : Int) = (0 : Int) ∧ True) ∧ SameRows cOp xs cOp xs ∧ True) ∧ ∀ (x : { p : Nat × Int // p.fst ≤ xs.length ∧ mapsL xs (0 : Int) = mapsL (List.drop p.fst xs) p.snd }), (decide ((↑x.val.fst : Int) < (↑xs.length : Int)) = true → ((0 : Int) ≤ (↑x.val.fst : Int) ∧ (↑x.val.fst : Int) < (↑xs.length : Int)) ∧ (↑x.val.fst : Int).toNat.succ.le xs.length ∧ (decide (oM oneO (gt xs x.val.fst) = (3 : Int)) = true → K (AV.v (PV.one (SV.sym IntKind.i64 (oM oneO (gt xs x.val.fst))))) [Blk.ro 0 cOp xs]) ∧ (decide (oM oneO (gt xs x.val.fst) = (3 : Int)) = false → (decide (oM oneO (gt xs x.val.fst) = (4 : Int)) = true → ∃ (z : { p : Nat × Int // p.fst ≤ xs.length ∧ mapsL xs (0 : Int) = mapsL (List.drop p.fst xs) p.snd }), (xs.length - z.val.fst).succ.le (xs.length - x.val.fst) ∧ ((xs.length = xs.length ∧ c = c) ∧ z.val.snd = oM oneO (gt xs x.val.fst) ∧ (xs.length = xs.length ∧ c = c) ∧ (↑xs.length : Int) = (↑xs.length : Int) ∧ (↑z.val.fst : Int) = IntKind.i64.wrap ((↑x.val.fst : Int) + (1 : Int)) ∧ True) ∧ SameRows cOp xs cOp xs ∧ True) ∧ (decide (oM oneO (gt xs x.val.fst) = (4 : Int)) = false → ∃ (z : { p : Nat × Int // p.fst ≤ xs.length ∧ mapsL xs (0 : Int) = mapsL (List.drop p.fst xs) p.snd }), (xs.length - z.val.fst).succ.le (xs.length - x.val.fst) ∧ ((xs.length = xs.length ∧ c = c) ∧ z.val.snd = x.val.snd ∧ (xs.length = xs.length ∧ c = c) ∧ (↑xs.length : Int) = (↑xs.length : Int) ∧ (↑z.val.fst : Int) = IntKind.i64.wrap ((↑x.val.fst : Int) + (1 : Int)) ∧ True) ∧ SameRows cOp xs cOp xs ∧ True))) ∧ (decide ((↑x.val.fst : Int) < (↑xs.length : Int)) = false → K (AV.v (PV.one (SV.sym IntKind.i64 x.val.snd))) [Blk.ro 0 cOp xs]))) := by kernel_rfl
theorem mapsL_step {xs : List OpI} {k : Nat} {w : Int} (h : k < xs.length) : mapsL (xs.drop k) w = if oM oneO (gt xs k) = 3 then 3 else mapsL (xs.drop (k + 1)) (if oM oneO (gt xs k) = 4 then 4 else w) := by
  rw [drop_gt h]
  rfl
def qMaps : RSpec cOp := fun os xs => match os with
  | [] => some (True, I' (mapsE xs), [])
  | _ => none
theorem callMaps (xs : List OpI) (c : Nat) : CallR P R0 (annMaps xs) 100000 Tryz.f40 [.v (.one (.rs 0 12 xs.length c))] [.ro 0 cOp xs] (fun v' h' => MatchTo 1 [v'] h' ([(I' (mapsE xs)).sh 1], .ro 0 cOp xs :: shH 1 [])) := by
  refine ⟨?_⟩
  rw [nfMaps]
  refine ⟨fun h => leafRC ?_, fun h => ⟨⟨⟨(0, 0), Nat.zero_le _, rfl⟩, ⟨⟨rfl, rfl⟩, rfl, ⟨rfl, rfl⟩, rfl, rfl, trivial⟩, sameR _ _, trivial⟩, fun x => ⟨fun hk => ?_, fun hk => leafRS ?_⟩⟩⟩
  · simp only [decide_eq_true_eq] at h
    simp [mapsE, h]
  · obtain ⟨⟨k, w⟩, hle, hx⟩ := x
    simp only [decide_eq_true_eq, decide_eq_false_iff_not] at h hk hx
    have hk' : k < xs.length := by omega
    have hw := wr_id (n := (k : Int) + 1) (by omega) (by omega)
    have hst := mapsL_step (w := w) hk'
    refine ⟨⟨by omega, hk⟩, hk', fun h3 => leafRS ?_, fun h3 => ⟨fun h4 => ⟨⟨(k + 1, 4), by omega, ?_⟩, show xs.length - (k + 1) < xs.length - k by omega, ⟨⟨rfl, rfl⟩, (of_decide_eq_true h4).symm, ⟨rfl, rfl⟩, rfl, hw.symm, trivial⟩, sameR _ _, trivial⟩,
      fun h4 => ⟨⟨(k + 1, w), by omega, ?_⟩, show xs.length - (k + 1) < xs.length - k by omega, ⟨⟨rfl, rfl⟩, rfl, ⟨rfl, rfl⟩, rfl, hw.symm, trivial⟩, sameR _ _, trivial⟩⟩⟩
    · show mapsE xs = oM oneO (gt xs k)
      have h3 : oM oneO (gt xs k) = 3 := of_decide_eq_true h3
      rw [mapsE, if_neg h, hx, hst, if_pos h3, h3]
    · show mapsL xs 0 = mapsL (xs.drop (k + 1)) 4
      rw [hx, hst, if_neg (of_decide_eq_false h3), if_pos (of_decide_eq_true h4)]
    · show mapsL xs 0 = mapsL (xs.drop (k + 1)) w
      rw [hx, hst, if_neg (of_decide_eq_false h3), if_neg (of_decide_eq_false h4)]
  · obtain ⟨⟨k, w⟩, hle, hx⟩ := x
    simp only [decide_eq_false_iff_not] at h hk hx
    have : k = xs.length := by omega
    subst this
    show mapsE xs = w
    rw [mapsE, if_neg h, hx, List.drop_length]
    rfl
theorem hrMaps : HoldsR P 40 0 cOp qMaps := by
  refine ⟨Tryz.f40, by kernel_rfl, by kernel_rfl, fun os (xs : List OpI) p v hs hq hp hno c => ?_⟩
  match os, hq with
  | [], hq =>
    obtain ⟨rfl, rfl, rfl⟩ : p = True ∧ v = I' (mapsE xs) ∧ hs = [] := by
      have := Option.some.inj hq
      simp only [Prod.mk.injEq] at this
      exact ⟨this.1.symm, this.2.1.symm, this.2.2.symm⟩
    exact ⟨100000, annMaps xs, R0, rfl, pR0, callMaps xs c⟩
def R1 : Sums := R0.addSp 40 (rowSpec 0 cOp qMaps)
theorem pR1 : OkS P R1 := pR0.addRow fine hrMaps
end Go.AM
