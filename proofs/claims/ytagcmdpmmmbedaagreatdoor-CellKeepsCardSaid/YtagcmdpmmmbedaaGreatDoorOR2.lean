import Derived.Test.YtagcmdpmmmbedaaGreatDoorOR2a
open Go Go.AM Go.Proofs
namespace Go.AM
open Dist
theorem nfPlaces (xs : List OpI) (c : Nat) (K : KV) : call P R1 (annPlaces xs) 100000 Tryz.f42 [.v (.one (.rs 0 12 xs.length c))] [.ro 0 cOp xs] K = ((∃ (z : { p : Nat × List (OpI × Int) // p.fst ≤ xs.length ∧ placesF (List.drop p.fst xs) p.fst p.snd = placesL xs }), ((xs.length = xs.length ∧ c = c) ∧ (↑xs.length : Int) = (↑xs.length : Int) ∧ (↑z.val.fst : Int) = (0 : Int) ∧ True) ∧ SameRows cOp xs cOp xs ∧ EntsM cOp z.val.snd [] ∧ True) ∧ ∀ (x : { p : Nat × List (OpI × Int) // p.fst ≤ xs.length ∧ placesF (List.drop p.fst xs) p.fst p.snd = placesL xs }), (decide ((↑x.val.fst : Int) < (↑xs.length : Int)) = true → ((0 : Int) ≤ (↑x.val.fst : Int) ∧ (↑x.val.fst : Int) < (↑xs.length : Int)) ∧ (↑x.val.fst : Int).toNat.succ.le xs.length ∧ KeyLaw P (32 : Nat) cOp ∧ ∃ (z : { p : Nat × List (OpI × Int) // p.fst ≤ xs.length ∧ placesF (List.drop p.fst xs) p.fst p.snd = placesL xs }), (xs.length - z.val.fst).succ.le (xs.length - x.val.fst) ∧ ((xs.length = xs.length ∧ c = c) ∧ (↑xs.length : Int) = (↑xs.length : Int) ∧ (↑z.val.fst : Int) = IntKind.i64.wrap ((↑x.val.fst : Int) + (1 : Int)) ∧ True) ∧ SameRows cOp xs cOp xs ∧ SameEnts cOp z.val.snd cOp (mput cOp x.val.snd (gt xs x.val.fst) (↑x.val.fst : Int)) ∧ True) ∧ (decide ((↑x.val.fst : Int) < (↑xs.length : Int)) = false → K (AV.v (PV.one (SV.mp (nat_lit 1)))) [Blk.ro 0 cOp xs, Blk.omp cOp x.val.2])) := by kernel_rfl
theorem callPlaces (xs : List OpI) (c : Nat) (hl : xs.length ≤ 4611686018427387904) : CallR P R1 (annPlaces xs) 100000 Tryz.f42 [.v (.one (.rs 0 12 xs.length c))] [.ro 0 cOp xs] (fun v' h' => MatchTo 1 [v'] h' ([(AV.v (.one (.mp 0))).sh 1], .ro 0 cOp xs :: shH 1 [.omp cOp (placesL xs)])) := by
  refine ⟨?_⟩
  rw [nfPlaces]
  refine ⟨⟨⟨(0, []), Nat.zero_le _, rfl⟩, ⟨⟨rfl, rfl⟩, rfl, rfl, trivial⟩, sameR _ _, ⟨trivial⟩, trivial⟩, fun x => ⟨fun hk => ?_, fun hk => ?_⟩⟩
  · obtain ⟨⟨k, es⟩, hle, hx⟩ := x
    have hk' : (k : Int) < xs.length := of_decide_eq_true hk
    have hk'' : k < xs.length := by omega
    have hw := wr_id (n := (k : Int) + 1) (by omega) (by omega)
    refine ⟨⟨by show (0 : Int) ≤ k; omega, hk'⟩, hk'', keyOp, ⟨(k + 1, mput cOp es (gt xs k) (k : Int)), by show k + 1 ≤ _; omega, ?_⟩, show xs.length - (k + 1) < xs.length - k by omega, ⟨⟨rfl, rfl⟩, rfl, hw.symm, trivial⟩, sameR _ _, ⟨rfl⟩, trivial⟩
    have hx : placesF (xs.drop k) k es = placesL xs := hx
    rw [drop_gt hk''] at hx
    exact hx
  · obtain ⟨⟨k, es⟩, hle, hx⟩ := x
    have hk' : ¬ (k : Int) < xs.length := of_decide_eq_false hk
    have hle : k ≤ xs.length := hle
    obtain rfl : k = xs.length := by omega
    have hx : placesF (xs.drop xs.length) xs.length es = placesL xs := hx
    rw [List.drop_length] at hx
    obtain rfl : es = placesL xs := hx
    exact (show MatchTo 1 [.v (.one (.mp 1))] [.ro 0 cOp xs, .omp cOp (placesL xs)] ([(AV.v (.one (.mp 0))).sh 1], .ro 0 cOp xs :: shH 1 [.omp cOp (placesL xs)]) = (True ∧ SameRows cOp xs cOp xs ∧ SameEnts cOp (placesL xs) cOp (placesL xs) ∧ True) by kernel_rfl).mpr ⟨trivial, sameR _ _, ⟨rfl⟩, trivial⟩
def qPlaces : RSpec cOp := fun os xs => match os with
  | [] => some (List.length xs ≤ 4611686018427387904, .v (.one (.mp 0)), [.omp cOp (placesL xs)])
  | _ => none
theorem hrPlaces : HoldsR P 42 0 cOp qPlaces := by
  refine ⟨Tryz.f42, by kernel_rfl, by kernel_rfl, fun os (xs : List OpI) p v hs hq hp hno c => ?_⟩
  match os, hq with
  | [], hq =>
    have := Option.some.inj hq
    simp only [Prod.mk.injEq] at this
    obtain ⟨rfl, rfl, rfl⟩ := this
    exact ⟨100000, annPlaces xs, R1, rfl, pR1, callPlaces xs c hp⟩
/-- a key is there just where the map is in the list -/
theorem mix_none {α : Type} {d : DecidableEq α} {x : α} : ∀ {es : List (α × Int)} {i : Nat}, mix d x es i = none ↔ ∀ e ∈ es, e.1 ≠ x
  | [], i => by simp [mix]
  | (y, n) :: l, i => by
    simp only [mix]
    split
    · rename_i hxy _
      simp [hxy]
    · rename_i hxy _
      rw [mix_none (es := l)]
      constructor
      · intro h e he
        rcases List.mem_cons.1 he with rfl | he
        · exact hxy
        · exact h e he
      · intro h e he
        exact h e (List.mem_cons_of_mem _ he)
theorem mput_keys {C : Codec} {x : C.τ} {n : Int} {es : List (C.τ × Int)} (y : C.τ) : (∃ e ∈ mput C es x n, e.1 = y) ↔ (∃ e ∈ es, e.1 = y) ∨ y = x := by
  unfold mput
  cases hm : mix C.deq x es 0 with
  | none =>
    simp only [List.mem_append, List.mem_singleton]
    constructor
    · rintro ⟨e, h | h, rfl⟩
      · exact .inl ⟨e, h, rfl⟩
      · subst h; exact .inr rfl
    · rintro (⟨e, h, rfl⟩ | rfl)
      · exact ⟨e, .inl h, rfl⟩
      · exact ⟨_, .inr rfl, rfl⟩
  | some z =>
    obtain ⟨j, n0⟩ := z
    obtain ⟨k, hk, hg⟩ := mix_get hm
    rw [Nat.zero_add] at hk
    subst hk
    simp only
    obtain ⟨hlt, hge⟩ := List.getElem?_eq_some_iff.1 hg
    constructor
    · rintro ⟨e, h, rfl⟩
      rcases List.mem_or_eq_of_mem_set h with h | h
      · exact .inl ⟨e, h, rfl⟩
      · subst h; exact .inr rfl
    · rintro (⟨e, h, rfl⟩ | rfl)
      · obtain ⟨i, hi, he⟩ := List.mem_iff_getElem.1 h
        by_cases hij : j = i
        · subst hij
          have : e = (x, n0) := he.symm.trans hge
          exact ⟨(x, n), List.mem_iff_getElem.2 ⟨j, by simpa using hlt, by simp⟩, by rw [this]⟩
        · exact ⟨e, List.mem_iff_getElem.2 ⟨i, by simpa using hi, by simp [List.getElem_set, hij, he]⟩, rfl⟩
      · exact ⟨(y, n), List.mem_iff_getElem.2 ⟨j, by simpa using hlt, by simp⟩, rfl⟩
theorem mhas_iff {C : Codec} {es : List (C.τ × Int)} {y : C.τ} : mhas C es y = true ↔ ∃ e ∈ es, e.1 = y := by
  unfold mhas mget
  cases hm : mix C.deq y es 0 with
  | none =>
    have := mix_none.1 hm
    simp only [Bool.false_eq_true, false_iff]
    rintro ⟨e, h1, h2⟩
    exact this e h1 h2
  | some z =>
    simp only [true_iff]
    obtain ⟨j, n0⟩ := z
    obtain ⟨k, hk, hg⟩ := mix_get hm
    exact ⟨_, List.mem_of_getElem? hg, rfl⟩
theorem placesF_keys (y : OpI) : ∀ (l : List OpI) (i : Nat) (es : List (OpI × Int)), (∃ e ∈ placesF l i es, e.1 = y) ↔ (∃ e ∈ es, e.1 = y) ∨ y ∈ l
  | [], i, es => by simp [placesF]
  | o :: l, i, es => by
    have h1 := placesF_keys y l (i + 1) (mput cOp es o (i : Int))
    have h2 : (∃ e ∈ mput cOp es o (i : Int), e.1 = y) ↔ (∃ e ∈ es, e.1 = y) ∨ y = o := mput_keys (C := cOp) y
    have h3 : y ∈ o :: l ↔ y = o ∨ y ∈ l := List.mem_cons
    rw [h3]
    exact h1.trans ((or_congr h2 Iff.rfl).trans or_assoc)
theorem mhas_places (xs : List OpI) (y : OpI) : mhas cOp (placesL xs) y = decide (y ∈ xs) := by
  have h1 : mhas cOp (placesL xs) y = true ↔ ∃ e ∈ placesL xs, e.1 = y := mhas_iff (C := cOp)
  have h2 := placesF_keys y xs 0 []
  rw [Bool.eq_iff_iff, h1]
  exact h2.trans (by simp)
def R2 : Sums := R1.addSp 42 (rowSpec 0 cOp qPlaces)
theorem pR2 : OkS P R2 := pR1.addRow fine hrPlaces
end Go.AM
