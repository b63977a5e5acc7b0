import Derived.Test.YtbehdodaaobcdaaGreatDoorA20
import Derived.Test.YtbehdodaaobcdaaGreatDoorA00
set_option maxHeartbeats 4000000
open Go Go.AM Go.Proofs
namespace Go.AM
open Dist
theorem drop_gt {xs : List OpI} {k : Nat} (h : k < xs.length) : xs.drop k = gt xs k :: xs.drop (k + 1) := by
  rw [List.drop_eq_getElem_cons h]
  have : gt xs k = xs[k] := by
    unfold gt
    rw [List.getD_eq_getElem?_getD, List.getElem?_eq_getElem h]
    rfl
  rw [this]
theorem sameR (C : Codec) (xs : List C.τ) : SameRows C xs C xs := ⟨rfl, rfl⟩
theorem roEqs (r : List (Nat × Nat)) (C : Codec) (xs : List C.τ) : Blk.eqs r (.ro 0 C xs) (.ro 0 C xs) := by
  simp only [Blk.eqs]
  rw [if_pos ⟨trivial, trivial⟩]
  exact sameR C xs
theorem leafRC {C : Codec} {xs : List C.τ} {n m : Int} (h : m = n) : MatchTo 1 [.v (.one (.con .i64 n))] [.ro 0 C xs] ([(I' m).sh 1], .ro 0 C xs :: shH 1 []) := by
  rw [MatchTo_eq]
  exact (show MatchBy 1 (mkRen 1 [.v (.one (.con .i64 n))] [.ro 0 C xs] [(I' m).sh 1] (.ro 0 C xs :: shH 1 [])) [.v (.one (.con .i64 n))] [.ro 0 C xs] [(I' m).sh 1] (.ro 0 C xs :: shH 1 []) = ((m = n ∧ True) ∧ Blk.eqs (mkRen 1 [.v (.one (.con .i64 n))] [.ro 0 C xs] [(I' m).sh 1] (.ro 0 C xs :: shH 1 [])) (.ro 0 C xs) (.ro 0 C xs) ∧ True) by kernel_rfl).mpr ⟨⟨h, trivial⟩, roEqs _ C xs, trivial⟩
theorem leafRS {C : Codec} {xs : List C.τ} {n m : Int} (h : m = n) : MatchTo 1 [.v (.one (.sym .i64 n))] [.ro 0 C xs] ([(I' m).sh 1], .ro 0 C xs :: shH 1 []) := by
  rw [MatchTo_eq]
  exact (show MatchBy 1 (mkRen 1 [.v (.one (.sym .i64 n))] [.ro 0 C xs] [(I' m).sh 1] (.ro 0 C xs :: shH 1 [])) [.v (.one (.sym .i64 n))] [.ro 0 C xs] [(I' m).sh 1] (.ro 0 C xs :: shH 1 []) = ((m = n ∧ True) ∧ Blk.eqs (mkRen 1 [.v (.one (.sym .i64 n))] [.ro 0 C xs] [(I' m).sh 1] (.ro 0 C xs :: shH 1 [])) (.ro 0 C xs) (.ro 0 C xs) ∧ True) by kernel_rfl).mpr ⟨⟨h, trivial⟩, roEqs _ C xs, trivial⟩
theorem nfMaps (xs : List OpI) (c : Nat) (K : KV) : call P R0 (annMaps xs) 100000 Tryz.f38 [.v (.one (.rs 0 12 xs.length c))] [.ro 0 cOp xs] K = ((decide ((192:Int)<(↑xs.length:Int))=true->K (.v (.one (.con .i64 2))) [Blk.ro 0 cOp xs])/\(decide ((192:Int)<(↑xs.length:Int))=false->(∃ (z : { p:Nat × Int//p.1<=xs.length/\mapsL xs (0:Int)=mapsL (List.drop p.1 xs) p.2 }),((xs.length=xs.length/\c=c)/\z.1.2=0/\(xs.length=xs.length/\c=c)/\(↑xs.length:Int)=(↑xs.length:Int)/\(↑z.1.1:Int)=0/\True)/\SameRows cOp xs cOp xs/\True)/\∀ (x : { p:Nat × Int//p.1<=xs.length/\mapsL xs (0:Int)=mapsL (List.drop p.1 xs) p.2 }),(decide ((↑x.1.1:Int)<(↑xs.length:Int))=true->((0:Int)<=(↑x.1.1:Int)/\(↑x.1.1:Int)<(↑xs.length:Int))/\(↑x.1.1:Int).toNat.succ.le xs.length/\(decide (oM oneO (gt xs x.1.1)=3)=true->K (.v (.one (.sym .i64 (oM oneO (gt xs x.1.1))))) [Blk.ro 0 cOp xs])/\(decide (oM oneO (gt xs x.1.1)=3)=false->(decide (oM oneO (gt xs x.1.1)=4)=true->∃ (z : { p:Nat × Int//p.1<=xs.length/\mapsL xs (0:Int)=mapsL (List.drop p.1 xs) p.2 }),(xs.length-z.1.1).succ.le (xs.length-x.1.1)/\((xs.length=xs.length/\c=c)/\z.1.2=oM oneO (gt xs x.1.1)/\(xs.length=xs.length/\c=c)/\(↑xs.length:Int)=(↑xs.length:Int)/\(↑z.1.1:Int)=IntKind.i64.wrap ((↑x.1.1:Int)+1)/\True)/\SameRows cOp xs cOp xs/\True)/\(decide (oM oneO (gt xs x.1.1)=4)=false->∃ (z : { p:Nat × Int//p.1<=xs.length/\mapsL xs (0:Int)=mapsL (List.drop p.1 xs) p.2 }),(xs.length-z.1.1).succ.le (xs.length-x.1.1)/\((xs.length=xs.length/\c=c)/\z.1.2=x.1.2/\(xs.length=xs.length/\c=c)/\(↑xs.length:Int)=(↑xs.length:Int)/\(↑z.1.1:Int)=IntKind.i64.wrap ((↑x.1.1:Int)+1)/\True)/\SameRows cOp xs cOp xs/\True)))/\(decide ((↑x.1.1:Int)<(↑xs.length:Int))=false->K (.v (.one (.sym .i64 x.1.2))) [Blk.ro 0 cOp xs]))) := by kernel_rfl
theorem mapsL_step {xs : List OpI} {k : Nat} {w : Int} (h : k < xs.length) : mapsL (xs.drop k) w = if oM oneO (gt xs k) = 3 then 3 else mapsL (xs.drop (k + 1)) (if oM oneO (gt xs k) = 4 then 4 else w) := by
  rw [drop_gt h]
  rfl
def qMaps : RSpec cOp := fun os xs => match os with
  | [] => some (True, I' (mapsE xs), [])
  | _ => none
theorem callMaps (xs : List OpI) (c : Nat) : CallR P R0 (annMaps xs) 100000 Tryz.f38 [.v (.one (.rs 0 12 xs.length c))] [.ro 0 cOp xs] (fun v' h' => MatchTo 1 [v'] h' ([(I' (mapsE xs)).sh 1], .ro 0 cOp xs :: shH 1 [])) := by
  refine ⟨?_⟩
  rw [nfMaps]
  refine ⟨fun h => leafRC ?_, fun h => ⟨⟨⟨(0, 0), Nat.zero_le _, rfl⟩, ⟨⟨rfl, rfl⟩, rfl, ⟨rfl, rfl⟩, rfl, rfl, trivial⟩, sameR _ _, trivial⟩, fun x => ⟨fun hk => ?_, fun hk => leafRS ?_⟩⟩⟩
  · simp only [decide_eq_true_eq] at h
    simp [mapsE, h]
  · obtain ⟨⟨k, w⟩, hle, hx⟩ := x
    simp only [decide_eq_true_eq, decide_eq_false_iff_not] at h hk hx
    have hk' : k < xs.length := by omega
    have hw := wr_id (n := (k : Int) + 1) (by omega) (by omega)
    have hst := mapsL_step (w := w) hk'
    refine ⟨⟨by omega, hk⟩, hk', fun h3 => leafRS ?_, fun h3 => ⟨fun h4 => ⟨⟨(k + 1, 4), by omega, ?_⟩, show xs.length - (k + 1) < xs.length - k by omega, ⟨⟨rfl, rfl⟩, (of_decide_eq_true h4).symm, ⟨rfl, rfl⟩, rfl, hw.symm, trivial⟩, sameR _ _, trivial⟩,
      fun h4 => ⟨⟨(k + 1, w), by omega, ?_⟩, show xs.length - (k + 1) < xs.length - k by omega, ⟨⟨rfl, rfl⟩, rfl, ⟨rfl, rfl⟩, rfl, hw.symm, trivial⟩, sameR _ _, trivial⟩⟩⟩
    · show mapsE xs = oM oneO (gt xs k)
      have h3 : oM oneO (gt xs k) = 3 := of_decide_eq_true h3
      rw [mapsE, if_neg h, hx, hst, if_pos h3, h3]
    · show mapsL xs 0 = mapsL (xs.drop (k + 1)) 4
      rw [hx, hst, if_neg (of_decide_eq_false h3), if_pos (of_decide_eq_true h4)]
    · show mapsL xs 0 = mapsL (xs.drop (k + 1)) w
      rw [hx, hst, if_neg (of_decide_eq_false h3), if_neg (of_decide_eq_false h4)]
  · obtain ⟨⟨k, w⟩, hle, hx⟩ := x
    simp only [decide_eq_false_iff_not] at h hk hx
    have : k = xs.length := by omega
    subst this
    show mapsE xs = w
    rw [mapsE, if_neg h, hx, List.drop_length]
    rfl
theorem hrMaps : HoldsR P 38 0 cOp qMaps := by
  refine ⟨Tryz.f38, by kernel_rfl, by kernel_rfl, fun os (xs : List OpI) p v hs hq hp hno c => ?_⟩
  match os, hq with
  | [], hq =>
    obtain ⟨rfl, rfl, rfl⟩ : p = True ∧ v = I' (mapsE xs) ∧ hs = [] := by
      have := Option.some.inj hq
      simp only [Prod.mk.injEq] at this
      exact ⟨this.1.symm, this.2.1.symm, this.2.2.symm⟩
    exact ⟨100000, annMaps xs, R0, rfl, pR0, callMaps xs c⟩
def R1 : Sums := R0.addSp 38 (rowSpec 0 cOp qMaps)
theorem pR1 : OkS P R1 := pR0.addRow fine hrMaps
end Go.AM
open Go Go.AM Go.Proofs
namespace Go.AM
open Dist
def eqO (x y : OpI) : Bool := ((decide (x.a = y.a) && (decide (x.b = y.b) && (decide (x.c = y.c) && true))) && ((decide (x.d = y.d) && (decide (x.e = y.e) && (decide (x.f = y.f) && true))) && ((decide (x.g = y.g) && (decide (x.h = y.h) && (decide (x.i = y.i) && true))) && true))) && ((decide (x.x = y.x) && (decide (x.y = y.y) && (decide (x.z = y.z) && true))) && true)
theorem eqO_iff (x y : OpI) : eqO x y = true ↔ y = x := by
  unfold eqO
  simp only [Bool.and_true, Bool.and_eq_true, decide_eq_true_eq]
  refine ⟨fun h => ?_, fun h => by subst h; simp⟩
  obtain ⟨⟨⟨h1, h2, h3⟩, ⟨h4, h5, hh6⟩, h7, h8, h9⟩, k10, k11, k12⟩ := h
  exact OpI.ext' h1.symm h2.symm h3.symm h4.symm h5.symm hh6.symm h7.symm h8.symm h9.symm k10.symm k11.symm k12.symm
theorem keyOp : KeyLaw P 45 cOp := by
  refine ⟨fun (x y : OpI) => ⟨false, eqO x y, by kernel_rfl, eqO_iff x y⟩, fun (x : OpI) s hs => ?_⟩
  have : s ∈ opS x := hs
  simp only [opS, List.mem_cons, List.not_mem_nil, or_false] at this
  rcases this with h | h | h | h | h | h | h | h | h | h | h | h <;> (subst h; rfl)
def placesF : List OpI → Nat → List (OpI × Int) → List (OpI × Int)
  | [], _, es => es
  | o :: l, i, es => placesF l (i + 1) (mput cOp es o (i : Int))
def placesL (l : List OpI) : List (OpI × Int) := placesF l 0 []
def annPlaces (xs : List OpI) : Annos := ⟨1, fun id env h => if id = 3 then forceE (keepS [3, 7, 8, 9] 0 env) fun env => some ⟨{ p : Nat × List (OpI × Int) // p.1 ≤ xs.length ∧ placesF (xs.drop p.1) p.1 p.2 = placesL xs }, fun p => (set env 9 (I' (p.1.1 : Int)), headH 1 h ++ [.omp cOp p.1.2]), fun p => xs.length - p.1.1⟩ else none, fun _ _ _ => []⟩
end Go.AM
open Go Go.AM Go.Proofs
namespace Go.AM
open Dist
theorem nfPlaces (xs : List OpI) (c : Nat) (K : KV) : call P R1 (annPlaces xs) 100000 Tryz.f44 [.v (.one (.rs 0 12 xs.length c))] [.ro 0 cOp xs] K = ((∃ (z : { p:Nat × List (OpI × Int)//p.1<=xs.length/\placesF (List.drop p.1 xs) p.1 p.2=placesL xs }),((xs.length=xs.length/\c=c)/\(↑xs.length:Int)=(↑xs.length:Int)/\(↑z.1.1:Int)=0/\True)/\SameRows cOp xs cOp xs/\EntsM cOp z.1.2 []/\True)/\∀ (x : { p:Nat × List (OpI × Int)//p.1<=xs.length/\placesF (List.drop p.1 xs) p.1 p.2=placesL xs }),(decide ((↑x.1.1:Int)<(↑xs.length:Int))=true->((0:Int)<=(↑x.1.1:Int)/\(↑x.1.1:Int)<(↑xs.length:Int))/\(↑x.1.1:Int).toNat.succ.le xs.length/\KeyLaw P 45 cOp/\∃ (z : { p:Nat × List (OpI × Int)//p.1<=xs.length/\placesF (List.drop p.1 xs) p.1 p.2=placesL xs }),(xs.length-z.1.1).succ.le (xs.length-x.1.1)/\((xs.length=xs.length/\c=c)/\(↑xs.length:Int)=(↑xs.length:Int)/\(↑z.1.1:Int)=IntKind.i64.wrap ((↑x.1.1:Int)+1)/\True)/\SameRows cOp xs cOp xs/\SameEnts cOp z.1.2 cOp (mput cOp x.1.2 (gt xs x.1.1) (↑x.1.1:Int))/\True)/\(decide ((↑x.1.1:Int)<(↑xs.length:Int))=false->K (.v (.one (SV.mp (nat_lit 1)))) [Blk.ro 0 cOp xs,Blk.omp cOp x.1.2])) := by kernel_rfl
theorem callPlaces (xs : List OpI) (c : Nat) (hl : xs.length ≤ 4611686018427387904) : CallR P R1 (annPlaces xs) 100000 Tryz.f44 [.v (.one (.rs 0 12 xs.length c))] [.ro 0 cOp xs] (fun v' h' => MatchTo 1 [v'] h' ([(AV.v (.one (.mp 0))).sh 1], .ro 0 cOp xs :: shH 1 [.omp cOp (placesL xs)])) := by
  refine ⟨?_⟩
  rw [nfPlaces]
  refine ⟨⟨⟨(0, []), Nat.zero_le _, rfl⟩, ⟨⟨rfl, rfl⟩, rfl, rfl, trivial⟩, sameR _ _, ⟨trivial⟩, trivial⟩, fun x => ⟨fun hk => ?_, fun hk => ?_⟩⟩
  · obtain ⟨⟨k, es⟩, hle, hx⟩ := x
    have hk' : (k : Int) < xs.length := of_decide_eq_true hk
    have hk'' : k < xs.length := by omega
    have hw := wr_id (n := (k : Int) + 1) (by omega) (by omega)
    refine ⟨⟨by show (0 : Int) ≤ k; omega, hk'⟩, hk'', keyOp, ⟨(k + 1, mput cOp es (gt xs k) (k : Int)), by show k + 1 ≤ _; omega, ?_⟩, show xs.length - (k + 1) < xs.length - k by omega, ⟨⟨rfl, rfl⟩, rfl, hw.symm, trivial⟩, sameR _ _, ⟨rfl⟩, trivial⟩
    have hx : placesF (xs.drop k) k es = placesL xs := hx
    rw [drop_gt hk''] at hx
    exact hx
  · obtain ⟨⟨k, es⟩, hle, hx⟩ := x
    have hk' : ¬ (k : Int) < xs.length := of_decide_eq_false hk
    have hle : k ≤ xs.length := hle
    obtain rfl : k = xs.length := by omega
    have hx : placesF (xs.drop xs.length) xs.length es = placesL xs := hx
    rw [List.drop_length] at hx
    obtain rfl : es = placesL xs := hx
    exact (show MatchTo 1 [.v (.one (.mp 1))] [.ro 0 cOp xs, .omp cOp (placesL xs)] ([(AV.v (.one (.mp 0))).sh 1], .ro 0 cOp xs :: shH 1 [.omp cOp (placesL xs)]) = (True ∧ SameRows cOp xs cOp xs ∧ SameEnts cOp (placesL xs) cOp (placesL xs) ∧ True) by kernel_rfl).mpr ⟨trivial, sameR _ _, ⟨rfl⟩, trivial⟩
def qPlaces : RSpec cOp := fun os xs => match os with
  | [] => some (List.length xs ≤ 4611686018427387904, .v (.one (.mp 0)), [.omp cOp (placesL xs)])
  | _ => none
theorem hrPlaces : HoldsR P 44 0 cOp qPlaces := by
  refine ⟨Tryz.f44, by kernel_rfl, by kernel_rfl, fun os (xs : List OpI) p v hs hq hp hno c => ?_⟩
  match os, hq with
  | [], hq =>
    have := Option.some.inj hq
    simp only [Prod.mk.injEq] at this
    obtain ⟨rfl, rfl, rfl⟩ := this
    exact ⟨100000, annPlaces xs, R1, rfl, pR1, callPlaces xs c hp⟩
theorem mix_none {α : Type} {d : DecidableEq α} {x : α} : ∀ {es : List (α × Int)} {i : Nat}, mix d x es i = none ↔ ∀ e ∈ es, e.1 ≠ x
  | [], i => by simp [mix]
  | (y, n) :: l, i => by
    simp only [mix]
    split
    · rename_i hxy _
      simp [hxy]
    · rename_i hxy _
      rw [mix_none (es := l)]
      constructor
      · intro h e he
        rcases List.mem_cons.1 he with rfl | he
        · exact hxy
        · exact h e he
      · intro h e he
        exact h e (List.mem_cons_of_mem _ he)
theorem mput_keys {C : Codec} {x : C.τ} {n : Int} {es : List (C.τ × Int)} (y : C.τ) : (∃ e ∈ mput C es x n, e.1 = y) ↔ (∃ e ∈ es, e.1 = y) ∨ y = x := by
  unfold mput
  cases hm : mix C.deq x es 0 with
  | none =>
    simp only [List.mem_append, List.mem_singleton]
    constructor
    · rintro ⟨e, h | h, rfl⟩
      · exact .inl ⟨e, h, rfl⟩
      · subst h; exact .inr rfl
    · rintro (⟨e, h, rfl⟩ | rfl)
      · exact ⟨e, .inl h, rfl⟩
      · exact ⟨_, .inr rfl, rfl⟩
  | some z =>
    obtain ⟨j, n0⟩ := z
    obtain ⟨k, hk, hg⟩ := mix_get hm
    rw [Nat.zero_add] at hk
    subst hk
    simp only
    obtain ⟨hlt, hge⟩ := List.getElem?_eq_some_iff.1 hg
    constructor
    · rintro ⟨e, h, rfl⟩
      rcases List.mem_or_eq_of_mem_set h with h | h
      · exact .inl ⟨e, h, rfl⟩
      · subst h; exact .inr rfl
    · rintro (⟨e, h, rfl⟩ | rfl)
      · obtain ⟨i, hi, he⟩ := List.mem_iff_getElem.1 h
        by_cases hij : j = i
        · subst hij
          have : e = (x, n0) := he.symm.trans hge
          exact ⟨(x, n), List.mem_iff_getElem.2 ⟨j, by simpa using hlt, by simp⟩, by rw [this]⟩
        · exact ⟨e, List.mem_iff_getElem.2 ⟨i, by simpa using hi, by simp [List.getElem_set, hij, he]⟩, rfl⟩
      · exact ⟨(y, n), List.mem_iff_getElem.2 ⟨j, by simpa using hlt, by simp⟩, rfl⟩
theorem mhas_iff {C : Codec} {es : List (C.τ × Int)} {y : C.τ} : mhas C es y = true ↔ ∃ e ∈ es, e.1 = y := by
  unfold mhas mget
  cases hm : mix C.deq y es 0 with
  | none =>
    have := mix_none.1 hm
    simp only [Bool.false_eq_true, false_iff]
    rintro ⟨e, h1, h2⟩
    exact this e h1 h2
  | some z =>
    simp only [true_iff]
    obtain ⟨j, n0⟩ := z
    obtain ⟨k, hk, hg⟩ := mix_get hm
    exact ⟨_, List.mem_of_getElem? hg, rfl⟩
theorem placesF_keys (y : OpI) : ∀ (l : List OpI) (i : Nat) (es : List (OpI × Int)), (∃ e ∈ placesF l i es, e.1 = y) ↔ (∃ e ∈ es, e.1 = y) ∨ y ∈ l
  | [], i, es => by simp [placesF]
  | o :: l, i, es => by
    have h1 := placesF_keys y l (i + 1) (mput cOp es o (i : Int))
    have h2 : (∃ e ∈ mput cOp es o (i : Int), e.1 = y) ↔ (∃ e ∈ es, e.1 = y) ∨ y = o := mput_keys (C := cOp) y
    have h3 : y ∈ o :: l ↔ y = o ∨ y ∈ l := List.mem_cons
    rw [h3]
    exact h1.trans ((or_congr h2 Iff.rfl).trans or_assoc)
theorem mhas_places (xs : List OpI) (y : OpI) : mhas cOp (placesL xs) y = decide (y ∈ xs) := by
  have h1 : mhas cOp (placesL xs) y = true ↔ ∃ e ∈ placesL xs, e.1 = y := mhas_iff (C := cOp)
  have h2 := placesF_keys y xs 0 []
  rw [Bool.eq_iff_iff, h1]
  exact h2.trans (by simp)
def R2 : Sums := R1.addSp 44 (rowSpec 0 cOp qPlaces)
theorem pR2 : OkS P R2 := pR1.addRow fine hrPlaces
end Go.AM
open Go Go.AM Go.Proofs
namespace Go.AM
open Dist
def innerC (a : OpI) : List OpI → List OpI → Option (List OpI)
  | [], all => some all
  | o :: l, all => if oM o a = 0 then (if oR o a ∈ all then innerC a l all else if all.length = 192 then none else innerC a l (all ++ [oR o a])) else none
def outerC (xs : List OpI) : Nat → Nat → List OpI → Option (List OpI)
  | 0, _, all => some all
  | n + 1, i, all => if i < all.length then (match innerC (gt all i) xs all with
    | some l => outerC xs n (i + 1) l
    | none => none) else some all
def closeL (xs : List OpI) : Option (List OpI) := outerC xs 193 0 [oneO]
def sortO (l : List OpI) : List OpI := l.mergeSort fun x y => !decide (oC y x < 0)
def closeE (xs : List OpI) : Int := if mapsE xs ≠ 0 then mapsE xs else match closeL xs with
  | some _ => 0
  | none => 5
def closeR (xs : List OpI) : List OpI := if mapsE xs ≠ 0 then [] else match closeL xs with
  | some l => sortO l
  | none => []
theorem inner_len {a : OpI} : ∀ {l all r : List OpI}, innerC a l all = some r → all.length ≤ 192 → r.length ≤ 192 ∧ ∃ m, r = all ++ m
  | [], all, r, h, hl => by
    simp only [innerC, Option.some.injEq] at h
    subst h
    exact ⟨hl, [], by simp⟩
  | o :: l, all, r, h, hl => by
    unfold innerC at h
    split at h
    · split at h
      · exact inner_len h hl
      · split at h
        · cases h
        · rename_i hne
          obtain ⟨h1, m, h2⟩ := inner_len h (by rw [List.length_append, List.length_singleton]; omega)
          exact ⟨h1, [oR o a] ++ m, by rw [h2, List.append_assoc]⟩
    · cases h
structure SeenM (all : List OpI) (es : List (OpI × Int)) : Prop where
  pos : ∀ p, 0 < mval cOp es p ↔ p ∈ all
def mgetR (x : OpI) : List (OpI × Int) → Option Int
  | [] => none
  | (y, m) :: l => if y = x then some m else mgetR x l
def mputR (x : OpI) (n : Int) : List (OpI × Int) → List (OpI × Int)
  | [] => [(x, n)]
  | (y, m) :: l => if y = x then (x, n) :: l else (y, m) :: mputR x n l
theorem mix_at {d : DecidableEq OpI} {x : OpI} : ∀ (es : List (OpI × Int)) (i : Nat), (mix d x es i).map (·.2) = mgetR x es ∧ ∀ j m n, mix d x es i = some (j, m) → i ≤ j ∧ es.set (j - i) (x, n) = mputR x n es
  | [], i => ⟨rfl, fun j m n h => by simp [mix] at h⟩
  | (y, v) :: es, i => by
    unfold mix mgetR mputR
    split
    · rename_i hy _
      refine ⟨by rw [if_pos hy]; rfl, fun j m n h => ?_⟩
      simp only [Option.some.injEq, Prod.mk.injEq] at h
      obtain ⟨rfl, rfl⟩ := h
      rw [if_pos hy]
      exact ⟨Nat.le_refl _, by simp⟩
    · rename_i hy _
      obtain ⟨h1, h2⟩ := mix_at (d := d) (x := x) es (i + 1)
      refine ⟨by rw [if_neg hy]; exact h1, fun j m n h => ?_⟩
      obtain ⟨h3, h4⟩ := h2 j m n h
      rw [if_neg hy, ← h4]
      refine ⟨by omega, ?_⟩
      have e : j - i = (j - (i + 1)) + 1 := by omega
      rw [e]
      rfl
theorem mget_eq (es : List (OpI × Int)) (x : OpI) : mget cOp es x = mgetR x es := by
  have h := (mix_at (d := cOp.deq) (x := x) es 0).1
  unfold mget
  cases hm : mix cOp.deq x es 0 with
  | none => rw [hm] at h; exact h
  | some p => obtain ⟨j, m⟩ := p; rw [hm] at h; exact h
theorem mputR_none {x : OpI} {n : Int} : ∀ {es : List (OpI × Int)}, mgetR x es = none → mputR x n es = es ++ [(x, n)]
  | [], _ => rfl
  | (y, m) :: l, h => by
    unfold mgetR at h
    split at h
    · cases h
    · rename_i hy
      unfold mputR
      rw [if_neg hy, mputR_none h]
      rfl
theorem mput_eq (es : List (OpI × Int)) (x : OpI) (n : Int) : mput cOp es x n = mputR x n es := by
  have h := mix_at (d := cOp.deq) (x := x) es 0
  unfold mput
  cases hm : mix cOp.deq x es 0 with
  | none =>
    have h1 := h.1
    rw [hm] at h1
    exact (mputR_none h1.symm).symm
  | some p =>
    obtain ⟨j, m⟩ := p
    exact (h.2 j m n hm).2
theorem mgetR_put (x y : OpI) (n : Int) : ∀ es : List (OpI × Int), mgetR y (mputR x n es) = if x = y then some n else mgetR y es
  | [] => rfl
  | (z, m) :: l => by
    unfold mputR
    by_cases hz : z = x
    · rw [if_pos hz]
      unfold mgetR
      subst hz
      by_cases hy : z = y
      · rw [if_pos hy, if_pos hy]
      · rw [if_neg hy, if_neg hy, if_neg hy]
    · rw [if_neg hz]
      show (if z = y then some m else mgetR y (mputR x n l)) = if x = y then some n else if z = y then some m else mgetR y l
      rw [mgetR_put x y n l]
      by_cases hy : z = y
      · rw [if_pos hy, if_pos hy, if_neg (fun e => hz (hy.trans e.symm))]
      · rw [if_neg hy, if_neg hy]
theorem mval_put (es : List (OpI × Int)) (x y : OpI) (n : Int) : mval cOp (mput cOp es x n) y = if x = y then n else mval cOp es y := by
  unfold mval
  rw [mget_eq, mget_eq, mput_eq, mgetR_put]
  by_cases h : x = y
  · rw [if_pos h, if_pos h]
  · rw [if_neg h, if_neg h]
theorem SeenM.put {all : List OpI} {es : List (OpI × Int)} (h : SeenM all es) (p : OpI) : SeenM (all ++ [p]) (mput cOp es p 1) := ⟨fun q => by
  rw [mval_put]
  by_cases e : p = q
  · rw [if_pos e]
    subst e
    simp
  · rw [if_neg e, h.pos]
    simp only [List.mem_append, List.mem_singleton]
    constructor
    · exact .inl
    · rintro (h | h)
      · exact h
      · exact absurd h.symm e⟩
theorem seen_one : SeenM [oneO] (mput cOp [] oneO 1) := by
  have h : SeenM [] [] := ⟨fun p => by
    have : mval cOp [] p = 0 := rfl
    rw [this]
    simp⟩
  exact h.put oneO
end Go.AM
open Go Go.AM Go.Proofs
namespace Go.AM
open Dist
theorem thenC_assoc (a b c : Int) : thenC (thenC a b) c = thenC a (thenC b c) := by
  unfold thenC
  by_cases h : a = 0
  · simp [h]
  · simp [h]
def cmpL : List Int → List Int → Int
  | a :: l, b :: m => thenC (icmp a b) (cmpL l m)
  | _, _ => 0
def toL (o : OpI) : List Int := [o.a, o.b, o.c, o.d, o.e, o.f, o.g, o.h, o.i, o.x, o.y, o.z]
theorem thenC_nil (a : Int) : thenC a 0 = a := by
  unfold thenC
  by_cases h : a = 0
  · simp [h]
  · simp [h]
theorem oC_L (x y : OpI) : oC x y = cmpL (toL x) (toL y) := by
  unfold oC cmp12 cmp9 toL
  simp only [cmpL, thenC_assoc, thenC_nil]
theorem thenC_lt {c d : Int} : thenC c d < 0 ↔ c < 0 ∨ (c = 0 ∧ d < 0) := by
  unfold thenC
  by_cases h : c = 0
  · simp [h]
  · rw [if_neg h]
    omega
theorem icmp_lt {a b : Int} : icmp a b < 0 ↔ a < b := by
  rcases icmp_cases a b with ⟨h1, h2⟩ | ⟨h1, h2⟩ | ⟨h1, h2⟩ <;> omega
theorem cmpL_lt {a b : Int} {l m : List Int} : cmpL (a :: l) (b :: m) < 0 ↔ a < b ∨ (a = b ∧ cmpL l m < 0) := by
  show thenC (icmp a b) (cmpL l m) < 0 ↔ _
  rw [thenC_lt, icmp_lt, icmp_zero]
theorem cmpL_irr : ∀ l : List Int, ¬ cmpL l l < 0
  | [] => by simp [cmpL]
  | a :: l => by
    rw [cmpL_lt]
    have := cmpL_irr l
    omega
theorem cmpL_trans : ∀ {l m n : List Int}, l.length = m.length → m.length = n.length → cmpL l m < 0 → cmpL m n < 0 → cmpL l n < 0
  | [], _, _, _, _, h, _ => by simp [cmpL] at h
  | _ :: _, [], _, h, _, _, _ => by simp at h
  | _ :: _, _ :: _, [], _, h, _, _ => by simp at h
  | a :: l, b :: m, c :: n, h1, h2, h3, h4 => by
    rw [cmpL_lt] at *
    rcases h3 with h3 | ⟨h3, h5⟩
    · rcases h4 with h4 | ⟨h4, hh6⟩ <;> omega
    · rcases h4 with h4 | ⟨h4, hh6⟩
      · omega
      · exact .inr ⟨by omega, cmpL_trans (by simpa using h1) (by simpa using h2) h5 hh6⟩
theorem cmpL_eq : ∀ {l m : List Int}, l.length = m.length → ¬ cmpL l m < 0 → ¬ cmpL m l < 0 → l = m
  | [], [], _, _, _ => rfl
  | [], _ :: _, h, _, _ => by simp at h
  | _ :: _, [], h, _, _ => by simp at h
  | a :: l, b :: m, h, h1, h2 => by
    rw [cmpL_lt] at h1 h2
    have e : a = b := by omega
    subst e
    rw [cmpL_eq (l := l) (m := m) (by simpa using h) (fun h3 => h1 (.inr ⟨rfl, h3⟩)) (fun h3 => h2 (.inr ⟨rfl, h3⟩))]
theorem toL_inj {x y : OpI} (h : toL x = toL y) : x = y := by
  unfold toL at h
  simp only [List.cons.injEq, and_true] at h
  obtain ⟨h1, h2, h3, h4, h5, hh6, h7, h8, h9, k10, k11, k12⟩ := h
  exact OpI.ext' h1 h2 h3 h4 h5 hh6 h7 h8 h9 k10 k11 k12
theorem oC_tot {x y : OpI} (h1 : ¬ oC x y < 0) (h2 : ¬ oC y x < 0) : x = y := by
  rw [oC_L] at h1 h2
  exact toL_inj (cmpL_eq rfl h1 h2)
theorem oC_swo : Sort.SWO (ltOf oC) where
  irrefl x := by unfold ltOf; rw [oC_L]; exact decide_eq_false (cmpL_irr _)
  trans x y z h1 h2 := by
    unfold ltOf at *
    rw [oC_L] at *
    exact decide_eq_true (cmpL_trans (m := toL y) rfl rfl (of_decide_eq_true h1) (of_decide_eq_true h2))
  ntrans x y z h1 h2 := by
    unfold ltOf at *
    have h1 := of_decide_eq_false h1
    have h2 := of_decide_eq_false h2
    refine decide_eq_false fun h3 => ?_
    by_cases e : oC y x < 0
    · rw [oC_L] at *
      exact h2 (cmpL_trans (m := toL x) rfl rfl e h3)
    · rw [oC_tot h1 e] at h3
      exact h2 h3
theorem cOp_val (t : cOp.τ) : (valsOf (cOp.enc t)).isSome = true := rfl
theorem oC_runs (x y : OpI) (W : World) : Calls P 41 #[.agg (evl cOp x).toArray, .agg (evl cOp y).toArray] W fun e w' => e = .returned (.int .i64 (oC x y)) ∧ ∃ q os, w' = Sort.grow (W.drewN q) os :=
  pure_grow fine pZC2 (g := 41) (p := liftQ [] qOcmp) rfl (args := [.v (.agg (opS x)), .v (.agg (opS y))]) (av := I (oC x y)) (.inl rfl) rfl (vals := [.agg (evl cOp x).toArray, .agg (evl cOp y).toArray])
    ⟨⟨evl cOp x, rfl, (valsOf_spec rfl).1⟩, ⟨evl cOp y, rfl, (valsOf_spec rfl).1⟩, trivial⟩ W
end Go.AM
open Go Go.AM Go.Proofs
namespace Go.AM
open Dist
instance instInhOp : Inhabited OpI := ⟨cOp.d⟩
theorem sort_runs (blk cap : Nat) (d : List cOp.τ) (w : World) (hH : Sort.HoldsK (evl cOp) cOp.esz w blk 0 d.toArray) (hb : blk < w.heap.size) (hl : d.length < 4611686018427387904) :
    Calls P 40 #[.slice (some ⟨blk, 0, none⟩) d.length cap, .func (.func 41) #[] #[]] w fun e w' => e = .returned (.tuple #[]) ∧ ∃ n os, w' = sortWorldK (evl cOp) cOp.esz w blk 0 n (sortO d).toArray os := by
  have h := AnyQ.slices_SortFunc_total (P := P) Tryz.sortOp 12 (fun w => Tryz.isAgg45 w) (fun w => Tryz.sizeOf45 w) (evl cOp) (evl_len cOp_val) (fun x v hv => by
      simp only [evl, valsOf, SV.val, opS, Option.getD_some, List.mem_cons, List.not_mem_nil, or_false] at hv
      rcases hv with rfl | rfl | rfl | rfl | rfl | rfl | rfl | rfl | rfl | rfl | rfl | rfl <;> rfl) oC oC_swo 41 #[] blk 0 cap d.toArray w
    (enters_of Tryz.func41 (by kernel_rfl) rfl) (fun m os dk _ x y => oC_runs x y _) hH hb (by simpa using hl) (fun x y h1 h2 => oC_tot (of_decide_eq_false h1) (of_decide_eq_false h2))
  change Calls P 40 _ _ _ at h
  simpa [sortO, ltOf] using h
theorem sortO_len (l : List OpI) : (sortO l).length = l.length := List.length_mergeSort _
def RC : Sums := R1.addSp 40 (sortSpec 45 cOp 41 sortO)
theorem pRC : OkS P RC := pR1.addSort ⟨_, Tryz.func40, by kernel_rfl⟩ cOp_val (by decide) sort_runs sortO_len
end Go.AM
open Go Go.AM Go.Proofs
namespace Go.AM
open Dist
def sortedB : List OpI → Bool
  | [] => true
  | [_] => true
  | o :: q :: l => decide (oC o q < 0) && sortedB (q :: l)
def pairB (xs : List OpI) (o q : OpI) : Bool := decide (oM o q = 0) && decide (oR o q ∈ xs)
def rowB (xs : List OpI) (o : OpI) : Bool := xs.all (pairB xs o)
def closedB (xs : List OpI) : Bool := xs.all (rowB xs)
def checkP (xs : List OpI) : Int := if mapsE xs ≠ 0 then mapsE xs else if sortedB xs && (decide (oneO ∈ xs) && closedB xs) then 0 else 5
def withI (a : AV) (K : Int → Option Ann) : Option Ann := match a with
  | .v (.one (.con _ n)) => K n
  | .v (.one (.sym _ n)) => K n
  | _ => none
def annCheck (xs : List OpI) : Annos := ⟨1, fun id env h =>
  if id = 5 then forceE (keepS [0, 4] 0 env) fun env => some ⟨{ i : Nat // 1 ≤ i ∧ i ≤ max 1 xs.length ∧ sortedB xs = sortedB (xs.drop (i - 1)) }, fun i => (set env 4 (I' (i.1 : Int)), headH 1 h), fun i => xs.length - i.1⟩
  else if id = 14 then forceE (keepS [0, 5, 48, 49, 50] 0 env) fun env => some ⟨{ i : Nat // i ≤ xs.length ∧ closedB xs = (xs.drop i).all (rowB xs) }, fun i => (set env 50 (I' (i.1 : Int)), headH 3 h), fun i => xs.length - i.1⟩
  else if id = 17 then forceE (keepS [0, 5, 9, 48, 49, 50, 54, 55, 56] 0 env) fun env => withI (getD env 50 AV.any) fun i => some ⟨{ j : Nat // j ≤ xs.length ∧ rowB xs (gt xs i.toNat) = (xs.drop j).all (pairB xs (gt xs i.toNat)) }, fun j => (set env 56 (I' (j.1 : Int)), headH 4 h), fun j => xs.length - j.1⟩
  else none, fun _ _ _ => []⟩
end Go.AM
open Go Go.AM Go.Proofs
namespace Go.AM
open Dist
def contC (xs : List OpI) (n i : Nat) : Option (List OpI) → Option (List OpI)
  | some l => outerC xs n (i + 1) l
  | none => none
def annClose (xs : List OpI) : Annos := ⟨1, fun id env h =>
  if id = 7 then forceE (keepS [0] 0 env) fun env => some ⟨{ p : Nat × List OpI × List (OpI × Int) // p.1 ≤ p.2.1.length ∧ p.2.1.length ≤ 192 ∧ SeenM p.2.1 p.2.2 ∧ closeL xs = outerC xs (193 - p.1) p.1 p.2.1 },
    fun p => (set (set (set env 5 (.v (.one (.ow 1 12 0 p.1.2.1.length false)))) 6 (.v (.one (.mp 2)))) 7 (I' (p.1.1 : Int)), app (headH 1 h) [.own 45 cOp p.1.2.1, .omp cOp p.1.2.2]), fun p => 192 - p.1.1⟩
  else if id = 10 then forceE (keepS [0, 7, 28, 29] 0 env) fun env => withI (getD env 7 AV.any) fun i => some ⟨{ p : Nat × List OpI × List (OpI × Int) // p.1 ≤ xs.length ∧ i.toNat < p.2.1.length ∧ p.2.1.length ≤ 192 ∧ SeenM p.2.1 p.2.2 ∧ closeL xs = contC xs (192 - i.toNat) i.toNat (innerC (gt p.2.1 i.toNat) (xs.drop p.1) p.2.1) },
    fun p => (set (set (set env 5 (.v (.one (.ow 1 12 0 p.1.2.1.length false)))) 6 (.v (.one (.mp 2)))) 30 (I' (p.1.1 : Int)), app (headH 1 h) [.own 45 cOp p.1.2.1, .omp cOp p.1.2.2]), fun p => xs.length - p.1.1⟩
  else none, fun _ _ _ => []⟩
end Go.AM
