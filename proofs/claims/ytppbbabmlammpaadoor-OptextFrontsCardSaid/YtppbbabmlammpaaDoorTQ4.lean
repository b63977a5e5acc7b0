import Derived.Test.YtppbbabmlammpaaDoorTQ3
set_option linter.unusedVariables false
set_option linter.unusedSimpArgs false
open Go Go.AM Go.Proofs
namespace Go.AM
open Dist
set_option maxRecDepth 100000
theorem nfins (s : List UInt8) (i a : Int) (R : Bool) (K : KV) : call P (YB stdOn) (annIn s i R) 10000 Tryd.f22 [.v (.one (.str s)), .v (.one (.sym .i64 i)), .v (.one (.sym .i64 a))] [] K = ((decide (i ≤ a) = true → K (AV.v (PV.one (SV.cb false))) []) ∧ (decide (i ≤ a) = false → (decide (a < (0 : Int)) = true → K (AV.v (PV.one (SV.cb false))) []) ∧ (decide (a < (0 : Int)) = false → (∃ (z : { k : Nat // (↑k : Int) ≤ i ∧ insP s i.toNat k = R }), (s = s ∧ i = i ∧ (↑z.val : Int) = a ∧ True) ∧ True) ∧ ∀ (x : { k : Nat // (↑k : Int) ≤ i ∧ insP s i.toNat k = R }), (decide ((↑x.val : Int) < i) = true → ((0 : Int) ≤ (↑x.val : Int) ∧ (↑x.val : Int) < (↑s.length : Int)) ∧ ((!decide ((↑(s.getD (↑x.val : Int).toNat (0 : UInt8)).toNat : Int) = (47 : Int))) = true → ((0 : Int) ≤ (↑x.val : Int) ∧ (↑x.val : Int) < (↑s.length : Int)) ∧ (decide ((↑(s.getD (↑x.val : Int).toNat (0 : UInt8)).toNat : Int) < (48 : Int)) = true → K (AV.v (PV.one (SV.cb false))) []) ∧ (decide ((↑(s.getD (↑x.val : Int).toNat (0 : UInt8)).toNat : Int) < (48 : Int)) = false → ((0 : Int) ≤ (↑x.val : Int) ∧ (↑x.val : Int) < (↑s.length : Int)) ∧ (decide ((57 : Int) < (↑(s.getD (↑x.val : Int).toNat (0 : UInt8)).toNat : Int)) = true → K (AV.v (PV.one (SV.cb false))) []) ∧ (decide ((57 : Int) < (↑(s.getD (↑x.val : Int).toNat (0 : UInt8)).toNat : Int)) = false → ∃ (z : { k : Nat // (↑k : Int) ≤ i ∧ insP s i.toNat k = R }), (i.toNat - z.val).succ.le (i.toNat - x.val) ∧ (s = s ∧ i = i ∧ (↑z.val : Int) = IntKind.i64.wrap ((↑x.val : Int) + (1 : Int)) ∧ True) ∧ True))) ∧ ((!decide ((↑(s.getD (↑x.val : Int).toNat (0 : UInt8)).toNat : Int) = (47 : Int))) = false → ∃ (z : { k : Nat // (↑k : Int) ≤ i ∧ insP s i.toNat k = R }), (i.toNat - z.val).succ.le (i.toNat - x.val) ∧ (s = s ∧ i = i ∧ (↑z.val : Int) = IntKind.i64.wrap ((↑x.val : Int) + (1 : Int)) ∧ True) ∧ True)) ∧ (decide ((↑x.val : Int) < i) = false → K (AV.v (PV.one (SV.cb true))) [])))) := by kernel_rfl
theorem insP_step {s : List UInt8} {i k : Nat} (hk : k < i) (hi : i ≤ s.length) : insP s i k = (sdD (s.getD k 0) && insP s i (k + 1)) := by
  unfold insP
  rw [List.drop_eq_getElem_cons (by omega), show i - k = (i - (k + 1)) + 1 by omega, List.take_succ_cons, List.getD_eq_getElem?_getD, List.getElem?_eq_getElem (by omega)]
  rfl
theorem insP_end (s : List UInt8) (i : Nat) : insP s i i = true := by
  unfold insP
  rw [Nat.sub_self]
  rfl
theorem inside_run {s : List UInt8} {i a : Int} {R : Bool} (hs : s.length ≤ 10000) (h0 : 0 ≤ i) (h1 : i ≤ s.length) (hR : R = insP s i.toNat a.toNat) :
    call P (YB stdOn) (annIn s i R) 10000 Tryd.f22 [.v (.one (.str s)), .v (.one (.sym .i64 i)), .v (.one (.sym .i64 a))] [] (fun v' h => v'.valOf = some (.bool (insF s i a)) ∧ h = []) := by
  rw [nfins]
  refine ⟨fun h => ?_, fun h => ⟨fun h' => ?_, fun h' => ⟨?_, fun x => ?_⟩⟩⟩
  · rw [show insF s i a = false from if_pos (.inl (of_decide_eq_true h))]
    exact ⟨rfl, rfl⟩
  · rw [show insF s i a = false from if_pos (.inr (of_decide_eq_true h'))]
    exact ⟨rfl, rfl⟩
  · have h := of_decide_eq_false h
    have h' := of_decide_eq_false h'
    exact ⟨⟨a.toNat, by omega, hR.symm⟩, ⟨rfl, rfl, by show ((a.toNat : Nat) : Int) = a; omega, trivial⟩, trivial⟩
  · have h := of_decide_eq_false h
    have h' := of_decide_eq_false h'
    have hF : insF s i a = R := by rw [hR]; exact if_neg (by omega)
    rw [hF]
    obtain ⟨k, hkk⟩ : ∃ k, k = x.val := ⟨_, rfl⟩
    have k1 := x.2.1
    have k2 := x.2.2
    rw [show ((x.val : Int)).toNat = x.val from Int.toNat_natCast _]
    rw [← hkk] at k1 k2 ⊢
    clear hkk
    refine ⟨fun hk => ?_, fun hk => ?_⟩
    · have hk : k < i.toNat := by have := of_decide_eq_true hk; omega
      have b1 : (0 : Int) ≤ (k : Int) ∧ (k : Int) < (s.length : Int) := ⟨by omega, by omega⟩
      have st := insP_step (s := s) hk (by omega)
      rw [k2] at st
      have wi : IntKind.i64.wrap ((k : Int) + 1) = ((k + 1 : Nat) : Int) := by rw [wr_id (by omega) (by omega)]; omega
      have go : sdD (s.getD k 0) = true → ∃ (z : { k : Nat // (k : Int) ≤ i ∧ insP s i.toNat k = R }), (i.toNat - z.val).succ.le (i.toNat - k) ∧ (s = s ∧ i = i ∧ (↑z.val : Int) = IntKind.i64.wrap ((k : Int) + (1 : Int)) ∧ True) ∧ True := fun hd => by
        refine ⟨⟨k + 1, by omega, by rw [st, hd]; rfl⟩, by show i.toNat - (k + 1) + 1 ≤ i.toNat - k; omega, ⟨rfl, rfl, wi.symm, trivial⟩, trivial⟩
      have no : sdD (s.getD k 0) = false → (AV.v (PV.one (SV.cb false))).valOf = some (.bool R) ∧ ([] : Heap) = [] := fun hd => by
        rw [st, hd]
        exact ⟨rfl, rfl⟩
      refine ⟨b1, fun c1 => ⟨b1, fun c2 => no ?_, fun c2 => ⟨b1, fun c3 => no ?_, fun c3 => go ?_⟩⟩, fun c1 => go ?_⟩
      · have c1 : ¬ ((s.getD k 0).toNat : Int) = 47 := by simpa using c1
        have c2 := of_decide_eq_true c2
        unfold sdD digR
        rw [decide_eq_false c1, decide_eq_false (by omega)]
        rfl
      · have c1 : ¬ ((s.getD k 0).toNat : Int) = 47 := by simpa using c1
        have c3 := of_decide_eq_true c3
        unfold sdD digR
        rw [decide_eq_false c1, decide_eq_false (p := ((s.getD k 0).toNat : Int) ≤ 57) (by omega), Bool.and_false]
        rfl
      · have c2 := of_decide_eq_false c2
        have c3 := of_decide_eq_false c3
        unfold sdD digR
        rw [decide_eq_true (p := (48 : Int) ≤ ((s.getD k 0).toNat : Int)) (by omega), decide_eq_true (p := ((s.getD k 0).toNat : Int) ≤ 57) (by omega)]
        simp
      · have c1 : ((s.getD k 0).toNat : Int) = 47 := by simpa using c1
        unfold sdD
        rw [decide_eq_true c1]
        rfl
    · have hk : k = i.toNat := by have := of_decide_eq_false hk; omega
      rw [hk, insP_end] at k2
      rw [← k2]
      exact ⟨rfl, rfl⟩
theorem hInside : HoldsE P 22 qInside := by
  refine ⟨Tryd.f22, by kernel_rfl, by kernel_rfl, fun args av hg => ?_⟩
  unfold qInside at hg
  split at hg
  · rename_i s i a
    obtain ⟨⟨q1, q2, q3⟩, rfl⟩ := givesIff hg
    refine ⟨rfl, .bool (insF s i a), 10000, annIn s i (insP s i.toNat a.toNat), YB stdOn, rfl, pYB stdOn, rfl, inside_run q1 q2 q3 rfl⟩
  · exact (gives_fail hg).elim
theorem pYE (o : OnB) : OkS P (YE o) := (pYB o).add fine hInside
end Go.AM
