import Derived.Test.YtbehdodaaobcdaaGreatDoorA01
import Derived.Deep.MidRow
import Derived.Lib.Strings
import Derived.Laws.AppendOwn
import Derived.Laws.CopyRow
import Derived.Lib.AppendStr
import Derived.Lib.ConvBytes
set_option maxHeartbeats 4000000
namespace Go.AM
open Go
theorem ask_drawn {α : Type} : ∀ (k : Ask α) (w : World), w.drawn ≤ (w.ask k).2.drawn
  | .done _, w => Nat.le_refl _
  | .ask what range k, w => by
    unfold World.ask
    simp only
    split
    · exact ask_drawn (k 0) w
    · exact Nat.le_trans (Nat.le_succ w.drawn) (ask_drawn _ { w with drawn := w.drawn + 1 })
theorem sys_drawn (w : World) (c : Sys) : w.drawn ≤ (w.sys c).2.drawn := by
  have h := ask_drawn (Kernel.perform c w.os) w
  unfold World.sys
  split
  · exact Nat.le_refl _
  · rename_i he
    rw [he] at h
    exact h
theorem view_drawn {p : Program} {w : World} {a : Addr} {u : TypeId} {k : Addr} {v : Value} {b : Bool} {r : World × List Addr} (h : w.viewStore p a u k v b = .ok r) : r.1.drawn = w.drawn := by
  unfold World.viewStore at h
  simp only [bind, Except.bind, pure, Except.pure] at h
  repeat' split at h
  all_goals first
    | (cases h; done)
    | (cases h; rfl)
    | skip
theorem far_drawn {p : Program} {w : World} {a : Addr} {v : Value} {b : Bool} {r : World × List Addr} (h : w.farStore p a v b = .ok r) : r.1.drawn = w.drawn := by
  unfold World.farStore at h
  split at h
  · split at h
    · rename_i hr
      cases h
      exact view_drawn hr
    · cases h
  · cases h
theorem freeze_drawn (w : World) (a : Addr) (n : Nat) : (w.freeze a n).drawn = w.drawn := by unfold World.freeze; split <;> rfl
theorem run_drawn {α : Type} {P : Program} : ∀ (m : Sem α) (w : World) (a : α) (w' : World), m.run P w = .ok a w' → w.drawn ≤ w'.drawn := by
  intro m
  induction m with
  | pure a => intro w b w' h; unfold Sem.run at h; cases h; exact Nat.le_refl _
  | load m a k ih =>
    intro w b w' h
    unfold Sem.run at h
    split at h
    · exact ih _ _ _ _ h
    · split at h
      · exact ih _ _ _ _ h
      · cases h
  | store m a v k ih =>
    intro w b w' h
    have key : ∀ (x : Result _), x = .ok b w' → (x = (match w.cell? a with
      | some _ => if w.frozen? a then .halt (.unsupported (.unsafePointer "a write to bytes that a string shares")) w else k.run P (w.setCell a v)
      | none => match w.farStore P a v (m == .atomic) with
        | .ok (w, _) => k.run P w
        | .error h => .halt h w)) → w.drawn ≤ w'.drawn := by
      intro x hx he
      rw [hx] at he
      split at he
      · split at he
        · cases he
        · have := ih (w.setCell a v) _ _ he.symm
          have e : (w.setCell a v).drawn = w.drawn := by unfold World.setCell; first | rfl | (split <;> rfl)
          rw [e] at this
          exact this
      · split at he
        · rename_i hr
          have := far_drawn hr
          simp only at this
          rw [← this]
          exact ih _ _ _ he.symm
        · cases he
    cases v <;> first
      | (unfold Sem.run at h; cases h; done)
      | (unfold Sem.run at h; exact key _ h rfl)
  | new o k ih => intro w b w' h; unfold Sem.run at h; exact ih _ { w with heap := w.heap.push o } _ _ h
  | shape r k ih => intro w b w' h; unfold Sem.run at h; exact ih _ _ _ _ h
  | freeze a n k ih =>
    intro w b w' h
    unfold Sem.run at h
    have := ih _ _ _ h
    have e : (w.freeze a n).drawn = w.drawn := by unfold World.freeze; split <;> rfl
    rw [e] at this
    exact this
  | frozen a k ih => intro w b w' h; unfold Sem.run at h; exact ih _ _ _ _ h
  | getObj r k ih =>
    intro w b w' h
    unfold Sem.run at h
    split at h
    · cases h
    · exact ih _ _ _ _ h
    · cases h
  | setObj r o k ih =>
    intro w b w' h
    unfold Sem.run at h
    split at h
    · cases h
    · exact ih { w with heap := w.heap.setIfInBounds r o } _ _ h
    · cases h
  | choose q k ih =>
    intro w b w' h
    unfold Sem.run at h
    split at h
    · exact ih _ _ _ _ h
    · exact Nat.le_trans (Nat.le_succ w.drawn) (ih _ { w with drawn := w.drawn + 1 } _ _ h)
  | sys c k ih => intro w b w' h; unfold Sem.run at h; exact Nat.le_trans (sys_drawn w c) (ih _ _ _ _ h)
  | program k ih => intro w b w' h; unfold Sem.run at h; exact ih _ _ _ _ h
  | mark m k ih => intro w b w' h; unfold Sem.run at h; exact ih _ _ _ h
  | halt h' => intro w b w' h; unfold Sem.run at h; cases h
end Go.AM
namespace Go.AM
open Go

theorem SameRows.hl' {C' C : Codec} {xs' : List C'.τ} {xs : List C.τ} (h : SameRows C' xs' C xs) : xs'.length = xs.length := by cases h; assumption
theorem SameRows.hf' {C' C : Codec} {xs' : List C'.τ} {xs : List C.τ} (h : SameRows C' xs' C xs) : flatC C' xs' = flatC C xs := by cases h; assumption
def PV.R (pl : List Pl) : PV → Value → Prop
  | .one s, v => s.R pl v
  | .agg l, v => ∃ vs : List Value, v = .agg vs.toArray ∧ RL pl l vs
def PL (pl : List Pl) : List PV → List Value → Prop
  | [], [] => True
  | s :: l, v :: vs => s.R pl v ∧ PL pl l vs
  | _, _ => False
def AV.R (pl : List Pl) : AV → Value → Prop
  | .v p, x => p.R pl x
  | .tup l, x => ∃ vs : List Value, x = .tuple vs.toArray ∧ PL pl l vs

def PExt (pl pl' : List Pl) : Prop := ∀ (b : Nat) p, pl[b]? = some p → pl'[b]? = some p
theorem PExt.refl (pl : List Pl) : PExt pl pl := fun _ _ h => h
theorem PExt.trans {a b c : List Pl} (h : PExt a b) (k : PExt b c) : PExt a c := fun i p hp => k i p (h i p hp)
theorem PExt.push (pl : List Pl) (p : Pl) : PExt pl (pl ++ [p]) := fun b q h => by
  rw [List.getElem?_append_left ((List.getElem?_eq_some_iff.1 h).1)]; exact h

theorem addrOf_ext {pl pl' : List Pl} (h : PExt pl pl') {b off : Nat} {a : Addr} (ha : addrOf pl b off = some a) : addrOf pl' b off = some a := by
  unfold addrOf at *
  cases hp : pl[b]? with
  | none => rw [hp] at ha; cases ha
  | some p => rw [h b p hp]; rw [hp] at ha; exact ha
theorem capVals_ext {pl pl' : List Pl} (h : PExt pl pl') : ∀ {l : List (Nat × Nat)} {vs : List Value}, capVals pl l = some vs → capVals pl' l = some vs
  | [], _, hv => hv
  | (b, o) :: l, vs, hv => by
    simp only [capVals] at *
    cases ha : addrOf pl b o with
    | none => simp [ha] at hv
    | some a =>
      cases hc : capVals pl l with
      | none => simp [hc] at hv
      | some r => rw [addrOf_ext h ha, capVals_ext h hc]; simpa [ha, hc] using hv
theorem owVal_ext {pl pl' : List Pl} (h : PExt pl pl') {b esz st len : Nat} {v : Value} (hv : owVal pl b esz st len = some v) : owVal pl' b esz st len = some v := by
  unfold owVal at *
  cases hp : pl[b]? with
  | none => rw [hp] at hv; cases hv
  | some p => rw [h b p hp]; rw [hp] at hv; exact hv
theorem rsVal_ext {pl pl' : List Pl} (h : PExt pl pl') {b len cap : Nat} {v : Value} (hv : rsVal pl b len cap = some v) : rsVal pl' b len cap = some v := by
  unfold rsVal at *
  cases hp : pl[b]? with
  | none => rw [hp] at hv; cases hv
  | some p => rw [h b p hp]; rw [hp] at hv; exact hv
theorem rpVal_ext {pl pl' : List Pl} (h : PExt pl pl') {b n : Nat} {v : Value} (hv : rpVal pl b n = some v) : rpVal pl' b n = some v := by
  unfold rpVal at *
  cases hp : pl[b]? with
  | none => rw [hp] at hv; cases hv
  | some p => rw [h b p hp]; rw [hp] at hv; exact hv
theorem SV.val_ext {pl pl' : List Pl} (h : PExt pl pl') {s : SV} {v : Value} (hv : s.val pl = some v) : s.val pl' = some v := by
  cases s <;> simp only [SV.val] at * <;> try exact hv
  case ptr b off => cases ha : addrOf pl b off with
    | none => simp [ha] at hv
    | some a => rw [addrOf_ext h ha]; simpa [ha] using hv
  case sl b off len cap => cases ha : addrOf pl b off with
    | none => simp [ha] at hv
    | some a => rw [addrOf_ext h ha]; simpa [ha] using hv
  case ifp t b off => cases ha : addrOf pl b off with
    | none => simp [ha] at hv
    | some a => rw [addrOf_ext h ha]; simpa [ha] using hv
  case ow b esz st len lit => exact owVal_ext h hv
  case rs b esz len cap => exact rsVal_ext h hv
  case rp b esz idx sub => exact rpVal_ext h hv
  case mp b => cases hp : pl[b]? with
    | none => simp [hp] at hv
    | some p => rw [h b p hp]; simpa [hp] using hv
  case yld b => cases hp : pl[b]? with
    | none => simp [hp] at hv
    | some p => rw [h b p hp]; simpa [hp] using hv
  case pe b esz idx sub => cases ha : addrOf pl b (idx * esz + sub) with
    | none => simp [ha] at hv
    | some a => rw [addrOf_ext h ha]; simpa [ha] using hv
  case fn f cap => cases ha : capVals pl cap with
    | none => simp [ha] at hv
    | some a => rw [capVals_ext h ha]; simpa [ha] using hv
theorem SV.R.ext {pl pl' : List Pl} (h : PExt pl pl') {s : SV} {v : Value} (hv : s.R pl v) : s.R pl' v := hv.imp id (SV.val_ext h)
theorem RL.ext {pl pl' : List Pl} (h : PExt pl pl') : ∀ {l : List SV} {vs : List Value}, RL pl l vs → RL pl' l vs
  | [], [], _ => trivial
  | [], _ :: _, hv => hv.elim
  | _ :: _, [], hv => hv.elim
  | _ :: _, _ :: _, hv => ⟨hv.1.ext h, RL.ext h hv.2⟩
theorem PV.R.ext {pl pl' : List Pl} (h : PExt pl pl') {p : PV} {v : Value} (hv : p.R pl v) : p.R pl' v := by
  cases p with
  | one s => exact SV.R.ext h hv
  | agg l => obtain ⟨vs, h1, h2⟩ := hv; exact ⟨vs, h1, h2.ext h⟩
theorem PL.ext {pl pl' : List Pl} (h : PExt pl pl') : ∀ {l : List PV} {vs : List Value}, PL pl l vs → PL pl' l vs
  | [], [], _ => trivial
  | [], _ :: _, hv => hv.elim
  | _ :: _, [], hv => hv.elim
  | _ :: _, _ :: _, hv => ⟨hv.1.ext h, PL.ext h hv.2⟩
theorem AV.R.ext {pl pl' : List Pl} (h : PExt pl pl') {p : AV} {v : Value} (hv : p.R pl v) : p.R pl' v := by
  cases p with
  | v p => exact PV.R.ext h hv
  | tup l => obtain ⟨vs, h1, h2⟩ := hv; exact ⟨vs, h1, h2.ext h⟩

theorem get?_eq {α : Type _} : ∀ (l : List α) (n : Nat), get? l n = l[n]?
  | [], _ => rfl
  | _ :: _, 0 => rfl
  | _ :: l, n + 1 => by simp [get?, get?_eq l n]
theorem getD_eq {α : Type _} (d : α) : ∀ (l : List α) (n : Nat), getD l n d = (l[n]?).getD d
  | [], _ => rfl
  | _ :: _, 0 => rfl
  | _ :: l, n + 1 => by simp [getD, getD_eq d l n]
theorem set_eq {α : Type _} (x : α) : ∀ (l : List α) (n : Nat), set l n x = l.set n x
  | [], _ => rfl
  | _ :: _, 0 => rfl
  | _ :: l, n + 1 => by simp [set, set_eq x l n]
theorem len'_eq {α : Type _} : ∀ (l : List α), len' l = l.length
  | [] => rfl
  | _ :: l => by simp [len', len'_eq l]
theorem app_eq {α : Type _} : ∀ (l m : List α), app l m = l ++ m
  | [], _ => rfl
  | _ :: l, m => by simp [app, app_eq l m]
theorem takeN_eq {α : Type _} : ∀ (n : Nat) (l : List α), takeN n l = l.take n
  | 0, _ => rfl
  | _ + 1, [] => rfl
  | n + 1, _ :: l => by simp [takeN, takeN_eq n l]
theorem dropN_eq {α : Type _} : ∀ (n : Nat) (l : List α), dropN n l = l.drop n
  | 0, _ => rfl
  | _ + 1, [] => rfl
  | n + 1, _ :: l => by simp [dropN, dropN_eq n l]

theorem RL.length {pl : List Pl} : ∀ {l : List SV} {vs : List Value}, RL pl l vs → l.length = vs.length
  | [], [], _ => rfl
  | [], _ :: _, hv => hv.elim
  | _ :: _, [], hv => hv.elim
  | _ :: _, _ :: _, hv => by simp [RL.length hv.2]
theorem RL.get {pl : List Pl} : ∀ {l : List SV} {vs : List Value} {n : Nat} {s : SV}, RL pl l vs → l[n]? = some s → ∃ v, vs[n]? = some v ∧ s.R pl v
  | [], [], _, _, _, h => by simp at h
  | [], _ :: _, _, _, hv, _ => hv.elim
  | _ :: _, [], _, _, hv, _ => hv.elim
  | _ :: _, v :: _, 0, _, hv, h => ⟨v, rfl, by simp at h; subst h; exact hv.1⟩
  | _ :: _, _ :: _, n + 1, _, hv, h => by simp at h ⊢; exact RL.get hv.2 h
theorem PL.get {pl : List Pl} : ∀ {l : List PV} {vs : List Value} {n : Nat} {s : PV}, PL pl l vs → l[n]? = some s → ∃ v, vs[n]? = some v ∧ s.R pl v
  | [], [], _, _, _, h => by simp at h
  | [], _ :: _, _, _, hv, _ => hv.elim
  | _ :: _, [], _, _, hv, _ => hv.elim
  | _ :: _, v :: _, 0, _, hv, h => ⟨v, rfl, by simp at h; subst h; exact hv.1⟩
  | _ :: _, _ :: _, n + 1, _, hv, h => by simp at h ⊢; exact PL.get hv.2 h
theorem RL.drop {pl : List Pl} : ∀ {l : List SV} {vs : List Value} (n : Nat), RL pl l vs → RL pl (dropN n l) (vs.drop n)
  | _, _, 0, hv => by simpa [dropN] using hv
  | [], [], n + 1, _ => trivial
  | [], _ :: _, _ + 1, hv => hv.elim
  | _ :: _, [], _ + 1, hv => hv.elim
  | _ :: _, _ :: _, n + 1, hv => by simpa [dropN] using RL.drop n hv.2
theorem RL.takeE {pl : List Pl} : ∀ {n : Nat} {l r : List SV} {vs : List Value}, RL pl l vs → takeE n l = some r → RL pl r (vs.take n) ∧ n ≤ vs.length
  | 0, _, r, vs, hv, h => by simp [AM.takeE] at h; subst h; exact ⟨by simp [RL], Nat.zero_le _⟩
  | n + 1, [], _, _, _, h => by simp [AM.takeE] at h
  | _ + 1, _ :: _, _, [], hv, _ => hv.elim
  | n + 1, s :: l, r, v :: vs, hv, h => by
    simp only [AM.takeE] at h
    cases ht : AM.takeE n l with
    | none => simp [ht] at h
    | some r' =>
      simp [ht] at h
      subst h
      have ⟨h1, h2⟩ := RL.takeE hv.2 ht
      exact ⟨by simpa [RL] using ⟨hv.1, h1⟩, by simp; omega⟩
theorem over_spec {pl : List Pl} : ∀ {n : Nat} {l ys r : List SV} {vs us : List Value}, RL pl l vs → RL pl ys us → over l n ys = some r →
    RL pl r (vs.take n ++ us ++ vs.drop (n + us.length)) ∧ n + us.length ≤ vs.length
  | 0, l, [], r, vs, [], hv, _, h => by
    cases l <;> simp [over] at h <;> subst h <;> exact ⟨by simpa using hv, by simp⟩
  | _, _, [], _, _, _ :: _, _, hu, _ => hu.elim
  | _, _, _ :: _, _, _, [], _, hu, _ => hu.elim
  | 0, [], y :: ys, _, _, _, _, _, h => by simp [over] at h
  | n + 1, [], _, _, _, _, _, _, h => by simp [over] at h
  | _, _ :: _, _, _, [], _, hv, _, _ => hv.elim
  | 0, s :: l, y :: ys, r, v :: vs, u :: us, hv, hu, h => by
    simp only [over] at h
    cases ho : over l 0 ys with
    | none => simp [ho] at h
    | some r' =>
      simp [ho] at h
      subst h
      have ⟨h1, h2⟩ := over_spec hv.2 hu.2 ho
      refine ⟨?_, by simp at h2 ⊢; omega⟩
      simp only [Nat.zero_add, List.take_zero, List.nil_append, List.length_cons] at h1 ⊢
      exact ⟨hu.1, by simpa [Nat.add_comm] using h1⟩
  | n + 1, s :: l, ys, r, v :: vs, us, hv, hu, h => by
    simp only [over] at h
    cases ho : over l n ys with
    | none => simp [ho] at h
    | some r' =>
      simp [ho] at h
      subst h
      have ⟨h1, h2⟩ := over_spec hv.2 hu ho
      refine ⟨?_, by simp; omega⟩
      have e : n + 1 + us.length = (n + us.length) + 1 := by omega
      rw [e]
      simp only [List.take_succ_cons, List.cons_append, List.drop_succ_cons]
      exact ⟨hv.1, h1⟩

theorem known_of {pl : List Pl} {s : SV} {v : Value} (hs : s.known = true) (h : s.R pl v) : s.val pl = some v := by
  rcases h with rfl | h
  · cases hs
  · exact h
theorem knownAll_eq {pl : List Pl} : ∀ {l : List SV} {vs us : List Value}, knownAll l = true → RL pl l vs → RL pl l us → vs = us
  | [], [], [], _, _, _ => rfl
  | [], _ :: _, _, _, h, _ => h.elim
  | [], _, _ :: _, _, _, h => h.elim
  | _ :: _, [], _, _, h, _ => h.elim
  | _ :: _, _ :: _, [], _, _, h => h.elim
  | s :: l, v :: vs, u :: us, hk, h, h' => by
    simp only [knownAll, Bool.and_eq_true] at hk
    have e1 := known_of hk.1 h.1
    have e2 := known_of hk.1 h'.1
    rw [e1] at e2
    rw [knownAll_eq hk.2 h.2 h'.2, Option.some.inj e2]
theorem PV.known_eq {pl : List Pl} {p : PV} {v u : Value} (hk : p.known = true) (h : p.R pl v) (h' : p.R pl u) : v = u := by
  cases p with
  | one s =>
    have e1 := known_of hk h
    have e2 := known_of hk h'
    rw [e1] at e2
    exact Option.some.inj e2
  | agg l =>
    obtain ⟨vs, rfl, h1⟩ := h
    obtain ⟨us, rfl, h2⟩ := h'
    rw [knownAll_eq hk h1 h2]

theorem owVal_oneCell {pl : List Pl} {b esz st len : Nat} {v : Value} (hv : owVal pl b esz st len = some v) : v.oneCell' = true := by
  unfold owVal at hv
  split at hv
  · split at hv
    · split at hv
      · cases hv; rfl
      · cases hv
    · cases hv; rfl
  · cases hv
theorem rsVal_oneCell {pl : List Pl} {b len cap : Nat} {v : Value} (hv : rsVal pl b len cap = some v) : v.oneCell' = true := by
  unfold rsVal at hv
  split at hv
  · split at hv
    · split at hv
      · cases hv; rfl
      · cases hv
    · cases hv; rfl
  · cases hv
theorem rpVal_oneCell {pl : List Pl} {b n : Nat} {v : Value} (hv : rpVal pl b n = some v) : v.oneCell' = true := by
  unfold rpVal at hv
  split at hv
  · cases hv; rfl
  · cases hv
theorem SV.val_oneCell {pl : List Pl} {s : SV} {v : Value} (h : s.val pl = some v) : v.oneCell' = true := by
  cases s <;> simp only [SV.val] at h
  case any => cases h
  case ptr b off => cases ha : addrOf pl b off <;> simp [ha] at h; subst h; rfl
  case sl b off len cap => cases ha : addrOf pl b off <;> simp [ha] at h; subst h; rfl
  case ifp t b off => cases ha : addrOf pl b off <;> simp [ha] at h; subst h; rfl
  case ow b esz st len lit => exact owVal_oneCell h
  case rs b esz len cap => exact rsVal_oneCell h
  case rp b esz idx sub => exact rpVal_oneCell h
  case mp b => cases hp : pl[b]? <;> simp [hp] at h; subst h; rfl
  case yld b => cases hp : pl[b]? <;> simp [hp] at h; subst h; rfl
  case pe b esz idx sub => cases ha : addrOf pl b (idx * esz + sub) <;> simp [ha] at h; subst h; rfl
  case fn f cap => cases ha : capVals pl cap <;> simp [ha] at h; subst h; rfl
  all_goals (cases h; rfl)
theorem knownAll_oneCell {pl : List Pl} : ∀ {l : List SV} {vs : List Value}, knownAll l = true → RL pl l vs → ∀ v ∈ vs, v.oneCell' = true
  | [], [], _, _ => by simp
  | [], _ :: _, _, h => h.elim
  | _ :: _, [], _, h => h.elim
  | s :: l, v :: vs, hk, h => by
    simp only [knownAll, Bool.and_eq_true] at hk
    intro u hu
    rcases List.mem_cons.1 hu with rfl | hu
    · exact SV.val_oneCell (known_of hk.1 h.1)
    · exact knownAll_oneCell hk.2 h.2 u hu
theorem PV.cells_R {pl : List Pl} {p : PV} {v : Value} (hk : p.known = true) (h : p.R pl v) : RL pl p.cells v.cells.toList ∧ ∀ u ∈ v.cells.toList, u.oneCell' = true := by
  cases p with
  | one s =>
    have e1 := known_of hk h
    have h1 := SV.val_oneCell e1
    have : v.cells = #[v] := by cases v <;> first | rfl | (simp [Value.oneCell'] at h1)
    rw [this]
    exact ⟨⟨h, trivial⟩, by simpa using h1⟩
  | agg l =>
    obtain ⟨vs, rfl, h1⟩ := h
    exact ⟨by simpa [PV.cells, Value.cells] using h1, by simpa [Value.cells] using knownAll_oneCell hk h1⟩

theorem ofVal_R (pl : List Pl) (v : Value) : (ofVal v).R pl v := by
  unfold ofVal
  split <;> first | exact .inr rfl | exact .inl rfl
theorem ofVals_R (pl : List Pl) : ∀ (l : List Value), RL pl (ofVals l) l
  | [] => trivial
  | v :: l => ⟨ofVal_R pl v, ofVals_R pl l⟩
theorem ofValue_R (pl : List Pl) (v : Value) : (ofValue v).R pl v := by
  unfold ofValue
  split
  · rename_i cs; exact ⟨cs.toList, by simp, ofVals_R pl _⟩
  · exact ofVal_R pl _

def EnvR (pl : List Pl) (env : Env) (tmps : Array Value) : Prop := env.length = tmps.size ∧ ∀ t, (getD env t AV.any).R pl (tmps.getD t Go.undef)
theorem any_R (pl : List Pl) (v : Value) : AV.any.R pl v := Or.inl rfl
theorem undef_R (pl : List Pl) : AV.undef.R pl Go.undef := ⟨[], rfl, trivial⟩
theorem EnvR.ext {pl pl' : List Pl} {env : Env} {tmps : Array Value} (hp : PExt pl pl') (h : EnvR pl env tmps) : EnvR pl' env tmps := ⟨h.1, fun t => (h.2 t).ext hp⟩
theorem EnvR.set {pl : List Pl} {env : Env} {tmps : Array Value} (h : EnvR pl env tmps) (d : Nat) {av : AV} {v : Value} (hv : av.R pl v) : EnvR pl (AM.set env d av) (tmps.setIfInBounds d v) := by
  refine ⟨by simp [set_eq, h.1], fun t => ?_⟩
  have ht := h.2 t
  rw [getD_eq, set_eq, List.getElem?_set, Array.getD_eq_getD_getElem?, Array.getElem?_setIfInBounds]
  rw [getD_eq, Array.getD_eq_getD_getElem?] at ht
  by_cases e : d = t
  · subst e
    by_cases hl : d < env.length
    · have : d < tmps.size := by rw [← h.1]; exact hl
      simp [hl, this, hv]
    · have : ¬ d < tmps.size := by rw [← h.1]; exact hl
      simp [hl, this, any_R]
  · simp only [if_neg e]; exact ht
theorem EnvR.put {pl : List Pl} {env : Env} {a : Act} (h : EnvR pl env a.tmps) (d : Option Nat) {av : AV} {v : Value} (hv : av.R pl v) : EnvR pl (putD env d av) (a.put d v).tmps := by
  cases d with
  | none => exact h
  | some d => exact h.set d hv
theorem EnvR.ev {pl : List Pl} {env : Env} {a : Act} (h : EnvR pl env a.tmps) (x : Operand) : (AM.ev env x).R pl (a.eval x) := by
  cases x with
  | tmp t => exact h.2 t
  | const v => exact ofValue_R pl v
  | global g => exact any_R pl _
  | func f => exact .inr rfl

end Go.AM
namespace Go
def offEnd (fz : Nat × Nat) (n : Nat) : Prop := fz.1 = fz.2 ∨ n ≤ fz.1
def World.ownsRowZ (w : World) (base : Nat) (e : TypeId) (size : Nat) (v : Value) (n : Nat) (xs : List Value) : Prop :=
  xs.length = n * size ∧
  ((v = .slice none 0 0 ∧ n = 0) ∨
   ∃ g cap cur, v = .slice (some ⟨g, 0, none⟩) n cap ∧ base ≤ g ∧ (∃ fz, w.heap[g]? = some (.cells cur e fz) ∧ offEnd fz cur.size) ∧ n ≤ cap ∧ cap ≤ maxLen ∧ cur.size = cap * size ∧ cur.toList.take (n * size) = xs)
section
variable {w : World} {base : Nat} {e : TypeId} {size : Nat} {v : Value} {n : Nat} {xs : List Value}
theorem offEnd0 (n : Nat) : offEnd (0, 0) n := .inl rfl
theorem World.ownsRowZ_of (h : w.ownsRow base e size v n xs) : w.ownsRowZ base e size v n xs := by
  refine ⟨h.1, ?_⟩
  rcases h.2 with hn | ⟨g, cap, cur, hv, hb, hg, rest⟩
  · exact .inl hn
  · exact .inr ⟨g, cap, cur, hv, hb, ⟨(0, 0), hg, offEnd0 _⟩, rest⟩
theorem World.ownsRowZ_nil (w : World) (base : Nat) (e : TypeId) (size : Nat) : w.ownsRowZ base e size (.slice none 0 0) 0 [] := ⟨by simp, .inl ⟨rfl, rfl⟩⟩
theorem World.ownsRowZ.lt (h : w.ownsRowZ base e size v n xs) : ∀ k, v.ownBlock = some k → base ≤ k ∧ k < w.heap.size := by
  intro k hk
  rcases h.2 with ⟨rfl, _⟩ | ⟨g, cap, cur, rfl, hb, ⟨fz, hg, _⟩, _⟩
  · simp [Value.ownBlock] at hk
  · simp [Value.ownBlock] at hk
    subst hk
    exact ⟨hb, (Array.getElem?_eq_some_iff.1 hg).1⟩
theorem World.ownsRowZ.cells (h : w.ownsRowZ base e size v n xs) {g : Nat} (hg : v.ownBlock = some g) : ∀ (j : Nat) u, xs[j]? = some u → w.cell? ((⟨g, 0, none⟩ : Addr).add j) = some u := by
  intro j u hu
  rcases h.2 with ⟨rfl, _⟩ | ⟨g', cap, cur, rfl, _, ⟨fz, hgg, _⟩, _, _, _, htake⟩
  · simp [Value.ownBlock] at hg
  · simp [Value.ownBlock] at hg
    subst hg
    have hadd : (⟨g', 0, none⟩ : Addr).add j = ⟨g', j, none⟩ := by unfold Addr.add; split <;> simp_all
    rw [hadd, cell_of_row w g' j cur e fz hgg]
    rw [← htake, List.getElem?_take] at hu
    split at hu
    · simpa using hu
    · cases hu
end
theorem run_storeCells_atZ (P : Program) (g o : Nat) (t : TypeId) (fz : Nat × Nat) : ∀ (vs : List Value) (i : Nat) (cur : Array Value) (w : World), w.heap[g]? = some (.cells cur t fz) → offEnd fz cur.size → o + i + vs.length ≤ cur.size → (∀ v ∈ vs, v.oneCell' = true) →
    (storeCells ⟨g, o, none⟩ vs i).run P w = .ok () (w.setRow g (cur.toList.take (o + i) ++ vs ++ cur.toList.drop (o + i + vs.length)).toArray)
  | [], i, cur, w, hg, _, _, _ => by
    simp only [storeCells, List.append_nil, List.length_nil, Nat.add_zero, List.take_append_drop, Array.toArray_toList]
    rw [setRow_self w g cur t fz hg]
    rfl
  | v :: rest, i, cur, w, hg, hfz, hl, h1 => by
    have hi : o + i < cur.size := by simp at hl; omega
    have hadd : (⟨g, o, none⟩ : Addr).add i = ⟨g, o + i, none⟩ := by unfold Addr.add; split <;> simp_all
    have hcell : w.cell? ⟨g, o + i, none⟩ = some cur[o + i] := by simp [World.cell?, hg, hi]
    have hfro : w.frozen? ⟨g, o + i, none⟩ = false := by
      obtain ⟨lo, hi'⟩ := fz
      simp only [World.frozen?, hg, Bool.and_eq_false_iff, decide_eq_false_iff_not]
      rcases hfz with h | h
      · simp only at h
        omega
      · simp only at h
        omega
    have hst : (store ((⟨g, o, none⟩ : Addr).add i) v).run P w = .ok () (w.setRow g (cur.setIfInBounds (o + i) v)) := by
      rw [hadd, run_store P w _ v _ (h1 v (by simp)), hcell]
      simp [hfro, setCell_eq_setRow w g (o + i) cur t fz v hg]
    have ih := run_storeCells_atZ P g o t fz rest (i + 1) (cur.setIfInBounds (o + i) v) (w.setRow g (cur.setIfInBounds (o + i) v)) (setRow_heap w g cur _ t _ hg) (by simpa using hfz) (by simp at hl ⊢; omega) (fun x hx => h1 x (by simp [hx]))
    simp only [storeCells, Sem.run_bind, hst, Result.andThen_ok, ih, setRow_setRow]
    congr 3
    have e := list_seg_step cur.toList (o + i) v rest (by simp at hl ⊢; omega)
    simpa [Array.toList_setIfInBounds, Nat.add_assoc] using e
section
variable {P : Program} (w : World)
theorem run_append_roomZ (t ty e : TypeId) (i : TypeInfo) (ht : P.underlying t = some (.slice e)) (hi : P.info? e = some i)
    (g sLen sCap : Nat) (cur : Array Value) (fz : Nat × Nat) (hg : w.heap[g]? = some (.cells cur e fz)) (hz : offEnd fz cur.size)
    (a : Addr) (m c : Nat) (news : List Value) (hl : news.length = m * i.size) (hnews : ∀ (j : Nat) u, news[j]? = some u → w.cell? (a.add j) = some u) (h1 : ∀ u ∈ news, u.oneCell' = true)
    (hroom : sLen + m ≤ sCap) (hfit : sLen * i.size + news.length ≤ cur.size) :
    (Builtin.append_ #[t, t] ty #[.slice (some ⟨g, 0, none⟩) sLen sCap, .slice (some a) m c]).run P w =
      .ok (.slice (some ⟨g, 0, none⟩) (sLen + m) sCap) (w.setRow g (cur.toList.take (sLen * i.size) ++ news ++ cur.toList.drop (sLen * i.size + news.length)).toArray) := by
  have hf := run_firstCells_some (P := P) w i.size m a m c news hl hnews
  have hst := run_storeCells_atZ P g (sLen * i.size) e fz news 0 cur w hg hz (by simpa using hfit) h1
  simp only [Nat.add_zero] at hst
  simp [Builtin.append_, run_underlying ht, sizeOf, typeInfo, hi, Builtin.lenOf, hroom, hf, Addr.add_lit, hst]
theorem run_append_ownZ (base : Nat) (t ty e : TypeId) (i : TypeInfo) (z : Value) (size bytes : Nat) (ht : P.underlying t = some (.slice e)) (hi : P.info? e = some i) (hz : i.zero = some z)
    (hsize : i.size = size) (hby : i.bytes = bytes) (hzs : z.cells.size = size) (hsz : 0 < size)
    (v : Value) (n : Nat) (xs : List Value) (hown : w.ownsRowZ base e size v n xs)
    (a : Addr) (m c : Nat) (news : List Value) (hl : news.length = m * size) (hnews : ∀ (j : Nat) u, news[j]? = some u → w.cell? (a.add j) = some u) (h1 : ∀ u ∈ news, u.oneCell' = true)
    (h63 : n + m ≤ maxLen) (hbytes : (n + m) * bytes ≤ 140737488355328) (hbase : base ≤ w.heap.size) :
    ∃ v' w', (Builtin.append_ #[t, t] ty #[v, .slice (some a) m c]).run P w = .ok v' w' ∧ w'.ownsRowZ base e size v' (n + m) (xs ++ news) ∧ w.grownBy w' v.ownBlock ∧
      (v' = .slice none 0 0 ↔ v = .slice none 0 0 ∧ m = 0) := by
  rcases hown.2 with ⟨rfl, rfl⟩ | ⟨g, cap, cur, rfl, hbg, ⟨fz, hg, hfz⟩, hnc, hcm, hcs, htake⟩
  · obtain ⟨v', w', h1', h2, h3, h4⟩ := run_append_own (P := P) w base t ty e i z size bytes ht hi hz hsize hby hzs hsz (.slice none 0 0) 0 xs ⟨hown.1, .inl ⟨rfl, rfl⟩⟩ a m c news hl hnews h1 h63 hbytes hbase
    exact ⟨v', w', h1', World.ownsRowZ_of h2, h3, h4⟩
  · subst hsize
    subst hby
    have hsmall : n + m ≤ 9223372036854775807 := by simp only [maxLen] at h63; omega
    have hlen : (xs ++ news).length = (n + m) * i.size := by rw [List.length_append, hown.1, hl, Nat.add_mul]
    by_cases hroom : n + m ≤ cap
    · have hfit : n * i.size + news.length ≤ cur.size := by rw [hl, hcs, ← Nat.add_mul]; exact Nat.mul_le_mul_right _ hroom
      have hr := run_append_roomZ (P := P) w t ty e i ht hi g n cap cur fz hg hfz a m c news hl hnews h1 hroom hfit
      have hsz2 : ((cur.toList.take (n * i.size) ++ news ++ cur.toList.drop (n * i.size + news.length)).toArray).size = cur.size := by
        simp only [List.size_toArray, List.length_append, List.length_take, List.length_drop, Array.length_toList]
        omega
      refine ⟨_, _, hr, ⟨hlen, .inr ⟨g, cap, _, rfl, hbg, ⟨fz, setRow_heap w g cur _ e _ hg, by rw [hsz2]; exact hfz⟩, hroom, hcm, by rw [hsz2]; exact hcs, ?_⟩⟩, ⟨rfl, rfl, rfl, by simp, fun k _ hk => setRow_other w g k _ (fun e => hk (by simp [Value.ownBlock, e]))⟩, by simp⟩
      rw [htake, ← hlen]
      exact List.take_left
    · have holds : ∀ (j : Nat) u, xs[j]? = some u → w.cell? ((⟨g, 0, none⟩ : Addr).add j) = some u := hown.cells (g := g) rfl
      have hr := run_append_grow (P := P) w t ty e i z ht hi hz ⟨g, 0, none⟩ n cap xs hown.1 holds a m c news hl hnews (by omega) (by omega) (growslice_fits (by omega) hbytes)
      have hge := grownCap_ge w (n + m) cap e
      have hcm2 : grownCap w (n + m) cap e ≤ maxLen := grownCap_le_maxLen w (n + m) cap e h63
      refine ⟨_, _, hr, ⟨hlen, .inr ⟨w.heap.size, _, _, rfl, hbase, ⟨(0, 0), heap_alloc_new w.drew _, offEnd0 _⟩, hge, hcm2, ?_, ?_⟩⟩, ⟨rfl, rfl, rfl, by simp, fun k hk _ => heap_alloc_old w.drew _ hk⟩, by simp⟩
      · simp only [Array.size_append, List.size_toArray, size_zeroCells, hzs, hown.1, hl, ← Nat.add_mul]
        congr 1
        omega
      · simp only [Array.toList_append, List.append_assoc]
        rw [← List.append_assoc, ← hlen]
        exact List.take_left
end
namespace Lib
section
variable {P : Program} (w : World)
theorem run_append_room_stringZ (t u ty e : TypeId) (i : TypeInfo) (ht : P.underlying t = some (.slice e)) (hu : P.underlying u = some .string) (hi : P.info? e = some i) (hs1 : i.size = 1)
    (g sLen sCap : Nat) (cur : Array Value) (fz : Nat × Nat) (hg : w.heap[g]? = some (.cells cur e fz)) (hfz : offEnd fz cur.size) (s : ByteArray)
    (hroom : sLen + s.size ≤ sCap) (hfit : sLen + s.size ≤ cur.size) :
    (Builtin.append_ #[t, u] ty #[.slice (some ⟨g, 0, none⟩) sLen sCap, .string s]).run P w =
      .ok (.slice (some ⟨g, 0, none⟩) (sLen + s.size) sCap) (w.setRow g (cur.toList.take sLen ++ strCells s ++ cur.toList.drop (sLen + s.size)).toArray) := by
  have hf := run_firstCells_string (P := P) w 1 s
  have hst := run_storeCells_atZ P g sLen e fz (strCells s) 0 cur w hg hfz (by simpa [strCells_length] using hfit) (strCells_oneCell s)
  simp only [Nat.add_zero, strCells_length] at hst
  simp [Builtin.append_, run_underlying ht, run_underlying hu, sizeOf, typeInfo, hi, hs1, Builtin.lenOf, hroom, hf, Addr.add_lit, hst]
theorem run_append_own_stringZ (base : Nat) (t u ty e : TypeId) (i : TypeInfo) (ht : P.underlying t = some (.slice e)) (hu : P.underlying u = some .string) (hi : P.info? e = some i) (hz : i.zero = some (.int .u8 0))
    (hsize : i.size = 1) (hby : i.bytes = 1)
    (v : Value) (n : Nat) (xs : List Value) (hown : w.ownsRowZ base e 1 v n xs) (s : ByteArray)
    (h63 : n + s.size ≤ maxLen) (hbytes : n + s.size ≤ 140737488355328) (hbase : base ≤ w.heap.size) :
    ∃ v' w', (Builtin.append_ #[t, u] ty #[v, .string s]).run P w = .ok v' w' ∧ w'.ownsRowZ base e 1 v' (n + s.size) (xs ++ strCells s) ∧ w.grownBy w' v.ownBlock ∧
      (v' = .slice none 0 0 ↔ v = .slice none 0 0 ∧ s.size = 0) := by
  rcases hown.2 with ⟨rfl, rfl⟩ | ⟨g, cap, cur, rfl, hbg, ⟨fz, hg, hfz⟩, hnc, hcm, hcs, htake⟩
  · obtain ⟨v', w', h1, h2, h3, h4⟩ := run_append_own_string (P := P) w base t u ty e i ht hu hi hz hsize hby (.slice none 0 0) 0 xs ⟨hown.1, .inl ⟨rfl, rfl⟩⟩ s h63 hbytes hbase
    exact ⟨v', w', h1, World.ownsRowZ_of h2, h3, h4⟩
  · have hsmall : n + s.size ≤ 9223372036854775807 := by simp only [maxLen] at h63; omega
    have hxl : xs.length = n := by simpa using hown.1
    have hlen : (xs ++ strCells s).length = (n + s.size) * 1 := by rw [List.length_append, hxl, strCells_length, Nat.mul_one]
    by_cases hroom : n + s.size ≤ cap
    · have hcs' : cur.size = cap := by simpa using hcs
      have hr := run_append_room_stringZ (P := P) w t u ty e i ht hu hi hsize g n cap cur fz hg hfz s hroom (by omega)
      have hsz2 : ((cur.toList.take n ++ strCells s ++ cur.toList.drop (n + s.size)).toArray).size = cur.size := by
        simp only [List.size_toArray, List.length_append, List.length_take, List.length_drop, Array.length_toList, strCells_length]
        omega
      refine ⟨_, _, hr, ⟨hlen, .inr ⟨g, cap, _, rfl, hbg, ⟨fz, setRow_heap w g cur _ e _ hg, by rw [hsz2]; exact hfz⟩, hroom, hcm, by rw [hsz2]; exact hcs, ?_⟩⟩, ⟨rfl, rfl, rfl, by simp, fun k _ hk => setRow_other w g k _ (fun e => hk (by simp [Value.ownBlock, e]))⟩, by simp⟩
      have ht' : cur.toList.take n = xs := by simpa using htake
      rw [ht', ← hlen]
      exact List.take_left
    · have holds : ∀ (j : Nat) u, xs[j]? = some u → w.cell? ((⟨g, 0, none⟩ : Addr).add j) = some u := hown.cells (g := g) rfl
      have hr := run_append_grow_string (P := P) w t u ty e i (.int .u8 0) ht hu hi hz ⟨g, 0, none⟩ n cap xs (by rw [hsize]; simpa using hxl) holds s (by omega) (by omega) (by rw [hby]; exact growslice_fits (by omega) (by omega))
      have hge := grownCap_ge w (n + s.size) cap e
      have hcm2 : grownCap w (n + s.size) cap e ≤ maxLen := grownCap_le_maxLen w (n + s.size) cap e h63
      refine ⟨_, _, hr, ⟨hlen, .inr ⟨w.heap.size, _, _, rfl, hbase, ⟨(0, 0), heap_alloc_new w.drew _, offEnd0 _⟩, hge, hcm2, ?_, ?_⟩⟩, ⟨rfl, rfl, rfl, by simp, fun k hk _ => heap_alloc_old w.drew _ hk⟩, by simp⟩
      · have hz1 : (Value.int IntKind.u8 0).cells.size = 1 := rfl
        simp only [Array.size_append, List.size_toArray, size_zeroCells, hz1, hxl, strCells_length]
        omega
      · simp only [Array.toList_append, List.append_assoc]
        rw [← List.append_assoc, ← hlen]
        exact List.take_left
end
end Lib
end Go
