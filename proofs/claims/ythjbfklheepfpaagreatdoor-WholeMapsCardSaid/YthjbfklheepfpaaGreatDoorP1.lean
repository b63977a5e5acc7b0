import Derived.Test.YthjbfklheepfpaaGreatDoorAMDef
import Derived.Deep.MidRow
import Derived.Lib.Strings
import Derived.Laws.AppendOwn
import Derived.Laws.CopyRow
import Derived.Lib.AppendStr
import Derived.Lib.ConvBytes
import Derived.ChangeKeysEq
import Derived.Laws.StructEq
import Derived.Laws.Strings2
set_option linter.unusedVariables false
set_option linter.unusedSimpArgs false
set_option maxHeartbeats 4000000
namespace Go.AM
open Go

theorem SameRows.hl' {C' C : Codec} {xs' : List C'.τ} {xs : List C.τ} (h : SameRows C' xs' C xs) : xs'.length = xs.length := by cases h; assumption
theorem SameRows.hf' {C' C : Codec} {xs' : List C'.τ} {xs : List C.τ} (h : SameRows C' xs' C xs) : flatC C' xs' = flatC C xs := by cases h; assumption
def PV.R (pl : List Pl) : PV → Value → Prop
  | .one s, v => s.R pl v
  | .agg l, v => ∃ vs : List Value, v = .agg vs.toArray ∧ RL pl l vs
def PL (pl : List Pl) : List PV → List Value → Prop
  | [], [] => True
  | s :: l, v :: vs => s.R pl v ∧ PL pl l vs
  | _, _ => False
def AV.R (pl : List Pl) : AV → Value → Prop
  | .v p, x => p.R pl x
  | .tup l, x => ∃ vs : List Value, x = .tuple vs.toArray ∧ PL pl l vs

def PExt (pl pl' : List Pl) : Prop := ∀ (b : Nat) p, pl[b]? = some p → pl'[b]? = some p
theorem PExt.refl (pl : List Pl) : PExt pl pl := fun _ _ h => h
theorem PExt.trans {a b c : List Pl} (h : PExt a b) (k : PExt b c) : PExt a c := fun i p hp => k i p (h i p hp)
theorem PExt.push (pl : List Pl) (p : Pl) : PExt pl (pl ++ [p]) := fun b q h => by
  rw [List.getElem?_append_left ((List.getElem?_eq_some_iff.1 h).1)]; exact h

theorem addrOf_ext {pl pl' : List Pl} (h : PExt pl pl') {b off : Nat} {a : Addr} (ha : addrOf pl b off = some a) : addrOf pl' b off = some a := by
  unfold addrOf at *
  cases hp : pl[b]? with
  | none => rw [hp] at ha; cases ha
  | some p => rw [h b p hp]; rw [hp] at ha; exact ha
theorem capVals_ext {pl pl' : List Pl} (h : PExt pl pl') : ∀ {l : List (Nat × Nat)} {vs : List Value}, capVals pl l = some vs → capVals pl' l = some vs
  | [], _, hv => hv
  | (b, o) :: l, vs, hv => by
    simp only [capVals] at *
    cases ha : addrOf pl b o with
    | none => simp [ha] at hv
    | some a =>
      cases hc : capVals pl l with
      | none => simp [hc] at hv
      | some r => rw [addrOf_ext h ha, capVals_ext h hc]; simpa [ha, hc] using hv
theorem owVal_ext {pl pl' : List Pl} (h : PExt pl pl') {b esz st len : Nat} {v : Value} (hv : owVal pl b esz st len = some v) : owVal pl' b esz st len = some v := by
  unfold owVal at *
  cases hp : pl[b]? with
  | none => rw [hp] at hv; cases hv
  | some p => rw [h b p hp]; rw [hp] at hv; exact hv
theorem rsVal_ext {pl pl' : List Pl} (h : PExt pl pl') {b len cap : Nat} {v : Value} (hv : rsVal pl b len cap = some v) : rsVal pl' b len cap = some v := by
  unfold rsVal at *
  cases hp : pl[b]? with
  | none => rw [hp] at hv; cases hv
  | some p => rw [h b p hp]; rw [hp] at hv; exact hv
theorem rpVal_ext {pl pl' : List Pl} (h : PExt pl pl') {b n : Nat} {v : Value} (hv : rpVal pl b n = some v) : rpVal pl' b n = some v := by
  unfold rpVal at *
  cases hp : pl[b]? with
  | none => rw [hp] at hv; cases hv
  | some p => rw [h b p hp]; rw [hp] at hv; exact hv
theorem SV.val_ext {pl pl' : List Pl} (h : PExt pl pl') {s : SV} {v : Value} (hv : s.val pl = some v) : s.val pl' = some v := by
  cases s <;> simp only [SV.val] at * <;> try exact hv
  case ptr b off => cases ha : addrOf pl b off with
    | none => simp [ha] at hv
    | some a => rw [addrOf_ext h ha]; simpa [ha] using hv
  case sl b off len cap => cases ha : addrOf pl b off with
    | none => simp [ha] at hv
    | some a => rw [addrOf_ext h ha]; simpa [ha] using hv
  case ifp t b off => cases ha : addrOf pl b off with
    | none => simp [ha] at hv
    | some a => rw [addrOf_ext h ha]; simpa [ha] using hv
  case ow b esz st len lit => exact owVal_ext h hv
  case rs b esz len cap => exact rsVal_ext h hv
  case rp b esz idx sub => exact rpVal_ext h hv
  case mp b => cases hp : pl[b]? with
    | none => simp [hp] at hv
    | some p => rw [h b p hp]; simpa [hp] using hv
  case pe b esz idx sub => cases ha : addrOf pl b (idx * esz + sub) with
    | none => simp [ha] at hv
    | some a => rw [addrOf_ext h ha]; simpa [ha] using hv
  case fn f cap => cases ha : capVals pl cap with
    | none => simp [ha] at hv
    | some a => rw [capVals_ext h ha]; simpa [ha] using hv
theorem SV.R.ext {pl pl' : List Pl} (h : PExt pl pl') {s : SV} {v : Value} (hv : s.R pl v) : s.R pl' v := hv.imp id (SV.val_ext h)
theorem RL.ext {pl pl' : List Pl} (h : PExt pl pl') : ∀ {l : List SV} {vs : List Value}, RL pl l vs → RL pl' l vs
  | [], [], _ => trivial
  | [], _ :: _, hv => hv.elim
  | _ :: _, [], hv => hv.elim
  | _ :: _, _ :: _, hv => ⟨hv.1.ext h, RL.ext h hv.2⟩
theorem PV.R.ext {pl pl' : List Pl} (h : PExt pl pl') {p : PV} {v : Value} (hv : p.R pl v) : p.R pl' v := by
  cases p with
  | one s => exact SV.R.ext h hv
  | agg l => obtain ⟨vs, h1, h2⟩ := hv; exact ⟨vs, h1, h2.ext h⟩
theorem PL.ext {pl pl' : List Pl} (h : PExt pl pl') : ∀ {l : List PV} {vs : List Value}, PL pl l vs → PL pl' l vs
  | [], [], _ => trivial
  | [], _ :: _, hv => hv.elim
  | _ :: _, [], hv => hv.elim
  | _ :: _, _ :: _, hv => ⟨hv.1.ext h, PL.ext h hv.2⟩
theorem AV.R.ext {pl pl' : List Pl} (h : PExt pl pl') {p : AV} {v : Value} (hv : p.R pl v) : p.R pl' v := by
  cases p with
  | v p => exact PV.R.ext h hv
  | tup l => obtain ⟨vs, h1, h2⟩ := hv; exact ⟨vs, h1, h2.ext h⟩

theorem get?_eq {α : Type _} : ∀ (l : List α) (n : Nat), get? l n = l[n]?
  | [], _ => rfl
  | _ :: _, 0 => rfl
  | _ :: l, n + 1 => by simp [get?, get?_eq l n]
theorem getD_eq {α : Type _} (d : α) : ∀ (l : List α) (n : Nat), getD l n d = (l[n]?).getD d
  | [], _ => rfl
  | _ :: _, 0 => rfl
  | _ :: l, n + 1 => by simp [getD, getD_eq d l n]
theorem set_eq {α : Type _} (x : α) : ∀ (l : List α) (n : Nat), set l n x = l.set n x
  | [], _ => rfl
  | _ :: _, 0 => rfl
  | _ :: l, n + 1 => by simp [set, set_eq x l n]
theorem len'_eq {α : Type _} : ∀ (l : List α), len' l = l.length
  | [] => rfl
  | _ :: l => by simp [len', len'_eq l]
theorem app_eq {α : Type _} : ∀ (l m : List α), app l m = l ++ m
  | [], _ => rfl
  | _ :: l, m => by simp [app, app_eq l m]
theorem takeN_eq {α : Type _} : ∀ (n : Nat) (l : List α), takeN n l = l.take n
  | 0, _ => rfl
  | _ + 1, [] => rfl
  | n + 1, _ :: l => by simp [takeN, takeN_eq n l]
theorem dropN_eq {α : Type _} : ∀ (n : Nat) (l : List α), dropN n l = l.drop n
  | 0, _ => rfl
  | _ + 1, [] => rfl
  | n + 1, _ :: l => by simp [dropN, dropN_eq n l]

theorem RL.length {pl : List Pl} : ∀ {l : List SV} {vs : List Value}, RL pl l vs → l.length = vs.length
  | [], [], _ => rfl
  | [], _ :: _, hv => hv.elim
  | _ :: _, [], hv => hv.elim
  | _ :: _, _ :: _, hv => by simp [RL.length hv.2]
theorem RL.get {pl : List Pl} : ∀ {l : List SV} {vs : List Value} {n : Nat} {s : SV}, RL pl l vs → l[n]? = some s → ∃ v, vs[n]? = some v ∧ s.R pl v
  | [], [], _, _, _, h => by simp at h
  | [], _ :: _, _, _, hv, _ => hv.elim
  | _ :: _, [], _, _, hv, _ => hv.elim
  | _ :: _, v :: _, 0, _, hv, h => ⟨v, rfl, by simp at h; subst h; exact hv.1⟩
  | _ :: _, _ :: _, n + 1, _, hv, h => by simp at h ⊢; exact RL.get hv.2 h
theorem PL.get {pl : List Pl} : ∀ {l : List PV} {vs : List Value} {n : Nat} {s : PV}, PL pl l vs → l[n]? = some s → ∃ v, vs[n]? = some v ∧ s.R pl v
  | [], [], _, _, _, h => by simp at h
  | [], _ :: _, _, _, hv, _ => hv.elim
  | _ :: _, [], _, _, hv, _ => hv.elim
  | _ :: _, v :: _, 0, _, hv, h => ⟨v, rfl, by simp at h; subst h; exact hv.1⟩
  | _ :: _, _ :: _, n + 1, _, hv, h => by simp at h ⊢; exact PL.get hv.2 h
theorem RL.drop {pl : List Pl} : ∀ {l : List SV} {vs : List Value} (n : Nat), RL pl l vs → RL pl (dropN n l) (vs.drop n)
  | _, _, 0, hv => by simpa [dropN] using hv
  | [], [], n + 1, _ => trivial
  | [], _ :: _, _ + 1, hv => hv.elim
  | _ :: _, [], _ + 1, hv => hv.elim
  | _ :: _, _ :: _, n + 1, hv => by simpa [dropN] using RL.drop n hv.2
theorem RL.takeE {pl : List Pl} : ∀ {n : Nat} {l r : List SV} {vs : List Value}, RL pl l vs → takeE n l = some r → RL pl r (vs.take n) ∧ n ≤ vs.length
  | 0, _, r, vs, hv, h => by simp [AM.takeE] at h; subst h; exact ⟨by simp [RL], Nat.zero_le _⟩
  | n + 1, [], _, _, _, h => by simp [AM.takeE] at h
  | _ + 1, _ :: _, _, [], hv, _ => hv.elim
  | n + 1, s :: l, r, v :: vs, hv, h => by
    simp only [AM.takeE] at h
    cases ht : AM.takeE n l with
    | none => simp [ht] at h
    | some r' =>
      simp [ht] at h
      subst h
      have ⟨h1, h2⟩ := RL.takeE hv.2 ht
      exact ⟨by simpa [RL] using ⟨hv.1, h1⟩, by simp; omega⟩
theorem over_spec {pl : List Pl} : ∀ {n : Nat} {l ys r : List SV} {vs us : List Value}, RL pl l vs → RL pl ys us → over l n ys = some r →
    RL pl r (vs.take n ++ us ++ vs.drop (n + us.length)) ∧ n + us.length ≤ vs.length
  | 0, l, [], r, vs, [], hv, _, h => by
    cases l <;> simp [over] at h <;> subst h <;> exact ⟨by simpa using hv, by simp⟩
  | _, _, [], _, _, _ :: _, _, hu, _ => hu.elim
  | _, _, _ :: _, _, _, [], _, hu, _ => hu.elim
  | 0, [], y :: ys, _, _, _, _, _, h => by simp [over] at h
  | n + 1, [], _, _, _, _, _, _, h => by simp [over] at h
  | _, _ :: _, _, _, [], _, hv, _, _ => hv.elim
  | 0, s :: l, y :: ys, r, v :: vs, u :: us, hv, hu, h => by
    simp only [over] at h
    cases ho : over l 0 ys with
    | none => simp [ho] at h
    | some r' =>
      simp [ho] at h
      subst h
      have ⟨h1, h2⟩ := over_spec hv.2 hu.2 ho
      refine ⟨?_, by simp at h2 ⊢; omega⟩
      simp only [Nat.zero_add, List.take_zero, List.nil_append, List.length_cons] at h1 ⊢
      exact ⟨hu.1, by simpa [Nat.add_comm] using h1⟩
  | n + 1, s :: l, ys, r, v :: vs, us, hv, hu, h => by
    simp only [over] at h
    cases ho : over l n ys with
    | none => simp [ho] at h
    | some r' =>
      simp [ho] at h
      subst h
      have ⟨h1, h2⟩ := over_spec hv.2 hu ho
      refine ⟨?_, by simp; omega⟩
      have e : n + 1 + us.length = (n + us.length) + 1 := by omega
      rw [e]
      simp only [List.take_succ_cons, List.cons_append, List.drop_succ_cons]
      exact ⟨hv.1, h1⟩

theorem known_of {pl : List Pl} {s : SV} {v : Value} (hs : s.known = true) (h : s.R pl v) : s.val pl = some v := by
  rcases h with rfl | h
  · cases hs
  · exact h
theorem knownAll_eq {pl : List Pl} : ∀ {l : List SV} {vs us : List Value}, knownAll l = true → RL pl l vs → RL pl l us → vs = us
  | [], [], [], _, _, _ => rfl
  | [], _ :: _, _, _, h, _ => h.elim
  | [], _, _ :: _, _, _, h => h.elim
  | _ :: _, [], _, _, h, _ => h.elim
  | _ :: _, _ :: _, [], _, _, h => h.elim
  | s :: l, v :: vs, u :: us, hk, h, h' => by
    simp only [knownAll, Bool.and_eq_true] at hk
    have e1 := known_of hk.1 h.1
    have e2 := known_of hk.1 h'.1
    rw [e1] at e2
    rw [knownAll_eq hk.2 h.2 h'.2, Option.some.inj e2]
theorem PV.known_eq {pl : List Pl} {p : PV} {v u : Value} (hk : p.known = true) (h : p.R pl v) (h' : p.R pl u) : v = u := by
  cases p with
  | one s =>
    have e1 := known_of hk h
    have e2 := known_of hk h'
    rw [e1] at e2
    exact Option.some.inj e2
  | agg l =>
    obtain ⟨vs, rfl, h1⟩ := h
    obtain ⟨us, rfl, h2⟩ := h'
    rw [knownAll_eq hk h1 h2]

theorem owVal_oneCell {pl : List Pl} {b esz st len : Nat} {v : Value} (hv : owVal pl b esz st len = some v) : v.oneCell' = true := by
  unfold owVal at hv
  split at hv
  · split at hv
    · split at hv
      · cases hv; rfl
      · cases hv
    · cases hv; rfl
  · cases hv
theorem rsVal_oneCell {pl : List Pl} {b len cap : Nat} {v : Value} (hv : rsVal pl b len cap = some v) : v.oneCell' = true := by
  unfold rsVal at hv
  split at hv
  · split at hv
    · split at hv
      · cases hv; rfl
      · cases hv
    · cases hv; rfl
  · cases hv
theorem rpVal_oneCell {pl : List Pl} {b n : Nat} {v : Value} (hv : rpVal pl b n = some v) : v.oneCell' = true := by
  unfold rpVal at hv
  split at hv
  · cases hv; rfl
  · cases hv
theorem SV.val_oneCell {pl : List Pl} {s : SV} {v : Value} (h : s.val pl = some v) : v.oneCell' = true := by
  cases s <;> simp only [SV.val] at h
  case any => cases h
  case ptr b off => cases ha : addrOf pl b off <;> simp [ha] at h; subst h; rfl
  case sl b off len cap => cases ha : addrOf pl b off <;> simp [ha] at h; subst h; rfl
  case ifp t b off => cases ha : addrOf pl b off <;> simp [ha] at h; subst h; rfl
  case ow b esz st len lit => exact owVal_oneCell h
  case rs b esz len cap => exact rsVal_oneCell h
  case rp b esz idx sub => exact rpVal_oneCell h
  case mp b => cases hp : pl[b]? <;> simp [hp] at h; subst h; rfl
  case pe b esz idx sub => cases ha : addrOf pl b (idx * esz + sub) <;> simp [ha] at h; subst h; rfl
  case fn f cap => cases ha : capVals pl cap <;> simp [ha] at h; subst h; rfl
  all_goals (cases h; rfl)
theorem knownAll_oneCell {pl : List Pl} : ∀ {l : List SV} {vs : List Value}, knownAll l = true → RL pl l vs → ∀ v ∈ vs, v.oneCell' = true
  | [], [], _, _ => by simp
  | [], _ :: _, _, h => h.elim
  | _ :: _, [], _, h => h.elim
  | s :: l, v :: vs, hk, h => by
    simp only [knownAll, Bool.and_eq_true] at hk
    intro u hu
    rcases List.mem_cons.1 hu with rfl | hu
    · exact SV.val_oneCell (known_of hk.1 h.1)
    · exact knownAll_oneCell hk.2 h.2 u hu
theorem PV.cells_R {pl : List Pl} {p : PV} {v : Value} (hk : p.known = true) (h : p.R pl v) : RL pl p.cells v.cells.toList ∧ ∀ u ∈ v.cells.toList, u.oneCell' = true := by
  cases p with
  | one s =>
    have e1 := known_of hk h
    have h1 := SV.val_oneCell e1
    have : v.cells = #[v] := by cases v <;> first | rfl | (simp [Value.oneCell'] at h1)
    rw [this]
    exact ⟨⟨h, trivial⟩, by simpa using h1⟩
  | agg l =>
    obtain ⟨vs, rfl, h1⟩ := h
    exact ⟨by simpa [PV.cells, Value.cells] using h1, by simpa [Value.cells] using knownAll_oneCell hk h1⟩

theorem ofVal_R (pl : List Pl) (v : Value) : (ofVal v).R pl v := by
  unfold ofVal
  split <;> first | exact .inr rfl | exact .inl rfl
theorem ofVals_R (pl : List Pl) : ∀ (l : List Value), RL pl (ofVals l) l
  | [] => trivial
  | v :: l => ⟨ofVal_R pl v, ofVals_R pl l⟩
theorem ofValue_R (pl : List Pl) (v : Value) : (ofValue v).R pl v := by
  unfold ofValue
  split
  · rename_i cs; exact ⟨cs.toList, by simp, ofVals_R pl _⟩
  · exact ofVal_R pl _

def EnvR (pl : List Pl) (env : Env) (tmps : Array Value) : Prop := env.length = tmps.size ∧ ∀ t, (getD env t AV.any).R pl (tmps.getD t Go.undef)
theorem any_R (pl : List Pl) (v : Value) : AV.any.R pl v := Or.inl rfl
theorem undef_R (pl : List Pl) : AV.undef.R pl Go.undef := ⟨[], rfl, trivial⟩
theorem EnvR.ext {pl pl' : List Pl} {env : Env} {tmps : Array Value} (hp : PExt pl pl') (h : EnvR pl env tmps) : EnvR pl' env tmps := ⟨h.1, fun t => (h.2 t).ext hp⟩
theorem EnvR.set {pl : List Pl} {env : Env} {tmps : Array Value} (h : EnvR pl env tmps) (d : Nat) {av : AV} {v : Value} (hv : av.R pl v) : EnvR pl (AM.set env d av) (tmps.setIfInBounds d v) := by
  refine ⟨by simp [set_eq, h.1], fun t => ?_⟩
  have ht := h.2 t
  rw [getD_eq, set_eq, List.getElem?_set, Array.getD_eq_getD_getElem?, Array.getElem?_setIfInBounds]
  rw [getD_eq, Array.getD_eq_getD_getElem?] at ht
  by_cases e : d = t
  · subst e
    by_cases hl : d < env.length
    · have : d < tmps.size := by rw [← h.1]; exact hl
      simp [hl, this, hv]
    · have : ¬ d < tmps.size := by rw [← h.1]; exact hl
      simp [hl, this, any_R]
  · simp only [if_neg e]; exact ht
theorem EnvR.put {pl : List Pl} {env : Env} {a : Act} (h : EnvR pl env a.tmps) (d : Option Nat) {av : AV} {v : Value} (hv : av.R pl v) : EnvR pl (putD env d av) (a.put d v).tmps := by
  cases d with
  | none => exact h
  | some d => exact h.set d hv
theorem EnvR.ev {pl : List Pl} {env : Env} {a : Act} (h : EnvR pl env a.tmps) (x : Operand) : (AM.ev env x).R pl (a.eval x) := by
  cases x with
  | tmp t => exact h.2 t
  | const v => exact ofValue_R pl v
  | global g => exact any_R pl _
  | func f => exact .inr rfl

end Go.AM
namespace Go
def offEnd (fz : Nat × Nat) (n : Nat) : Prop := fz.1 = fz.2 ∨ n ≤ fz.1
def World.ownsRowZ (w : World) (base : Nat) (e : TypeId) (size : Nat) (v : Value) (n : Nat) (xs : List Value) : Prop :=
  xs.length = n * size ∧
  ((v = .slice none 0 0 ∧ n = 0) ∨
   ∃ g cap cur, v = .slice (some ⟨g, 0, none⟩) n cap ∧ base ≤ g ∧ (∃ fz, w.heap[g]? = some (.cells cur e fz) ∧ offEnd fz cur.size) ∧ n ≤ cap ∧ cap ≤ maxLen ∧ cur.size = cap * size ∧ cur.toList.take (n * size) = xs)
section
variable {w : World} {base : Nat} {e : TypeId} {size : Nat} {v : Value} {n : Nat} {xs : List Value}
theorem offEnd0 (n : Nat) : offEnd (0, 0) n := .inl rfl
theorem World.ownsRowZ_of (h : w.ownsRow base e size v n xs) : w.ownsRowZ base e size v n xs := by
  refine ⟨h.1, ?_⟩
  rcases h.2 with hn | ⟨g, cap, cur, hv, hb, hg, rest⟩
  · exact .inl hn
  · exact .inr ⟨g, cap, cur, hv, hb, ⟨(0, 0), hg, offEnd0 _⟩, rest⟩
theorem World.ownsRowZ_nil (w : World) (base : Nat) (e : TypeId) (size : Nat) : w.ownsRowZ base e size (.slice none 0 0) 0 [] := ⟨by simp, .inl ⟨rfl, rfl⟩⟩
theorem World.ownsRowZ.lt (h : w.ownsRowZ base e size v n xs) : ∀ k, v.ownBlock = some k → base ≤ k ∧ k < w.heap.size := by
  intro k hk
  rcases h.2 with ⟨rfl, _⟩ | ⟨g, cap, cur, rfl, hb, ⟨fz, hg, _⟩, _⟩
  · simp [Value.ownBlock] at hk
  · simp [Value.ownBlock] at hk
    subst hk
    exact ⟨hb, (Array.getElem?_eq_some_iff.1 hg).1⟩
theorem World.ownsRowZ.cells (h : w.ownsRowZ base e size v n xs) {g : Nat} (hg : v.ownBlock = some g) : ∀ (j : Nat) u, xs[j]? = some u → w.cell? ((⟨g, 0, none⟩ : Addr).add j) = some u := by
  intro j u hu
  rcases h.2 with ⟨rfl, _⟩ | ⟨g', cap, cur, rfl, _, ⟨fz, hgg, _⟩, _, _, _, htake⟩
  · simp [Value.ownBlock] at hg
  · simp [Value.ownBlock] at hg
    subst hg
    have hadd : (⟨g', 0, none⟩ : Addr).add j = ⟨g', j, none⟩ := by unfold Addr.add; split <;> simp_all
    rw [hadd, cell_of_row w g' j cur e fz hgg]
    rw [← htake, List.getElem?_take] at hu
    split at hu
    · simpa using hu
    · cases hu
end
theorem run_storeCells_atZ (P : Program) (g o : Nat) (t : TypeId) (fz : Nat × Nat) : ∀ (vs : List Value) (i : Nat) (cur : Array Value) (w : World), w.heap[g]? = some (.cells cur t fz) → offEnd fz cur.size → o + i + vs.length ≤ cur.size → (∀ v ∈ vs, v.oneCell' = true) →
    (storeCells ⟨g, o, none⟩ vs i).run P w = .ok () (w.setRow g (cur.toList.take (o + i) ++ vs ++ cur.toList.drop (o + i + vs.length)).toArray)
  | [], i, cur, w, hg, _, _, _ => by
    simp only [storeCells, List.append_nil, List.length_nil, Nat.add_zero, List.take_append_drop, Array.toArray_toList]
    rw [setRow_self w g cur t fz hg]
    rfl
  | v :: rest, i, cur, w, hg, hfz, hl, h1 => by
    have hi : o + i < cur.size := by simp at hl; omega
    have hadd : (⟨g, o, none⟩ : Addr).add i = ⟨g, o + i, none⟩ := by unfold Addr.add; split <;> simp_all
    have hcell : w.cell? ⟨g, o + i, none⟩ = some cur[o + i] := by simp [World.cell?, hg, hi]
    have hfro : w.frozen? ⟨g, o + i, none⟩ = false := by
      obtain ⟨lo, hi'⟩ := fz
      simp only [World.frozen?, hg, Bool.and_eq_false_iff, decide_eq_false_iff_not]
      rcases hfz with h | h
      · simp only at h
        omega
      · simp only at h
        omega
    have hst : (store ((⟨g, o, none⟩ : Addr).add i) v).run P w = .ok () (w.setRow g (cur.setIfInBounds (o + i) v)) := by
      rw [hadd, run_store P w _ v _ (h1 v (by simp)), hcell]
      simp [hfro, setCell_eq_setRow w g (o + i) cur t fz v hg]
    have ih := run_storeCells_atZ P g o t fz rest (i + 1) (cur.setIfInBounds (o + i) v) (w.setRow g (cur.setIfInBounds (o + i) v)) (setRow_heap w g cur _ t _ hg) (by simpa using hfz) (by simp at hl ⊢; omega) (fun x hx => h1 x (by simp [hx]))
    simp only [storeCells, Sem.run_bind, hst, Result.andThen_ok, ih, setRow_setRow]
    congr 3
    have e := list_seg_step cur.toList (o + i) v rest (by simp at hl ⊢; omega)
    simpa [Array.toList_setIfInBounds, Nat.add_assoc] using e
section
variable {P : Program} (w : World)
theorem run_append_roomZ (t ty e : TypeId) (i : TypeInfo) (ht : P.underlying t = some (.slice e)) (hi : P.info? e = some i)
    (g sLen sCap : Nat) (cur : Array Value) (fz : Nat × Nat) (hg : w.heap[g]? = some (.cells cur e fz)) (hz : offEnd fz cur.size)
    (a : Addr) (m c : Nat) (news : List Value) (hl : news.length = m * i.size) (hnews : ∀ (j : Nat) u, news[j]? = some u → w.cell? (a.add j) = some u) (h1 : ∀ u ∈ news, u.oneCell' = true)
    (hroom : sLen + m ≤ sCap) (hfit : sLen * i.size + news.length ≤ cur.size) :
    (Builtin.append_ #[t, t] ty #[.slice (some ⟨g, 0, none⟩) sLen sCap, .slice (some a) m c]).run P w =
      .ok (.slice (some ⟨g, 0, none⟩) (sLen + m) sCap) (w.setRow g (cur.toList.take (sLen * i.size) ++ news ++ cur.toList.drop (sLen * i.size + news.length)).toArray) := by
  have hf := run_firstCells_some (P := P) w i.size m a m c news hl hnews
  have hst := run_storeCells_atZ P g (sLen * i.size) e fz news 0 cur w hg hz (by simpa using hfit) h1
  simp only [Nat.add_zero] at hst
  simp [Builtin.append_, run_underlying ht, sizeOf, typeInfo, hi, Builtin.lenOf, hroom, hf, Addr.add_lit, hst]
theorem run_append_ownZ (base : Nat) (t ty e : TypeId) (i : TypeInfo) (z : Value) (size bytes : Nat) (ht : P.underlying t = some (.slice e)) (hi : P.info? e = some i) (hz : i.zero = some z)
    (hsize : i.size = size) (hby : i.bytes = bytes) (hzs : z.cells.size = size) (hsz : 0 < size)
    (v : Value) (n : Nat) (xs : List Value) (hown : w.ownsRowZ base e size v n xs)
    (a : Addr) (m c : Nat) (news : List Value) (hl : news.length = m * size) (hnews : ∀ (j : Nat) u, news[j]? = some u → w.cell? (a.add j) = some u) (h1 : ∀ u ∈ news, u.oneCell' = true)
    (h63 : n + m ≤ maxLen) (hbytes : (n + m) * bytes ≤ 140737488355328) (hbase : base ≤ w.heap.size) :
    ∃ v' w', (Builtin.append_ #[t, t] ty #[v, .slice (some a) m c]).run P w = .ok v' w' ∧ w'.ownsRowZ base e size v' (n + m) (xs ++ news) ∧ w.grownBy w' v.ownBlock ∧
      (v' = .slice none 0 0 ↔ v = .slice none 0 0 ∧ m = 0) := by
  rcases hown.2 with ⟨rfl, rfl⟩ | ⟨g, cap, cur, rfl, hbg, ⟨fz, hg, hfz⟩, hnc, hcm, hcs, htake⟩
  · obtain ⟨v', w', h1', h2, h3, h4⟩ := run_append_own (P := P) w base t ty e i z size bytes ht hi hz hsize hby hzs hsz (.slice none 0 0) 0 xs ⟨hown.1, .inl ⟨rfl, rfl⟩⟩ a m c news hl hnews h1 h63 hbytes hbase
    exact ⟨v', w', h1', World.ownsRowZ_of h2, h3, h4⟩
  · subst hsize
    subst hby
    have hsmall : n + m ≤ 9223372036854775807 := by simp only [maxLen] at h63; omega
    have hlen : (xs ++ news).length = (n + m) * i.size := by rw [List.length_append, hown.1, hl, Nat.add_mul]
    by_cases hroom : n + m ≤ cap
    · have hfit : n * i.size + news.length ≤ cur.size := by rw [hl, hcs, ← Nat.add_mul]; exact Nat.mul_le_mul_right _ hroom
      have hr := run_append_roomZ (P := P) w t ty e i ht hi g n cap cur fz hg hfz a m c news hl hnews h1 hroom hfit
      have hsz2 : ((cur.toList.take (n * i.size) ++ news ++ cur.toList.drop (n * i.size + news.length)).toArray).size = cur.size := by
        simp only [List.size_toArray, List.length_append, List.length_take, List.length_drop, Array.length_toList]
        omega
      refine ⟨_, _, hr, ⟨hlen, .inr ⟨g, cap, _, rfl, hbg, ⟨fz, setRow_heap w g cur _ e _ hg, by rw [hsz2]; exact hfz⟩, hroom, hcm, by rw [hsz2]; exact hcs, ?_⟩⟩, ⟨rfl, rfl, rfl, by simp, fun k _ hk => setRow_other w g k _ (fun e => hk (by simp [Value.ownBlock, e]))⟩, by simp⟩
      rw [htake, ← hlen]
      exact List.take_left
    · have holds : ∀ (j : Nat) u, xs[j]? = some u → w.cell? ((⟨g, 0, none⟩ : Addr).add j) = some u := hown.cells (g := g) rfl
      have hr := run_append_grow (P := P) w t ty e i z ht hi hz ⟨g, 0, none⟩ n cap xs hown.1 holds a m c news hl hnews (by omega) (by omega) (growslice_fits (by omega) hbytes)
      have hge := grownCap_ge w (n + m) cap e
      have hcm2 : grownCap w (n + m) cap e ≤ maxLen := grownCap_le_maxLen w (n + m) cap e h63
      refine ⟨_, _, hr, ⟨hlen, .inr ⟨w.heap.size, _, _, rfl, hbase, ⟨(0, 0), heap_alloc_new w.drew _, offEnd0 _⟩, hge, hcm2, ?_, ?_⟩⟩, ⟨rfl, rfl, rfl, by simp, fun k hk _ => heap_alloc_old w.drew _ hk⟩, by simp⟩
      · simp only [Array.size_append, List.size_toArray, size_zeroCells, hzs, hown.1, hl, ← Nat.add_mul]
        congr 1
        omega
      · simp only [Array.toList_append, List.append_assoc]
        rw [← List.append_assoc, ← hlen]
        exact List.take_left
end
namespace Lib
section
variable {P : Program} (w : World)
theorem run_append_room_stringZ (t u ty e : TypeId) (i : TypeInfo) (ht : P.underlying t = some (.slice e)) (hu : P.underlying u = some .string) (hi : P.info? e = some i) (hs1 : i.size = 1)
    (g sLen sCap : Nat) (cur : Array Value) (fz : Nat × Nat) (hg : w.heap[g]? = some (.cells cur e fz)) (hfz : offEnd fz cur.size) (s : ByteArray)
    (hroom : sLen + s.size ≤ sCap) (hfit : sLen + s.size ≤ cur.size) :
    (Builtin.append_ #[t, u] ty #[.slice (some ⟨g, 0, none⟩) sLen sCap, .string s]).run P w =
      .ok (.slice (some ⟨g, 0, none⟩) (sLen + s.size) sCap) (w.setRow g (cur.toList.take sLen ++ strCells s ++ cur.toList.drop (sLen + s.size)).toArray) := by
  have hf := run_firstCells_string (P := P) w 1 s
  have hst := run_storeCells_atZ P g sLen e fz (strCells s) 0 cur w hg hfz (by simpa [strCells_length] using hfit) (strCells_oneCell s)
  simp only [Nat.add_zero, strCells_length] at hst
  simp [Builtin.append_, run_underlying ht, run_underlying hu, sizeOf, typeInfo, hi, hs1, Builtin.lenOf, hroom, hf, Addr.add_lit, hst]
theorem run_append_own_stringZ (base : Nat) (t u ty e : TypeId) (i : TypeInfo) (ht : P.underlying t = some (.slice e)) (hu : P.underlying u = some .string) (hi : P.info? e = some i) (hz : i.zero = some (.int .u8 0))
    (hsize : i.size = 1) (hby : i.bytes = 1)
    (v : Value) (n : Nat) (xs : List Value) (hown : w.ownsRowZ base e 1 v n xs) (s : ByteArray)
    (h63 : n + s.size ≤ maxLen) (hbytes : n + s.size ≤ 140737488355328) (hbase : base ≤ w.heap.size) :
    ∃ v' w', (Builtin.append_ #[t, u] ty #[v, .string s]).run P w = .ok v' w' ∧ w'.ownsRowZ base e 1 v' (n + s.size) (xs ++ strCells s) ∧ w.grownBy w' v.ownBlock ∧
      (v' = .slice none 0 0 ↔ v = .slice none 0 0 ∧ s.size = 0) := by
  rcases hown.2 with ⟨rfl, rfl⟩ | ⟨g, cap, cur, rfl, hbg, ⟨fz, hg, hfz⟩, hnc, hcm, hcs, htake⟩
  · obtain ⟨v', w', h1, h2, h3, h4⟩ := run_append_own_string (P := P) w base t u ty e i ht hu hi hz hsize hby (.slice none 0 0) 0 xs ⟨hown.1, .inl ⟨rfl, rfl⟩⟩ s h63 hbytes hbase
    exact ⟨v', w', h1, World.ownsRowZ_of h2, h3, h4⟩
  · have hsmall : n + s.size ≤ 9223372036854775807 := by simp only [maxLen] at h63; omega
    have hxl : xs.length = n := by simpa using hown.1
    have hlen : (xs ++ strCells s).length = (n + s.size) * 1 := by rw [List.length_append, hxl, strCells_length, Nat.mul_one]
    by_cases hroom : n + s.size ≤ cap
    · have hcs' : cur.size = cap := by simpa using hcs
      have hr := run_append_room_stringZ (P := P) w t u ty e i ht hu hi hsize g n cap cur fz hg hfz s hroom (by omega)
      have hsz2 : ((cur.toList.take n ++ strCells s ++ cur.toList.drop (n + s.size)).toArray).size = cur.size := by
        simp only [List.size_toArray, List.length_append, List.length_take, List.length_drop, Array.length_toList, strCells_length]
        omega
      refine ⟨_, _, hr, ⟨hlen, .inr ⟨g, cap, _, rfl, hbg, ⟨fz, setRow_heap w g cur _ e _ hg, by rw [hsz2]; exact hfz⟩, hroom, hcm, by rw [hsz2]; exact hcs, ?_⟩⟩, ⟨rfl, rfl, rfl, by simp, fun k _ hk => setRow_other w g k _ (fun e => hk (by simp [Value.ownBlock, e]))⟩, by simp⟩
      have ht' : cur.toList.take n = xs := by simpa using htake
      rw [ht', ← hlen]
      exact List.take_left
    · have holds : ∀ (j : Nat) u, xs[j]? = some u → w.cell? ((⟨g, 0, none⟩ : Addr).add j) = some u := hown.cells (g := g) rfl
      have hr := run_append_grow_string (P := P) w t u ty e i (.int .u8 0) ht hu hi hz ⟨g, 0, none⟩ n cap xs (by rw [hsize]; simpa using hxl) holds s (by omega) (by omega) (by rw [hby]; exact growslice_fits (by omega) (by omega))
      have hge := grownCap_ge w (n + s.size) cap e
      have hcm2 : grownCap w (n + s.size) cap e ≤ maxLen := grownCap_le_maxLen w (n + s.size) cap e h63
      refine ⟨_, _, hr, ⟨hlen, .inr ⟨w.heap.size, _, _, rfl, hbase, ⟨(0, 0), heap_alloc_new w.drew _, offEnd0 _⟩, hge, hcm2, ?_, ?_⟩⟩, ⟨rfl, rfl, rfl, by simp, fun k hk _ => heap_alloc_old w.drew _ hk⟩, by simp⟩
      · have hz1 : (Value.int IntKind.u8 0).cells.size = 1 := rfl
        simp only [Array.size_append, List.size_toArray, size_zeroCells, hz1, hxl, strCells_length]
        omega
      · simp only [Array.toList_append, List.append_assoc]
        rw [← List.append_assoc, ← hlen]
        exact List.take_left
end
end Lib
end Go
namespace Go.AM
open Go

def Pl.sv (p : Pl) (n : Nat) : Value := if p.nil then .slice none 0 0 else .slice (some ⟨p.blk, 0, none⟩) n p.cap
def EntR (pl : List Pl) : List (PV × PV) → List MapEntry → Prop
  | [], [] => True
  | (k, v) :: l, e :: es => k.R pl e.key ∧ v.R pl e.val ∧ EntR pl l es
  | _, _ => False
def Seen (w : World) (c base : Nat) (vs : List Value) : Prop := ∀ (j : Nat) v, vs[j]? = some v → w.cell? ⟨c, base + j, none⟩ = some v
def BlkR (pl : List Pl) (w : World) (x : Blk) (p : Pl) : Prop :=
  match x with
  | .gone => True
  | .row T cs => ∃ vs, RL pl cs vs ∧ w.heap[p.blk]? = some (.cells vs.toArray T (0, 0))
  | .own T C xs => ∃ vs, RL pl (flatC C xs) vs ∧ w.ownsRowZ 0 T C.esz (p.sv xs.length) xs.length vs
  | .ownL T z n cs => ∃ vs, RL pl cs vs ∧ w.ownsRowZ 0 T z (p.sv n) n vs
  | .ro _ C xs => ∃ vs, RL pl (flatC C xs) vs ∧ (p.nil = true → xs = []) ∧ Seen w p.blk p.cap vs
  | .mp es => ∃ (ms : Array MapEntry) (clock : Nat), EntR pl es ms.toList ∧ w.heap[p.blk]? = some (.map ms clock)
  | .omp C es => ∃ (ms : Array MapEntry) (clock : Nat), EntR pl (omE C es) ms.toList ∧ w.heap[p.blk]? = some (.map ms clock)
  | .sit _ s n => w.heap[p.blk]? = some (.stringIter ⟨s.toArray⟩ n)
def HB (pl : List Pl) (h : Heap) (w : World) : Prop := ∀ (b : Nat) x p, h[b]? = some x → pl[b]? = some p → BlkR pl w x p

def OR.gives (r : OR) (av : AV) : Prop := r = .ok av ∨ ∃ p : Prop, r = .iff p av ∧ p
theorem gives_fail {av : AV} (h : OR.fail.gives av) : False := by rcases h with h | ⟨p, h, _⟩ <;> cases h
theorem gives_ok {av x : AV} (h : (OR.ok x).gives av) : av = x := by rcases h with h | ⟨p, h, _⟩ <;> cases h; rfl
theorem gives_ofOpt {r : Option PV} {av : AV} (h : (ofOpt r).gives av) : ∃ p, r = some p ∧ av = .v p := by
  cases r with
  | none => exact (gives_fail h).elim
  | some p => exact ⟨p, rfl, gives_ok h⟩

section
variable {P : Program}
theorem run_size {t n : Nat} (h : size? P t = some n) (w : World) : (sizeOf t).run P w = .ok n w := by
  unfold size? at h
  cases hi : P.info? t with
  | none => simp [hi] at h
  | some i => simp [hi] at h; subst h; simp [sizeOf, typeInfo, hi]
theorem info_size {t n : Nat} (h : size? P t = some n) : (P.info? t).map (·.size) = some n := by
  unfold size? at h
  cases hi : P.info? t with
  | none => simp [hi] at h
  | some i => simp [hi] at h; subst h; rfl
theorem run_isAgg {t : Nat} {b : Bool} (h : isAggT P t = some b) (w : World) : (isAgg t).run P w = .ok b w := by
  unfold isAggT at h
  cases hu : P.underlying t with
  | none => simp [hu] at h
  | some d =>
    unfold isAgg
    rw [Sem.run_bind, run_underlying hu w]
    cases d <;> simp [hu] at h <;> subst h <;> simp
theorem isAgg_row {t : Nat} (h : isAggT P t = some true) : ∃ d, P.underlying t = some d ∧ d.isRow = true := by
  unfold isAggT at h
  cases hu : P.underlying t with
  | none => simp [hu] at h
  | some d => cases d <;> simp [hu] at h <;> exact ⟨_, rfl, rfl⟩

theorem part_run {pl : List Pl} {t off : Nat} {cs : List SV} {vs : List Value} {p : PV} (hv : RL pl cs vs) (h : partOf P t cs off = some p) :
    ∃ v, p.R pl v ∧ ∀ w, (part t vs.toArray off).run P w = .ok v w := by
  unfold partOf at h
  cases ha : isAggT P t with
  | none => simp [ha] at h
  | some b =>
    cases b with
    | false =>
      simp only [ha] at h
      cases hg : get? cs off with
      | none => simp [hg] at h
      | some s =>
        simp [hg] at h
        subst h
        rw [get?_eq] at hg
        obtain ⟨v, h1, h2⟩ := hv.get hg
        refine ⟨v, h2, fun w => ?_⟩
        simp [part, Sem.run_bind, run_isAgg ha, h1]
    | true =>
      cases hs : size? P t with
      | none => simp [ha, hs] at h
      | some n =>
        simp only [ha, hs] at h
        cases ht : takeE n (dropN off cs) with
        | none => simp [ht] at h
        | some l =>
          simp [ht] at h
          subst h
          have ⟨h1, h2⟩ := RL.takeE (hv.drop off) ht
          refine ⟨.agg ((vs.drop off).take n).toArray, ⟨_, rfl, h1⟩, fun w => ?_⟩
          have e : vs.toArray.extract off (off + n) = ((vs.drop off).take n).toArray := by
            apply Array.ext'
            simp [List.take_drop, Nat.add_comm]
          simp [part, Sem.run_bind, run_isAgg ha, run_size hs, e]

theorem Seen.of_row {w : World} {c T : Nat} {vs : List Value} {fr : Nat × Nat} (h : w.heap[c]? = some (.cells vs.toArray T fr)) : Seen w c 0 vs := fun j v hj => by
  simp [World.cell?, h, hj]
theorem Seen.of_own {w : World} {T z n : Nat} {p : Pl} {m : Nat} {vs : List Value} (h : w.ownsRowZ 0 T z (p.sv m) n vs) : Seen w p.blk 0 vs := fun j v hj => by
  cases hn : p.nil with
  | true =>
    rcases h.2 with ⟨_, h0⟩ | ⟨g, cap, cur, hv, _⟩
    · have := h.1
      rw [h0] at this
      have e : vs = [] := List.eq_nil_of_length_eq_zero (by simpa using this)
      rw [e] at hj; simp at hj
    · simp [Pl.sv, hn] at hv
  | false =>
    have := h.cells (g := p.blk) (by simp [Pl.sv, hn, Value.ownBlock]) j v hj
    rw [Addr.add_lit] at this
    simpa using this
theorem Seen.part {w : World} {c base : Nat} {vs : List Value} (h : Seen w c base vs) (off n : Nat) : Seen w c (base + off) ((vs.drop off).take n) := fun j v hj => by
  have hj' : vs[off + j]? = some v := by
    rw [List.getElem?_take] at hj
    split at hj
    · simpa [List.getElem?_drop] using hj
    · cases hj
  rw [Nat.add_assoc]
  exact h _ _ hj'
theorem RL.split {pl : List Pl} : ∀ {a b : List SV} {vs : List Value}, RL pl (a ++ b) vs → RL pl a (vs.take a.length) ∧ RL pl b (vs.drop a.length)
  | [], _, _, h => ⟨by simp [RL], by simpa using h⟩
  | _ :: _, _, [], h => h.elim
  | s :: a, b, v :: vs, h => by
    obtain ⟨h1, h2⟩ := RL.split h.2
    exact ⟨by simpa [RL] using ⟨h.1, h1⟩, by simpa using h2⟩
theorem RL.append {pl : List Pl} : ∀ {a b : List SV} {vs us : List Value}, RL pl a vs → RL pl b us → RL pl (a ++ b) (vs ++ us)
  | [], _, [], _, _, h => h
  | [], _, _ :: _, _, h, _ => h.elim
  | _ :: _, _, [], _, h, _ => h.elim
  | _ :: _, _, _ :: _, _, h, k => ⟨h.1, RL.append h.2 k⟩
theorem flat_get {pl : List Pl} {C : Codec} : ∀ {xs : List C.τ} {vs : List Value} {idx : Nat}, RL pl (flatC C xs) vs → idx < xs.length → RL pl (C.enc (xs.getD idx C.d)) ((vs.drop (idx * C.esz)).take C.esz)
  | [], _, _, _, hi => by simp at hi
  | t :: xs, vs, 0, h, _ => by
    have := (RL.split h).1
    rw [C.len_ok] at this
    simpa using this
  | t :: xs, vs, idx + 1, h, hi => by
    have h2 := (RL.split h).2
    rw [C.len_ok] at h2
    have := flat_get (idx := idx) h2 (by simpa using hi)
    rw [List.drop_drop] at this
    have e : C.esz + idx * C.esz = (idx + 1) * C.esz := by rw [Nat.add_mul, Nat.one_mul, Nat.add_comm]
    rw [e] at this
    simpa using this
theorem flat_len {C : Codec} : ∀ (xs : List C.τ), (flatC C xs).length = xs.length * C.esz
  | [] => by simp [flatC]
  | t :: xs => by simp [flatC, flat_len xs, C.len_ok, Nat.add_mul, Nat.add_comm]
theorem flat_known {C : Codec} : ∀ (xs : List C.τ), knownAll (flatC C xs) = true
  | [] => rfl
  | t :: xs => by
    have : ∀ (a b : List SV), knownAll a = true → knownAll b = true → knownAll (a ++ b) = true := fun a b ha hb => by
      induction a with
      | nil => exact hb
      | cons s a ih => simp only [knownAll, List.cons_append, Bool.and_eq_true] at ha ⊢; exact ⟨ha.1, ih ha.2⟩
    exact this _ _ (C.known_ok t) (flat_known xs)

theorem load_cells {pl : List Pl} {t off : Nat} {cs : List SV} {vs : List Value} {p : PV} (hv : RL pl cs vs) (hq : partOf P t cs off = some p) {w : World} {c base : Nat} (hs : Seen w c base vs) :
    ∃ v, p.R pl v ∧ (loadVar t ⟨c, base + off, none⟩).run P w = .ok v w := by
  unfold partOf at hq
  cases hA : isAggT P t with
  | none => simp [hA] at hq
  | some bb =>
    cases bb with
    | false =>
      simp only [hA] at hq
      cases hg2 : get? cs off with
      | none => simp [hg2] at hq
      | some s =>
        simp [hg2] at hq
        subst hq
        rw [get?_eq] at hg2
        obtain ⟨v, h1, h2⟩ := hv.get hg2
        refine ⟨v, h2, ?_⟩
        simp [loadVar, Sem.run_bind, run_isAgg hA, run_load, hs _ _ h1]
    | true =>
      cases hs2 : size? P t with
      | none => simp [hA, hs2] at hq
      | some n =>
        simp only [hA, hs2] at hq
        cases ht : takeE n (dropN off cs) with
        | none => simp [ht] at hq
        | some l =>
          simp [ht] at hq
          subst hq
          have ⟨h1, h2⟩ := RL.takeE (hv.drop off) ht
          obtain ⟨d, hd, hd2⟩ := isAgg_row hA
          have hlen : ((vs.drop off).take n).length = n := by
            simp at h2 ⊢; omega
          exact ⟨_, ⟨_, rfl, h1⟩, run_loadVar_mid w c (base + off) t _ d (hs.part off n) hd hd2 (by rw [hlen]; exact info_size hs2)⟩
theorem load_run {pl : List Pl} {h : Heap} {t b off : Nat} {p : PV} (hl : loadV P t h b off = some p) {a : Addr} (ha : addrOf pl b off = some a) {w : World} (hB : HB pl h w) :
    ∃ v, p.R pl v ∧ (loadVar t a).run P w = .ok v w := by
  unfold loadV at hl
  unfold addrOf at ha
  cases hp : pl[b]? with
  | none => simp [hp] at ha
  | some q =>
    simp [hp] at ha
    subst ha
    cases hg : get? h b with
    | none => simp [hg] at hl
    | some x =>
      rw [get?_eq] at hg
      have hx := hB b x q hg hp
      cases x with
      | gone => simp [get?_eq, hg] at hl
      | own T C xs => simp [get?_eq, hg] at hl
      | ro T C xs => simp [get?_eq, hg] at hl
      | omp C es => simp [get?_eq, hg] at hl
      | sit c s n => simp [get?_eq, hg] at hl
      | mp es => simp [get?_eq, hg] at hl
      | row T cs =>
        simp only [get?_eq, hg] at hl
        obtain ⟨vs, hv, hw⟩ := hx
        cases hq : partOf P t cs off with
        | none => simp [hq] at hl
        | some p' =>
          simp only [hq] at hl
          split at hl
          · have e : p' = p := by simpa using hl
            subst e
            have := load_cells hv hq (Seen.of_row hw)
            simpa using this
          · cases hl
      | ownL T z n cs =>
        simp only [get?_eq, hg] at hl
        obtain ⟨vs, hv, hw⟩ := hx
        cases hq : partOf P t cs off with
        | none => simp [hq] at hl
        | some p' =>
          simp only [hq] at hl
          split at hl
          · have e : p' = p := by simpa using hl
            subst e
            have := load_cells hv hq (Seen.of_own hw)
            simpa using this
          · cases hl
theorem loadE_run {pl : List Pl} {h : Heap} {t b z idx sub : Nat} {av : AV} (hl : (loadE P t h b z idx sub).gives av) {a : Addr} (ha : addrOf pl b (idx * z + sub) = some a) :
    ∃ p : PV, av = .v p ∧ p.known = true ∧ ∀ w, HB pl h w → ∃ v, p.R pl v ∧ (loadVar t a).run P w = .ok v w := by
  unfold loadE at hl
  unfold addrOf at ha
  split at hl
  · rename_i T C xs hg
    rw [get?_eq] at hg
    split at hl
    · rename_i hz
      split at hl
      · rename_i p hq
        split at hl
        · rename_i hk
          rcases hl with hl | ⟨q, hl, hi⟩
          · cases hl
          · injection hl with h1 h2
            rw [← h1] at hi
            refine ⟨p, h2.symm, hk, fun w hB => ?_⟩
            cases hp : pl[b]? with
            | none => simp [hp] at ha
            | some q =>
              simp [hp] at ha
              subst ha
              obtain ⟨vs, hv, hw⟩ := hB b _ q hg hp
              have h3 := flat_get hv hi
              have h4 := (Seen.of_own hw).part (idx * C.esz) C.esz
              rw [hz] at h3 h4
              have := load_cells h3 hq h4
              simpa using this
        · exact (gives_fail hl).elim
      · exact (gives_fail hl).elim
    · exact (gives_fail hl).elim
  · exact (gives_fail hl).elim
theorem loadR_run {pl : List Pl} {h : Heap} {t b z idx sub : Nat} {av : AV} (hl : (loadR P t h b z idx sub).gives av) {v0 : Value} (ha : rpVal pl b (idx * z + sub) = some v0) :
    ∃ (p : PV) (a : Addr), av = .v p ∧ p.known = true ∧ v0 = .pointer (some a) ∧ ∀ w, HB pl h w → ∃ v, p.R pl v ∧ (loadVar t a).run P w = .ok v w := by
  unfold loadR at hl
  unfold rpVal at ha
  split at hl
  · rename_i T C xs hg
    rw [get?_eq] at hg
    split at hl
    · rename_i hz
      split at hl
      · rename_i p hq
        split at hl
        · rename_i hk
          rcases hl with hl | ⟨q, hl, hi⟩
          · cases hl
          · injection hl with h1 h2
            rw [← h1] at hi
            cases hp : pl[b]? with
            | none => simp [hp] at ha
            | some q =>
              simp [hp] at ha
              refine ⟨p, _, h2.symm, hk, ha.symm, fun w hB => ?_⟩
              obtain ⟨vs, hv, _, hw⟩ := hB b _ q hg hp
              have h3 := flat_get hv hi
              have h4 := hw.part (idx * C.esz) C.esz
              rw [hz] at h3 h4
              have := load_cells h3 hq h4
              simpa [Nat.add_assoc] using this
        · exact (gives_fail hl).elim
      · exact (gives_fail hl).elim
    · exact (gives_fail hl).elim
  · exact (gives_fail hl).elim
theorem loadV_known {h : Heap} {t b off : Nat} {p : PV} (hl : loadV P t h b off = some p) : p.known = true := by
  unfold loadV at hl
  split at hl
  · split at hl
    · split at hl
      · rename_i hk; have e := Option.some.inj hl; subst e; exact hk
      · cases hl
    · cases hl
  · split at hl
    · split at hl
      · rename_i hk; have e := Option.some.inj hl; subst e; exact hk
      · cases hl
    · cases hl
  · cases hl

def QS (P : Program) (pl : List Pl) (h : Heap) (o : Oper) (a : Act) (av : AV) : Prop :=
  ∃ v, ∀ w, HB pl h w → av.R pl v ∧ (execOp a.eval o).run P w = .ok (.value v) w
theorem mkI_R (pl : List Pl) (c : Bool) (k : IntKind) (n : Int) : (mkI c k n).R pl (.int k n) := by cases c <;> exact Or.inr rfl
theorem mkB_R (pl : List Pl) (c : Bool) (b : Bool) : (mkB c b).R pl (.bool b) := by cases c <;> exact Or.inr rfl

theorem aInt_sound (pl : List Pl) {op : BinOp} {k : IntKind} {x y : Int} {xc yc : Bool} {av : AV} (h : (aInt op k x y xc yc).gives av) (t : Nat) :
    ∃ v, av.R pl v ∧ ∀ w, (binOp op t (.int k x) (.int k y)).run P w = .ok v w := by
  unfold aInt at h
  cases op <;> simp only [arith, divI, cmpI] at h
  case add => rw [gives_ok h]; exact ⟨_, mkI_R .., fun w => by simp [binOp_add, Op.intArith]⟩
  case sub => rw [gives_ok h]; exact ⟨_, mkI_R .., fun w => by simp [binOp_sub, Op.intArith]⟩
  case mul => rw [gives_ok h]; exact ⟨_, mkI_R .., fun w => by simp [binOp_mul, Op.intArith]⟩
  case quo =>
    cases yc with
    | true =>
      by_cases hy : y = 0
      · simp [hy] at h; exact (gives_fail h).elim
      · simp [hy] at h; rw [gives_ok h]; exact ⟨_, mkI_R .., fun w => by simp [binOp_quo, Op.intDiv, hy]⟩
    | false =>
      rcases h with h | ⟨p, h, hp⟩
      · cases h
      · have hy : y ≠ 0 := by injection h with h1 h2; rw [h1]; exact hp
        injection h with h1 h2; subst h2; exact ⟨_, mkI_R .., fun w => by simp [binOp_quo, Op.intDiv, hy]⟩
  case rem =>
    cases yc with
    | true =>
      by_cases hy : y = 0
      · simp [hy] at h; exact (gives_fail h).elim
      · simp [hy] at h; rw [gives_ok h]; exact ⟨_, mkI_R .., fun w => by simp [binOp_rem, Op.intDiv, hy]⟩
    | false =>
      rcases h with h | ⟨p, h, hp⟩
      · cases h
      · have hy : y ≠ 0 := by injection h with h1 h2; rw [h1]; exact hp
        injection h with h1 h2; subst h2; exact ⟨_, mkI_R .., fun w => by simp [binOp_rem, Op.intDiv, hy]⟩
  case eql => rw [gives_ok h]; exact ⟨_, mkB_R .., fun w => by simp [binOp_eql]; rfl⟩
  case neq => rw [gives_ok h]; exact ⟨_, mkB_R .., fun w => by simp [binOp_neq]; rfl⟩
  case lss => rw [gives_ok h]; exact ⟨_, mkB_R .., fun w => by simp [binOp_lss]⟩
  case leq => rw [gives_ok h]; exact ⟨_, mkB_R .., fun w => by simp [binOp_leq]⟩
  case gtr => rw [gives_ok h]; exact ⟨_, mkB_R .., fun w => by simp [binOp_gtr]⟩
  case geq => rw [gives_ok h]; exact ⟨_, mkB_R .., fun w => by simp [binOp_geq]⟩
  case and => simp only [bitI] at h; rw [gives_ok h]; exact ⟨_, mkI_R .., fun w => by simp [binOp, Op.intBits]⟩
  case or => simp only [bitI] at h; rw [gives_ok h]; exact ⟨_, mkI_R .., fun w => by simp [binOp, Op.intBits]⟩
  case xor => simp only [bitI] at h; rw [gives_ok h]; exact ⟨_, mkI_R .., fun w => by simp [binOp, Op.intBits]⟩
  case andNot => simp only [bitI] at h; rw [gives_ok h]; exact ⟨_, mkI_R .., fun w => by simp [binOp, Op.intBits]⟩
  all_goals (simp only [bitI] at h; exact (gives_fail h).elim)

theorem aSh_sound (pl : List Pl) {op : BinOp} (ho : isSh op = true) {x y : SV} {av : AV} (h : (aSh op x y).gives av) (t : Nat) {u v : Value} (hu : x.R pl u) (hv : y.R pl v) :
    ∃ r, av.R pl r ∧ (∀ w, (binOp op t u v).run P w = .ok r w) ∧ (∀ X Y, eqGuard op t X Y u v = pure ()) := by
  have key : ∀ (k k' : IntKind) (a b : Int), 0 ≤ b → ∀ w, (binOp op t (.int k a) (.int k' b)).run P w = .ok (.int k (shI op k a b)) w := fun k k' a b hb w => by
    have hb' : ¬ b < 0 := by omega
    cases op <;> first | (cases ho; done) | simp [binOp, Op.shift, hb', shI]
  have kg : ∀ (u v : Value) X Y, eqGuard op t X Y u v = pure () := fun u v X Y => by cases op <;> first | (cases ho; done) | simp [eqGuard]
  unfold aSh at h
  split at h
  all_goals first
    | exact (gives_fail h).elim
    | (rcases hu with hu | hu <;> first | (cases hu; done) | skip
       rcases hv with hv | hv <;> first | (cases hv; done) | skip
       simp only [SV.val, Option.some.injEq] at hu hv
       subst hu hv
       first
       | (split at h
          · rename_i hb
            rw [gives_ok h]
            exact ⟨_, mkI_R .., key _ _ _ _ hb, kg _ _⟩
          · exact (gives_fail h).elim)
       | (rcases h with h | ⟨p, h, hp⟩
          · cases h
          · injection h with h1 h2
            rw [← h1] at hp
            subst h2
            exact ⟨_, mkI_R .., key _ _ _ _ hp, kg _ _⟩))

theorem beqL (x y : List UInt8) : (x == y) = decide (x = y) := by rw [Bool.eq_iff_iff]; simp
theorem strB_sound (pl : List Pl) {op : BinOp} {c : Bool} {x y : List UInt8} {av : AV} (h : (strB op c x y).gives av) (t : Nat) :
    ∃ v, av.R pl v ∧ ∀ w, (binOp op t (.string ⟨x.toArray⟩) (.string ⟨y.toArray⟩)).run P w = .ok v w := by
  have hx : (⟨x.toArray⟩ : ByteArray).toList = x := by rw [Lib.toList_data]
  have hy : (⟨y.toArray⟩ : ByteArray).toList = y := by rw [Lib.toList_data]
  unfold strB at h
  cases op <;> simp only at h
  case add =>
    rcases h with h | ⟨p, h, hp⟩
    · cases h
    · injection h with h1 h2
      rw [← h1] at hp
      subst h2
      have e : (⟨x.toArray⟩ : ByteArray) ++ ⟨y.toArray⟩ = ⟨(x ++ y).toArray⟩ := by apply ByteArray.ext; simp [ByteArray.data_append]
      refine ⟨.string ⟨(x ++ y).toArray⟩, by cases c <;> exact Or.inr rfl, fun w => ?_⟩
      have hs : ¬ (((⟨x.toArray⟩ : ByteArray).size + (⟨y.toArray⟩ : ByteArray).size : Nat) : Int) > IntKind.i64.max := by
        simp only [ByteArray.size, List.size_toArray]
        omega
      simp only [binOp, Op.stringOp]
      rw [if_neg hs, e]
      rfl
  case eql => rw [gives_ok h]; exact ⟨_, mkB_R .., fun w => by simp [binOp, Op.stringOp, hx, hy]; exact beqL x y⟩
  case neq => rw [gives_ok h]; exact ⟨_, mkB_R .., fun w => by simp [binOp, Op.stringOp, hx, hy]; exact beqL x y⟩
  all_goals exact (gives_fail h).elim

theorem aBin_sound (pl : List Pl) {op : BinOp} {x y : SV} {av : AV} (h : (aBin op x y).gives av) (t : Nat) {u v : Value} (hu : x.R pl u) (hv : y.R pl v) :
    ∃ r, av.R pl r ∧ (∀ w, (binOp op t u v).run P w = .ok r w) ∧ (∀ X Y, eqGuard op t X Y u v = pure ()) := by
  unfold aBin at h
  split at h
  all_goals first
    | exact (gives_fail h).elim
    | (rcases hu with hu | hu <;> first | (cases hu; done) | skip
       rcases hv with hv | hv <;> first | (cases hv; done) | skip
       simp only [SV.val, Option.some.injEq] at hu hv
       subst hu hv
       first
       | (split at h
          · rename_i hk; subst hk
            obtain ⟨r, h1, h2⟩ := aInt_sound (P := P) pl h t
            exact ⟨r, h1, h2, fun X Y => by simp [eqGuard_at_int]⟩
          · exact (gives_fail h).elim)
       | (obtain ⟨r, h1, h2⟩ := strB_sound (P := P) pl h t
          exact ⟨r, h1, h2, fun X Y => by simp [eqGuard_at_string]⟩))

theorem aUn_sound (pl : List Pl) {op : UnOp} {x : SV} {av : AV} (h : (aUn op x).gives av) {u : Value} (hu : x.R pl u) :
    ∃ r, av.R pl r ∧ ∀ w, (Op.unary op u).run P w = .ok r w := by
  unfold aUn at h
  split at h
  all_goals first
    | exact (gives_fail h).elim
    | (rcases hu with hu | hu <;> first | (cases hu; done) | skip
       simp only [SV.val, Option.some.injEq] at hu
       subst hu
       rw [gives_ok h]
       first
       | exact ⟨_, mkI_R .., fun w => by simp [Op.unary, Op.intArith]⟩
       | exact ⟨_, mkB_R .., fun w => by simp [Op.unary]⟩)

theorem fold_over (off : Nat) : ∀ (us : List Value) (k : Nat) (cs : Array Value), off + k + us.length ≤ cs.size →
    ((us.zipIdx k).foldl (fun (cs : Array Value) (x : Value × Nat) => cs.setIfInBounds (off + x.2) x.1) cs) = (cs.toList.take (off + k) ++ us ++ cs.toList.drop (off + k + us.length)).toArray
  | [], k, cs, _ => by simp
  | u :: us, k, cs, h => by
    have ih := fold_over off us (k + 1) (cs.setIfInBounds (off + k) u) (by simp at h ⊢; omega)
    simp only [List.zipIdx_cons, List.foldl_cons]
    rw [ih]
    have e := list_seg_step cs.toList (off + k) u us (by simp at h ⊢; omega)
    congr 1
    simpa [Array.toList_setIfInBounds, Nat.add_assoc] using e
theorem fold_overA (off : Nat) (vs : Array Value) (cs : Array Value) (h : off + vs.size ≤ cs.size) :
    (vs.zipIdx.foldl (fun (cs : Array Value) (x : Value × Nat) => cs.setIfInBounds (off + x.2) x.1) cs) = (cs.toList.take off ++ vs.toList ++ cs.toList.drop (off + vs.size)).toArray := by
  rw [← Array.foldl_toList, Array.toList_zipIdx]
  have := fold_over off vs.toList 0 cs (by simpa using h)
  simpa using this
end
end Go.AM
namespace Go.AM
open Go
section
variable {P : Program} {pl : List Pl}

theorem scal_sound {d : TypeDesc} {t : Nat} (hu : P.underlying t = some d) {a b : SV} (ha : tyFit d a = true) (hb : tyFit d b = true) {c r : Bool} (h : scalEq a b = some (c, r)) {v u : Value} (hv : a.R pl v) (hu' : b.R pl u) (n : Nat) (w : World) :
    (Op.equalIn (n + 1) t v u).run P w = .ok r w ∧ ∀ em, (Instr.checkKey em (n + 1) t v).run P w = .ok () w := by
  unfold scalEq at h
  split at h <;> first | (cases h; done) | skip
  all_goals
    rcases hv with hv | hv <;> first | (cases hv; done) | skip
    rcases hu' with hu' | hu' <;> first | (cases hu'; done) | skip
    simp only [SV.val, Option.some.injEq] at hv hu'
    subst hv hu'
    unfold tyFit at ha hb
    split at ha <;> first | (cases ha; done) | (rename_i heq; cases heq; done) | skip
    all_goals (try (split at h <;> first | (cases h; done) | skip))
    all_goals (injection h with h; injection h with h1 h2; subst h2)
    all_goals (refine ⟨?_, fun em => by simp [Instr.checkKey, run_underlying hu]⟩)
    all_goals first
      | (rename_i hk; subst hk; rw [run_equalIn_int w n t _ _ _ _ hu]; rfl)
      | (rw [run_equalIn_bool' w n t _ _ hu])
      | (rw [run_equalIn_string w n t _ _ hu, Lib.toList_data, Lib.toList_data, beqL])

theorem aEqL_fields {f : Nat → PV → PV → Option (Bool × Bool)} {d : Nat} (hf : ∀ t p q c b v u w, f t p q = some (c, b) → p.R pl v → q.R pl u → (Op.equalIn d t v u).run P w = .ok b w ∧ ∀ em, (Instr.checkKey em d t v).run P w = .ok () w)
    {xs ys : List SV} {vs us : List Value} (hv : RL pl xs vs) (hu : RL pl ys us) : ∀ {fs : List Field} {c b : Bool}, aEqL P f xs ys (fieldPl fs) = some (c, b) → ∀ w, (Op.eqFields d vs.toArray us.toArray fs).run P w = .ok b w
  | [], c, b, h, w => by
    simp only [fieldPl, aEqL, Option.some.injEq, Prod.mk.injEq] at h
    rw [← h.2]
    simp [Op.eqFields]
  | fd :: fs, c, b, h, w => by
    unfold fieldPl at h
    unfold Op.eqFields
    by_cases hn : fd.name ≠ "_"
    · rw [if_pos hn] at h ⊢
      simp only [aEqL] at h
      split at h
      · rename_i p q hp hq
        split at h
        · rename_i c1 b1 c2 b2 h1 h2
          injection h with h
          injection h with h3 h4
          obtain ⟨v, g1, g2⟩ := part_run hv hp
          obtain ⟨u, k1, k2⟩ := part_run hu hq
          have := hf _ _ _ _ _ _ _ w h1 g1 k1
          simp only [Sem.run_bind, g2, k2, Result.andThen_ok, this.1]
          have ih := aEqL_fields hf hv hu (fs := fs) h2 w
          subst h4
          cases b1 with
          | false => simp
          | true => simpa using ih
        · cases h
      · cases h
    · rw [if_neg hn] at h ⊢
      exact aEqL_fields hf hv hu h w
theorem aEqL_items {f : Nat → PV → PV → Option (Bool × Bool)} {d e sz : Nat} (hs : size? P e = some sz) (hf : ∀ t p q c b v u w, f t p q = some (c, b) → p.R pl v → q.R pl u → (Op.equalIn d t v u).run P w = .ok b w ∧ ∀ em, (Instr.checkKey em d t v).run P w = .ok () w)
    {xs ys : List SV} {vs us : List Value} (hv : RL pl xs vs) (hu : RL pl ys us) : ∀ {n i : Nat} {c b : Bool}, aEqL P f xs ys (arrPl e sz n i) = some (c, b) → ∀ w, (Op.eqItems d e (P.cellsOf e) vs.toArray us.toArray (List.range' i n)).run P w = .ok b w
  | 0, i, c, b, h, w => by
    simp only [arrPl, aEqL, Option.some.injEq, Prod.mk.injEq] at h
    rw [← h.2]
    simp [Op.eqItems]
  | n + 1, i, c, b, h, w => by
    have hsz : P.cellsOf e = sz := by
      unfold size? at hs
      cases hi : P.info? e with
      | none => simp [hi] at hs
      | some ie => simp [hi] at hs; simp [Program.cellsOf, hi, hs]
    simp only [arrPl, aEqL] at h
    rw [List.range'_succ]
    unfold Op.eqItems
    split at h
    · rename_i p q hp hq
      split at h
      · rename_i c1 b1 c2 b2 h1 h2
        injection h with h
        injection h with h3 h4
        obtain ⟨v, g1, g2⟩ := part_run hv hp
        obtain ⟨u, k1, k2⟩ := part_run hu hq
        have := hf _ _ _ _ _ _ _ w h1 g1 k1
        rw [hsz]
        simp only [Sem.run_bind, g2, k2, Result.andThen_ok, this.1]
        have ih := aEqL_items hs hf hv hu h2 w
        rw [hsz] at ih
        subst h4
        cases b1 with
        | false => simp
        | true => simpa using ih
      · cases h
    · cases h
theorem aEqL_keys {f : Nat → PV → PV → Option (Bool × Bool)} {d : Nat} (hf : ∀ t p q c b v u w, f t p q = some (c, b) → p.R pl v → q.R pl u → (Op.equalIn d t v u).run P w = .ok b w ∧ ∀ em, (Instr.checkKey em d t v).run P w = .ok () w)
    {xs ys : List SV} {vs us : List Value} (hv : RL pl xs vs) (hu : RL pl ys us) {w : World} {em : Bool} : ∀ {l : List (Nat × Nat)} {c b : Bool}, aEqL P f xs ys l = some (c, b) → ∀ x ∈ l, ∃ v, (part x.1 vs.toArray x.2).run P w = .ok v w ∧ (Instr.checkKey em d x.1 v).run P w = .ok () w
  | [], _, _, _, x, hx => by cases hx
  | (t, off) :: l, c, b, h, x, hx => by
    simp only [aEqL] at h
    split at h
    · rename_i p q hp hq
      split at h
      · rename_i c1 b1 c2 b2 h1 h2
        rcases List.mem_cons.1 hx with rfl | hx
        · obtain ⟨v, g1, g2⟩ := part_run hv hp
          obtain ⟨u, k1, k2⟩ := part_run hu hq
          exact ⟨v, g2 w, (hf _ _ _ _ _ _ _ w h1 g1 k1).2 em⟩
        · exact aEqL_keys hf hv hu h2 x hx
      · cases h
    · cases h
theorem fieldPl_mem : ∀ {fs : List Field} {f : Field}, f ∈ fs → f.name ≠ "_" → (f.type, f.offset) ∈ fieldPl fs
  | g :: fs, f, h, hn => by
    unfold fieldPl
    rcases List.mem_cons.1 h with rfl | h
    · rw [if_pos hn]; simp
    · have := fieldPl_mem h hn
      split
      · exact List.mem_cons_of_mem _ this
      · exact this
theorem arrPl_mem {e sz : Nat} : ∀ {n i k : Nat}, i ≤ k → k < i + n → (e, k * sz) ∈ arrPl e sz n i
  | 0, i, k, h1, h2 => by omega
  | n + 1, i, k, h1, h2 => by
    unfold arrPl
    by_cases he : k = i
    · subst he; simp
    · exact List.mem_cons_of_mem _ (arrPl_mem (by omega) (by omega))
theorem forIn_ok {α : Type} {w : World} {g : α → PUnit → Sem (ForInStep PUnit)} : ∀ {l : List α}, (∀ x ∈ l, (g x PUnit.unit).run P w = .ok (.yield PUnit.unit) w) → (forIn l PUnit.unit g).run P w = .ok PUnit.unit w
  | [], _ => by simp
  | x :: l, h => by
    simp only [List.forIn_cons, Sem.run_bind, h x (by simp), Result.andThen_ok]
    exact forIn_ok (fun y hy => h y (by simp [hy]))

theorem aEq_sound : ∀ (m : Nat) (t : Nat) (p q : PV) (c b : Bool) (v u : Value) (d : Nat) (w : World), aEq P m t p q = some (c, b) → p.R pl v → q.R pl u → m ≤ d → (Op.equalIn d t v u).run P w = .ok b w ∧ ∀ em, (Instr.checkKey em d t v).run P w = .ok () w
  | 0, _, _, _, _, _, _, _, _, _, h, _, _, _ => by simp [aEq] at h
  | m + 1, t, p, q, c, b, v, u, 0, w, h, hv, hu, hd => by omega
  | m + 1, t, p, q, c, b, v, u, d + 1, w, h, hv, hu, hd => by
    have ih : ∀ t p q c b v u w, aEq P m t p q = some (c, b) → p.R pl v → q.R pl u → (Op.equalIn d t v u).run P w = .ok b w ∧ ∀ em, (Instr.checkKey em d t v).run P w = .ok () w :=
      fun t p q c b v u w h hv hu => aEq_sound m t p q c b v u d w h hv hu (by omega)
    unfold aEq at h
    split at h
    · rename_i fs xs ys hun
      split at h
      · cases h
      · rename_i hst
        obtain ⟨vs, rfl, hv⟩ := hv
        obtain ⟨us, rfl, hu⟩ := hu
        have hfo : P.fieldsOf t = fs := by simp [Program.fieldsOf, hun]
        refine ⟨?_, fun em => ?_⟩
        · rw [run_equalIn_struct w d t _ _ (by rw [hfo]; exact hun) (by simpa using hst), hfo]
          exact aEqL_fields ih hv hu h w
        · simp only [Instr.checkKey, Sem.run_bind, run_underlying hun, Result.andThen_ok]
          rw [← Array.forIn_toList]
          rw [forIn_ok (l := fs.toList) (fun f hf => ?_)]
          · rfl
          by_cases hn : f.name ≠ "_"
          · obtain ⟨x, h1, h2⟩ := aEqL_keys ih hv hu (w := w) (em := em) h _ (fieldPl_mem hf hn)
            simp only [if_pos hn, Sem.run_bind, h1, Result.andThen_ok, h2, Sem.run_pure]
          · simp only [if_neg hn, Sem.run_pure]
    · rename_i n e xs ys hun
      split at h
      · rename_i sz hsz
        obtain ⟨vs, rfl, hv⟩ := hv
        obtain ⟨us, rfl, hu⟩ := hu
        have hi : ∃ i, P.info? e = some i := by
          unfold size? at hsz
          cases hi : P.info? e with
          | none => simp [hi] at hsz
          | some i => exact ⟨i, rfl⟩
        obtain ⟨i, hi⟩ := hi
        refine ⟨?_, fun em => ?_⟩
        · rw [run_equalIn_array w d _ _ hun hi, List.range_eq_range']
          exact aEqL_items hsz ih hv hu h w
        · simp only [Instr.checkKey, Sem.run_bind, run_underlying hun, Result.andThen_ok]
          simp only [Std.Legacy.Range.forIn_eq_forIn_range', Std.Legacy.Range.size, Nat.sub_zero, Nat.add_one_sub_one, Nat.div_one]
          rw [forIn_ok (l := List.range' 0 n) (fun k hk => ?_)]
          · rfl
          have hk' : k < n := by simpa using hk
          obtain ⟨x, h1, h2⟩ := aEqL_keys ih hv hu (w := w) (em := em) h (e, k * sz) (arrPl_mem (by omega) (by omega))
          simp only [Sem.run_bind, run_size hsz, h1, Result.andThen_ok, h2, Sem.run_pure]
      · cases h
    · rename_i dd a b' hun
      split at h
      · rename_i hfit
        simp only [Bool.and_eq_true] at hfit
        exact scal_sound hun hfit.1 hfit.2 h hv hu d w
      · cases h
    · cases h
theorem cmpV_sound {op : BinOp} {t : Nat} {p q : PV} {av : AV} (h : (cmpV P op t p q).gives av) {v u : Value} (hv : p.R pl v) (hu : q.R pl u) (hk : (∃ a b, v = .bool a ∧ u = .bool b) ∨ (∃ a b, v = .agg a ∧ u = .agg b)) :
    ∃ r, av.R pl r ∧ ∀ w, (binOp op t v u).run P w = .ok r w := by
  unfold cmpV at h
  split at h
  · rename_i c b he
    have hs := fun w => (aEq_sound 20 t p q c b v u Op.maxDepth w he hv hu (by decide)).1
    unfold eqB at h
    split at h
    · rw [gives_ok h]
      refine ⟨_, mkB_R .., fun w => ?_⟩
      rcases hk with ⟨x, y, rfl, rfl⟩ | ⟨x, y, rfl, rfl⟩ <;> simp [binOp, Op.equal, hs w]
    · rw [gives_ok h]
      refine ⟨_, mkB_R .., fun w => ?_⟩
      rcases hk with ⟨x, y, rfl, rfl⟩ | ⟨x, y, rfl, rfl⟩ <;> simp [binOp, Op.equal, hs w]
    · exact (gives_fail h).elim
  · exact (gives_fail h).elim
theorem sameNow_sound {d : TypeDesc} {a b : SV} (ha : tyFit d a = true) (hb : tyFit d b = true) {c r : Bool} (h : scalEq a b = some (c, r)) {v u : Value} (hv : a.R pl v) (hu' : b.R pl u) : Instr.sameNow d v u = some r := by
  unfold scalEq at h
  split at h <;> first | (cases h; done) | skip
  all_goals
    rcases hv with hv | hv <;> first | (cases hv; done) | skip
    rcases hu' with hu' | hu' <;> first | (cases hu'; done) | skip
    simp only [SV.val, Option.some.injEq] at hv hu'
    subst hv hu'
    unfold tyFit at ha hb
    split at ha <;> first | (cases ha; done) | (rename_i heq; cases heq; done) | skip
    all_goals (try (split at h <;> first | (cases h; done) | skip))
    all_goals (injection h with h; injection h with h1 h2; subst h2)
    all_goals first
      | (rename_i hk; subst hk; simp [Instr.sameNow]; rfl)
      | (simp [Instr.sameNow]; done)
      | (simp [Instr.sameNow, beq_toListBytes, Lib.toList_data, beqL])
def found (pl : List Pl) : Option PV → Option (Nat × Value) → Prop
  | none, none => True
  | some v, some (_, x) => v.R pl x
  | _, _ => False
theorem findAsking_sound {kt : Nat} {k : PV} {kv : Value} (hk : k.R pl kv) {w : World} : ∀ {es : List (PV × PV)} {ms : List MapEntry} {i : Nat} {r : Option PV}, aGet P kt k es = some r → EntR pl es ms → ∃ r', (Instr.findAsking kt kv ms i).run P w = .ok r' w ∧ found pl r r'
  | [], [], i, r, h, _ => by simp [aGet] at h; subst h; exact ⟨none, by simp [Instr.findAsking], trivial⟩
  | [], _ :: _, _, _, _, h => h.elim
  | _ :: _, [], _, _, _, h => h.elim
  | (k', v) :: l, e :: ms, i, r, h, hm => by
    simp only [aGet] at h
    split at h
    · rename_i b he
      have hq := (aEq_sound 20 kt k k' true b kv e.key Op.maxDepth w he hk hm.1 (by decide)).1
      cases b with
      | true =>
        simp at h
        subst h
        exact ⟨some (i, e.val), by simp [Instr.findAsking, Op.equal, hq], hm.2.1⟩
      | false =>
        obtain ⟨r', g1, g2⟩ := findAsking_sound hk (w := w) (i := i + 1) (by simpa using h) hm.2.2
        exact ⟨r', by simp [Instr.findAsking, Op.equal, hq, g1], g2⟩
    · cases h
theorem aEq_one {m kt : Nat} {a : SV} {k' : PV} {c b : Bool} {d : TypeDesc} (h : aEq P (m + 1) kt (.one a) k' = some (c, b)) (hd : P.underlying kt = some d) :
    ∃ b', k' = .one b' ∧ tyFit d a = true ∧ tyFit d b' = true ∧ scalEq a b' = some (c, b) := by
  unfold aEq at h
  cases k' with
  | agg l => cases d <;> simp [hd] at h
  | one b' =>
    refine ⟨b', rfl, ?_⟩
    have : (if (tyFit d a && tyFit d b') = true then scalEq a b' else none) = some (c, b) := by
      cases d <;> simpa [hd] using h
    split at this
    · rename_i hf; simp only [Bool.and_eq_true] at hf; exact ⟨hf.1, hf.2, this⟩
    · cases this
theorem findNow_sound {kt : Nat} {a : SV} {kv : Value} (hk : a.R pl kv) {d : TypeDesc} (hd : P.underlying kt = some d) (hfit : tyFit d a = true) : ∀ {es : List (PV × PV)} {ms : List MapEntry} {i : Nat} {r : Option PV}, aGet P kt (.one a) es = some r → EntR pl es ms →
    ∃ r', Instr.findNow d kv ms i = some r' ∧ found pl r r'
  | [], [], i, r, h, _ => by simp [aGet] at h; subst h; exact ⟨none, by simp [Instr.findNow], trivial⟩
  | [], _ :: _, _, _, _, h => h.elim
  | _ :: _, [], _, _, _, h => h.elim
  | (k', v) :: l, e :: ms, i, r, h, hm => by
    simp only [aGet] at h
    split at h
    · rename_i b he
      obtain ⟨b1, rfl, hf1, hf2, he⟩ := aEq_one he hd
      have hs := sameNow_sound hf1 hf2 he hk hm.1
      cases b with
      | true =>
        simp at h
        subst h
        exact ⟨some (i, e.val), by simp [Instr.findNow, hs], hm.2.1⟩
      | false =>
        obtain ⟨r', g1, g2⟩ := findNow_sound hk hd hfit (i := i + 1) (by simpa using h) hm.2.2
        exact ⟨r', by simp [Instr.findNow, hs, g1], g2⟩
    · cases h
theorem findKey_sound {kt : Nat} {k : PV} {kv : Value} (hk : k.R pl kv) (hok : keyOk P kt k = true) {es : List (PV × PV)} {ms : List MapEntry} {r : Option PV} (h : aGet P kt k es = some r) (hm : EntR pl es ms) (w : World) :
    ∃ r', (Instr.findKey kt kv ms).run P w = .ok r' w ∧ found pl r r' := by
  unfold keyOk at hok
  cases he : aEq P 20 kt k k with
  | none => simp [he] at hok
  | some cb =>
    obtain ⟨c, b⟩ := cb
    cases k with
    | one a =>
      cases hd : P.underlying kt with
      | none => unfold aEq at he; simp [hd] at he
      | some d =>
        obtain ⟨_, _, hfit, _, _⟩ := aEq_one he hd
        obtain ⟨r', g1, g2⟩ := findNow_sound hk hd hfit (i := 0) h hm
        exact ⟨r', by simp [Instr.findKey, run_underlying hd, g1], g2⟩
    | agg l =>
      obtain ⟨vs, rfl, hv⟩ := id hk
      cases hd : P.underlying kt with
      | none => unfold aEq at he; simp [hd] at he
      | some d =>
        obtain ⟨r', g1, g2⟩ := findAsking_sound hk (w := w) (i := 0) h hm
        cases ms with
        | nil =>
          refine ⟨none, by simp [Instr.findKey, run_underlying hd, Instr.findNow], ?_⟩
          simp [Instr.findAsking] at g1
          rw [← g1] at g2
          exact g2
        | cons e ms =>
          have : Instr.findNow d (.agg vs.toArray) (e :: ms) 0 = none := by
            unfold Instr.findNow
            have : Instr.sameNow d (.agg vs.toArray) e.key = none := by cases d <;> rfl
            rw [this]
          exact ⟨r', by simp [Instr.findKey, run_underlying hd, this, g1], g2⟩
theorem findO_sound {kt : Nat} {C : Codec} {x : C.τ} {kv : Value} (hK : KeyLaw P kt C) (hk : (PV.agg (C.enc x)).R pl kv) {w : World} : ∀ {es : List (C.τ × Int)} {ms : List MapEntry} {i : Nat}, EntR pl (omE C es) ms →
    (Instr.findAsking kt kv ms i).run P w = .ok ((mix C.deq x es i).map fun z => (z.1, Value.int .i64 z.2)) w
  | [], [], i, _ => by simp [Instr.findAsking, mix]
  | [], _ :: _, _, h => h.elim
  | _ :: _, [], _, h => h.elim
  | (y, n) :: l, e :: ms, i, hm => by
    obtain ⟨h1, h2, h3⟩ := hm
    obtain ⟨c, b, hab, hiff⟩ := hK.1 x y
    have hq := (aEq_sound 20 kt _ _ c b kv e.key Op.maxDepth w hab hk h1 (by decide)).1
    have hv : e.val = .int .i64 n := by
      rcases h2 with h2 | h2
      · cases h2
      · simpa [SV.val] using h2.symm
    simp only [mix]
    split
    · rename_i hxy _
      have hb : b = true := hiff.2 hxy
      subst hb
      simp [Instr.findAsking, Op.equal, hq, hv]
    · rename_i hxy _
      have hb : b = false := by
        cases b with
        | true => exact absurd (hiff.1 rfl) hxy
        | false => rfl
      subst hb
      have ih := findO_sound hK hk (w := w) (i := i + 1) h3
      simp [Instr.findAsking, Op.equal, hq, ih]
theorem findKeyO_sound {kt : Nat} {C : Codec} {x : C.τ} {kv : Value} (hK : KeyLaw P kt C) (hk : (PV.agg (C.enc x)).R pl kv) {es : List (C.τ × Int)} {ms : List MapEntry} (hm : EntR pl (omE C es) ms) (w : World) :
    (Instr.findKey kt kv ms).run P w = .ok ((mix C.deq x es 0).map fun z => (z.1, Value.int .i64 z.2)) w := by
  have g1 := findO_sound hK hk (w := w) (i := 0) hm
  obtain ⟨vs, rfl, hv⟩ := id hk
  obtain ⟨c, b, hab, _⟩ := hK.1 x x
  cases hd : P.underlying kt with
  | none => unfold aEq at hab; simp [hd] at hab
  | some d =>
    cases ms with
    | nil =>
      simp [Instr.findAsking] at g1
      simp [Instr.findKey, run_underlying hd, Instr.findNow, ← g1]
    | cons e ms =>
      have : Instr.findNow d (.agg vs.toArray) (e :: ms) 0 = none := by
        unfold Instr.findNow
        have : Instr.sameNow d (.agg vs.toArray) e.key = none := by cases d <;> rfl
        rw [this]
      simp [Instr.findKey, run_underlying hd, this, g1]
theorem keyLaw_check {kt : Nat} {C : Codec} {x : C.τ} {kv : Value} (hK : KeyLaw P kt C) (hk : (PV.agg (C.enc x)).R pl kv) (w : World) (em : Bool) : (Instr.checkKey em 10000 kt kv).run P w = .ok () w := by
  obtain ⟨c, b, hab, _⟩ := hK.1 x x
  exact (aEq_sound 20 kt _ _ c b kv kv 10000 w hab hk hk (by decide)).2 em
theorem lookV_sound {t : Nat} {m k : AV} {ok : Bool} {h : Heap} {av : AV} (hq : (lookV P t m k ok h).gives av) {mv kv : Value} (hm : m.R pl mv) (hk : k.R pl kv) :
    (∀ v u, av.R pl v → av.R pl u → v = u) ∧ ∀ w, HB pl h w → ∃ v, av.R pl v ∧ (Instr.lookup t mv kv ok).run P w = .ok v w := by
  have uniq1 : ∀ (p : PV), p.known = true → ∀ v u, (AV.v p).R pl v → (AV.v p).R pl u → v = u := fun p hp v u hv hu => PV.known_eq hp hv hu
  have uniq2 : ∀ (p : PV) (b : Bool), p.known = true → ∀ v u, (AV.tup [p, .one (.cb b)]).R pl v → (AV.tup [p, .one (.cb b)]).R pl u → v = u := by
    intro p b hp v u hv hu
    obtain ⟨vs, rfl, h1⟩ := hv
    obtain ⟨us, rfl, h2⟩ := hu
    match vs, us, h1, h2 with
    | [a1, a2], [b1, b2], h1, h2 =>
      have e1 := PV.known_eq hp h1.1 h2.1
      have e2 := PV.known_eq (p := .one (.cb b)) rfl h1.2.1 h2.2.1
      rw [e1, e2]
    | [], _, h1, _ => exact h1.elim
    | [_], _, h1, _ => exact h1.2.elim
    | _ :: _ :: _ :: _, _, h1, _ => exact h1.2.2.elim
    | _, [], _, h2 => exact h2.elim
    | _, [_], _, h2 => exact h2.2.elim
    | _, _ :: _ :: _ :: _, _, h2 => exact h2.2.2.elim
  refine ⟨?_, ?_⟩
  · unfold lookV at hq
    repeat' (split at hq)
    all_goals first
      | exact (gives_fail hq).elim
      | (rw [gives_ok hq]; first | exact uniq1 _ (by assumption) | exact uniq2 _ _ (by assumption))
      | (rcases hq with hq | ⟨q, hq, hK⟩
         · cases hq
         · injection hq with e1 e2
           subst e2
           first
           | exact uniq1 _ rfl
           | (intro v u hv hu
              obtain ⟨vs, rfl, h1⟩ := hv
              obtain ⟨us, rfl, h2⟩ := hu
              match vs, us, h1, h2 with
              | [a1, a2], [b1, b2], h1, h2 =>
                have e1 := PV.known_eq (p := .one (.sym .i64 _)) rfl h1.1 h2.1
                have e2 := PV.known_eq (p := .one (.sb _)) rfl h1.2.1 h2.2.1
                rw [e1, e2]
              | [], _, h1, _ => exact h1.elim
              | [_], _, h1, _ => exact h1.2.elim
              | _ :: _ :: _ :: _, _, h1, _ => exact h1.2.2.elim
              | _, [], _, h2 => exact h2.elim
              | _, [_], _, h2 => exact h2.2.elim
              | _, _ :: _ :: _ :: _, _, h2 => exact h2.2.2.elim))
  intro w hB
  unfold lookV at hq
  split at hq
  · rename_i kt e b k hu
    have hmv : ∃ p, pl[b]? = some p ∧ mv = .map (some p.blk) := by
      rcases hm with hm | hm
      · cases hm
      · simp only [SV.val] at hm
        cases hp : pl[b]? with
        | none => simp [hp] at hm
        | some p => simp [hp] at hm; exact ⟨p, rfl, hm.symm⟩
    obtain ⟨p, hp, rfl⟩ := hmv
    split at hq
    · rename_i es hg
      rw [get?_eq] at hg
      obtain ⟨ms, clock, h1, h2⟩ := hB b _ p hg hp
      have hgo : (getObj p.blk).run P w = .ok (.map ms clock) w := by simp [getObj, Sem.run, h2]
      split at hq
      · rename_i hok
        have hck : ∀ em, (Instr.checkKey em 10000 kt kv).run P w = .ok () w := by
          unfold keyOk at hok
          cases he : aEq P 20 kt k k with
          | none => simp [he] at hok
          | some cb => exact (aEq_sound 20 kt k k cb.1 cb.2 kv kv 10000 w he hk hk (by decide)).2
        split at hq
        · rename_i v hf
          split at hq <;> first | (exact (gives_fail hq).elim) | skip
          rw [gives_ok hq]
          obtain ⟨r', g1, g2⟩ := findKey_sound hk hok hf h1 w
          cases r' with
          | none => exact g2.elim
          | some ix =>
            obtain ⟨i, x⟩ := ix
            cases ok with
            | true => exact ⟨.tuple #[x, .bool true], ⟨[x, .bool true], rfl, g2, .inr rfl, trivial⟩, by simp [Instr.lookup, run_underlying hu, hgo, hck, g1]⟩
            | false => exact ⟨x, g2, by simp [Instr.lookup, run_underlying hu, hgo, hck, g1]⟩
        · rename_i hf
          obtain ⟨r', g1, g2⟩ := findKey_sound hk hok hf h1 w
          cases r' with
          | some ix => exact g2.elim
          | none =>
            split at hq
            · rename_i z hz
              split at hq <;> first | (exact (gives_fail hq).elim) | skip
              rw [gives_ok hq]
              have hz' : ∃ i v, P.info? e = some i ∧ i.zero = some v ∧ z = ofValue v := by
                unfold zeroOf at hz
                cases hi : P.info? e with
                | none => simp [hi] at hz
                | some i =>
                  cases hzz : i.zero with
                  | none => simp [hi, hzz] at hz
                  | some v => simp [hi, hzz] at hz; exact ⟨i, v, rfl, hzz, hz.symm⟩
              obtain ⟨i, zv, hi, hzv, rfl⟩ := hz'
              have hzr : (zeroValue e).run P w = .ok zv w := by simp [zeroValue, typeInfo, hi, hzv]
              cases ok with
              | true => exact ⟨.tuple #[zv, .bool false], ⟨[zv, .bool false], rfl, ofValue_R pl zv, .inr rfl, trivial⟩, by simp [Instr.lookup, run_underlying hu, hgo, hck, g1, hzr]⟩
              | false => exact ⟨zv, ofValue_R pl zv, by simp [Instr.lookup, run_underlying hu, hgo, hck, g1, hzr]⟩
            · exact (gives_fail hq).elim
        · exact (gives_fail hq).elim
      · exact (gives_fail hq).elim
    · rename_i C es hg
      rw [get?_eq] at hg
      obtain ⟨ms, clock, h1, h2⟩ := hB b _ p hg hp
      have hgo : (getObj p.blk).run P w = .ok (.map ms clock) w := by simp [getObj, Sem.run, h2]
      split at hq
      · rename_i l
        split at hq
        · rename_i x hx
          split at hq
          · rename_i hz
            rcases hq with hq | ⟨q, hq, hK⟩
            · cases hq
            injection hq with e1 e2
            rw [← e1] at hK
            subst e2
            have hk' : (PV.agg (C.enc x)).R pl kv := by
              obtain ⟨vs, rfl, hv⟩ := hk
              exact ⟨vs, rfl, C.dec_ok _ _ _ _ hx hv⟩
            have hck := keyLaw_check (P := P) hK hk' w
            have hfk := findKeyO_sound (P := P) hK hk' h1 w
            have hzr : (zeroValue e).run P w = .ok (.int .i64 0) w := by
              unfold zeroI at hz
              split at hz
              · rename_i hz0
                have hz' : ∃ i v, P.info? e = some i ∧ i.zero = some v ∧ PV.one (.con .i64 (.ofNat 0)) = ofValue v := by
                  unfold zeroOf at hz0
                  cases hi : P.info? e with
                  | none => simp [hi] at hz0
                  | some i =>
                    cases hzz : i.zero with
                    | none => simp [hi, hzz] at hz0
                    | some v => simp [hi, hzz] at hz0; exact ⟨i, v, rfl, hzz, hz0.symm⟩
                obtain ⟨i, v, hi, hzv, hv⟩ := hz'
                have : v = .int .i64 0 := by
                  unfold ofValue at hv
                  split at hv
                  · cases hv
                  · unfold ofVal at hv
                    split at hv <;> first | (simp at hv; done) | skip
                    simp at hv
                    obtain ⟨rfl, rfl⟩ := hv
                    rfl
                simp [zeroValue, typeInfo, hi, hzv, this]
              · cases hz
            have hval : mval C es x = (match mix C.deq x es 0 with | some (_, n) => n | none => 0) := by
              unfold mval mget
              cases mix C.deq x es 0 <;> rfl
            have hhas : mhas C es x = (mix C.deq x es 0).isSome := by
              unfold mhas mget
              cases mix C.deq x es 0 <;> rfl
            rw [hval, hhas]
            cases hmx : mix C.deq x es 0 with
            | none =>
              simp only [hmx, Option.map_none] at hfk
              cases ok with
              | true => exact ⟨.tuple #[.int .i64 0, .bool false], ⟨[.int .i64 0, .bool false], rfl, .inr rfl, .inr rfl, trivial⟩, by simp [Instr.lookup, run_underlying hu, hgo, hck, hfk, hzr]⟩
              | false => exact ⟨.int .i64 0, .inr rfl, by simp [Instr.lookup, run_underlying hu, hgo, hck, hfk, hzr]⟩
            | some z =>
              obtain ⟨j, n⟩ := z
              simp only [hmx, Option.map_some] at hfk
              cases ok with
              | true => exact ⟨.tuple #[.int .i64 n, .bool true], ⟨[.int .i64 n, .bool true], rfl, .inr rfl, .inr rfl, trivial⟩, by simp [Instr.lookup, run_underlying hu, hgo, hck, hfk]⟩
              | false => exact ⟨.int .i64 n, .inr rfl, by simp [Instr.lookup, run_underlying hu, hgo, hck, hfk]⟩
          · exact (gives_fail hq).elim
        · exact (gives_fail hq).elim
      · exact (gives_fail hq).elim
    · exact (gives_fail hq).elim
  · exact (gives_fail hq).elim
theorem litS_eq {a b : SV} (h : litS a b = true) {v u : Value} (hv : a.R pl v) (hu : b.R pl u) (n : Nat) : v = u ∧ Instr.sameBits n v u = true := by
  unfold litS at h
  split at h <;> first | (cases h; done) | skip
  all_goals
    rcases hv with hv | hv <;> first | (cases hv; done) | skip
    rcases hu with hu | hu <;> first | (cases hu; done) | skip
    simp only [SV.val, Option.some.injEq] at hv hu
    subst hv hu
  · simp only [Bool.and_eq_true, decide_eq_true_eq] at h
    obtain ⟨rfl, rfl⟩ := h
    exact ⟨rfl, by cases n <;> simp [Instr.sameBits]⟩
  · have : ∀ a b : Bool, (a == b) = true → a = b := by decide
    have := this _ _ h
    subst this
    exact ⟨rfl, by cases n <;> simp [Instr.sameBits]⟩
  · simp only [decide_eq_true_eq] at h
    subst h
    exact ⟨rfl, by cases n <;> simp [Instr.sameBits, beq_toListBytes]⟩
theorem litL_eq {n : Nat} : ∀ {a b : List SV} {vs us : List Value}, litL a b = true → RL pl a vs → RL pl b us → vs.length = us.length ∧ (vs.zip us).all (fun (x, y) => Instr.sameBits n x y) = true
  | [], [], [], [], _, _, _ => ⟨rfl, rfl⟩
  | [], _, _ :: _, _, _, h, _ => h.elim
  | _, [], _, _ :: _, _, _, h => h.elim
  | _ :: _, _, [], _, _, h, _ => h.elim
  | _, _ :: _, _, [], _, _, h => h.elim
  | [], _ :: _, _, _, h, _, _ => by simp [litL] at h
  | _ :: _, [], _, _, h, _, _ => by simp [litL] at h
  | s :: a, t :: b, v :: vs, u :: us, h, hv, hu => by
    simp only [litL, Bool.and_eq_true] at h
    have ih := litL_eq (n := n) h.2 hv.2 hu.2
    have h1 := (litS_eq h.1 hv.1 hu.1 n).2
    refine ⟨by simp [ih.1], ?_⟩
    simp only [List.zip_cons_cons, List.all_cons, Bool.and_eq_true]
    exact ⟨h1, ih.2⟩
theorem litEq_bits {p q : PV} (h : litEq p q = true) {v u : Value} (hv : p.R pl v) (hu : q.R pl u) (n : Nat) : Instr.sameBits (n + 1) v u = true := by
  unfold litEq at h
  split at h
  · exact (litS_eq h hv hu _).2
  · obtain ⟨vs, rfl, h1⟩ := hv
    obtain ⟨us, rfl, h2⟩ := hu
    have := litL_eq (n := n) h h1 h2
    unfold Instr.sameBits
    simp only [List.size_toArray, Bool.and_eq_true, beq_iff_eq]
    exact ⟨this.1, this.2⟩
  · cases h
theorem aPut_sound {kt : Nat} {k v : PV} {kv vv : Value} (hk : k.R pl kv) (hv : v.R pl vv) : ∀ {es es' : List (PV × PV)} {ms : List MapEntry} (i : Nat), aPut P kt k v es = some es' → EntR pl es ms →
    (∃ j e old, aGet P kt k es = some (some old) ∧ ms[j]? = some e ∧ Instr.sameBits 10000 e.key kv = true ∧ (∀ w, ∃ x, (Instr.findAsking kt kv ms i).run P w = .ok (some (i + j, x)) w) ∧ (∀ d a, k = .one a → P.underlying kt = some d → ∃ x, Instr.findNow d kv ms i = some (some (i + j, x))) ∧ EntR pl es' (ms.modify j fun e => { e with key := kv, val := vv })) ∨
    (aGet P kt k es = some none ∧ ∀ b, EntR pl es' (ms ++ [{ key := kv, val := vv, born := b }]))
  | [], es', [], i, h, _ => by simp [aPut] at h; subst h; exact .inr ⟨rfl, fun b => ⟨hk, hv, trivial⟩⟩
  | [], _, _ :: _, _, _, h => h.elim
  | _ :: _, _, [], _, _, h => h.elim
  | (k', v') :: l, es', e :: ms, i, h, hm => by
    simp only [aPut] at h
    split at h
    · rename_i b he
      have hq := fun w => (aEq_sound 20 kt k k' true b kv e.key Op.maxDepth w he hk hm.1 (by decide)).1
      cases b with
      | true =>
        simp only [if_true] at h
        split at h
        · rename_i hl
          simp at h
          subst h
          refine .inl ⟨0, e, v', by simp [aGet, he], rfl, litEq_bits hl hm.1 hk 9999, fun w => ⟨e.val, by simp [Instr.findAsking, Op.equal, hq w]⟩, fun d a ha hd => ?_, ?_⟩
          · subst ha
            obtain ⟨b1, rfl, hf1, hf2, hse⟩ := aEq_one he hd
            exact ⟨e.val, by simp [Instr.findNow, sameNow_sound hf1 hf2 hse hk hm.1]⟩
          simpa [List.modify] using ⟨hk, hv, hm.2.2⟩
        · cases h
      | false =>
        simp only [Bool.false_eq_true, if_false] at h
        split at h
        · rename_i r hr
          simp at h
          subst h
          rcases aPut_sound hk hv (i + 1) hr hm.2.2 with ⟨j, e2, old, g1, g2, g3, g4, g6, g5⟩ | ⟨g1, g2⟩
          · refine .inl ⟨j + 1, e2, old, by simp [aGet, he, g1], by simpa using g2, g3, fun w => ?_, fun d a ha hd => ?_, ?_⟩
            · obtain ⟨x, hx⟩ := g4 w
              refine ⟨x, ?_⟩
              have e3 : i + (j + 1) = i + 1 + j := by omega
              simp [Instr.findAsking, Op.equal, hq w, hx, e3]
            · obtain ⟨x, hx⟩ := g6 d a ha hd
              refine ⟨x, ?_⟩
              have e3 : i + (j + 1) = i + 1 + j := by omega
              subst ha
              obtain ⟨b1, rfl, hf1, hf2, hse⟩ := aEq_one he hd
              simp [Instr.findNow, sameNow_sound hf1 hf2 hse hk hm.1, hx, e3]
            · simpa [List.modify] using ⟨hm.1, hm.2.1, g5⟩
          · exact .inr ⟨by simp [aGet, he, g1], fun b => ⟨hm.1, hm.2.1, g2 b⟩⟩
        · cases h
    · cases h
theorem isB_R {s : SV} (hs : s.isB = true) {v : Value} (h : s.R pl v) : ∃ b, v = .bool b := by
  unfold SV.isB at hs
  split at hs <;> first | (cases hs; done) | skip
  all_goals
    rcases h with h | h <;> first | (cases h; done) | skip
    simp only [SV.val, Option.some.injEq] at h
    exact ⟨_, h.symm⟩
end
end Go.AM
namespace Go.AM
open Go
section
variable {P : Program} {pl : List Pl}

def PartsR (pl : List Pl) : List (Nat × PV) → List (Nat × Value) → Prop
  | [], [] => True
  | (i, p) :: l, (j, v) :: r => i = j ∧ p.R pl v ∧ PartsR pl l r
  | _, _ => False

theorem fill_sound {place place' : Nat → Option (Nat × Nat)} (hpl : ∀ i, place' i = place i) : ∀ {ps : List (Nat × PV)} {qs : List (Nat × Value)} {cells r : List SV} {vs : List Value},
    PartsR pl ps qs → RL pl cells vs → fillP place cells ps = some r → ∃ us, RL pl r us ∧ Instr.fill place' vs.toArray qs = some us.toArray
  | [], [], cells, r, vs, _, hv, h => by simp [fillP] at h; subst h; exact ⟨vs, hv, rfl⟩
  | [], _ :: _, _, _, _, hp, _, _ => hp.elim
  | (_, _) :: _, [], _, _, _, hp, _, _ => hp.elim
  | (i, p) :: ps, (j, v) :: qs, cells, r, vs, hp, hv, h => by
    obtain ⟨rfl, h1, h2⟩ := hp
    simp only [fillP] at h
    cases hq : place i with
    | none => simp [hq] at h
    | some os =>
      obtain ⟨off, size⟩ := os
      simp only [hq] at h
      split at h
      · rename_i hk
        simp only [Bool.and_eq_true, decide_eq_true_eq, len'_eq] at hk
        obtain ⟨hk, hsz⟩ := hk
        have ⟨hc, _⟩ := PV.cells_R hk h1
        cases ho : over cells off p.cells with
        | none => simp [ho] at h
        | some cs =>
          simp only [ho] at h
          have ⟨ho1, ho2⟩ := over_spec hv hc ho
          have hl := hc.length
          obtain ⟨us, g1, g2⟩ := fill_sound hpl h2 ho1 h
          refine ⟨us, g1, ?_⟩
          simp only [Instr.fill, hpl, hq]
          have hsz' : v.cells.size = size := by rw [← hsz, hl]; simp
          have hle : off + v.cells.size ≤ vs.toArray.size := by simpa using ho2
          rw [if_neg (by simp only [hsz', List.size_toArray, not_or, ne_eq, not_true, not_false_eq_true, true_and]; rw [hsz'] at hle; simpa using hle)]
          rw [fold_overA off v.cells vs.toArray hle]
          simpa using g2
      · cases h

theorem fieldPlaces_eq : ∀ {fs : List Field} {l : List (Nat × Nat)}, fieldPlaces P fs = some l → fs.mapM (fun f => (P.info? f.type).map fun i => (f.offset, i.size)) = some l
  | [], l, h => by simp [fieldPlaces] at h; subst h; rfl
  | f :: fs, l, h => by
    simp only [fieldPlaces] at h
    cases hs : size? P f.type with
    | none => simp [hs] at h
    | some n =>
      cases hr : fieldPlaces P fs with
      | none => simp [hs, hr] at h
      | some r =>
        simp [hs, hr] at h
        subst h
        have hi := info_size hs
        cases hi' : P.info? f.type with
        | none => simp [hi'] at hi
        | some i =>
          simp [hi'] at hi
          simp [List.mapM_cons, hi', fieldPlaces_eq hr, hi]

theorem zeroOf_spec {t : Nat} {z : PV} (h : zeroOf P t = some z) : ∃ i v, P.info? t = some i ∧ i.zero = some v ∧ z = ofValue v := by
  unfold zeroOf at h
  cases hi : P.info? t with
  | none => simp [hi] at h
  | some i =>
    cases hz : i.zero with
    | none => simp [hi, hz] at h
    | some v => simp [hi, hz] at h; exact ⟨i, v, rfl, hz, h.symm⟩
theorem ofValue_cells (v : Value) : RL pl (ofValue v).cells v.cells.toList := by
  unfold ofValue
  split
  · rename_i cs; exact ofVals_R pl _
  · rename_i h
    have : v.cells = #[v] := by cases v <;> first | rfl | exact absurd rfl (h _)
    rw [this]
    exact ⟨ofVal_R pl v, trivial⟩

theorem build_sound {t : Nat} {ps : List (Nat × PV)} {qs : List (Nat × Value)} {cs : List SV} (hp : PartsR pl ps qs) (h : buildV P t ps = some cs) :
    ∃ us, RL pl cs us ∧ P.built t qs = some us.toArray := by
  unfold buildV at h
  cases hz : zeroOf P t with
  | none => simp [hz] at h
  | some z =>
    obtain ⟨i, v, hi, hv, rfl⟩ := zeroOf_spec hz
    simp only [hz] at h
    cases hu : P.underlying t with
    | none => simp [hu] at h
    | some d =>
      cases d <;> try (simp [hu] at h; done)
      case array n e =>
        simp only [hu, arrPlace] at h
        cases hs : size? P e with
        | none => simp [hs] at h
        | some m =>
          simp only [hs] at h
          have hm := info_size hs
          cases hie : P.info? e with
          | none => simp [hie] at hm
          | some ie =>
            simp [hie] at hm
            obtain ⟨us, h1, h2⟩ := fill_sound (place' := fun i => some (i * ie.size, ie.size)) (fun i => by rw [hm]) hp (ofValue_cells v) h
            exact ⟨us, h1, by simpa [Program.built, hi, hu, hv, hie] using h2⟩
      case struct fs =>
        simp only [hu] at h
        cases hf : fieldPlaces P fs.toList with
        | none => simp [hf] at h
        | some l =>
          simp only [hf] at h
          obtain ⟨us, h1, h2⟩ := fill_sound (place' := (l.toArray[·]?)) (fun i => by simp [get?_eq]) hp (ofValue_cells v) h
          exact ⟨us, h1, by simpa [Program.built, hi, hu, hv, fieldPlaces_eq hf] using h2⟩

theorem evParts_R {env : Env} {a : Act} (hE : EnvR pl env a.tmps) : ∀ {l : List (Nat × Operand)} {ps : List (Nat × PV)}, evParts env l = some ps → PartsR pl ps (l.map fun (i, x) => (i, a.eval x))
  | [], ps, h => by simp [evParts] at h; subst h; trivial
  | (i, o) :: r, ps, h => by
    simp only [evParts] at h
    have ho := hE.ev (a := a) o
    cases he : ev env o with
    | tup l => simp [he] at h
    | v p =>
      cases hr : evParts env r with
      | none => simp [he, hr] at h
      | some l =>
        simp [he, hr] at h
        subst h
        rw [he] at ho
        exact ⟨rfl, ho, evParts_R hE hr⟩
theorem caps_R {env : Env} {a : Act} (hE : EnvR pl env a.tmps) : ∀ {l : List Operand} {r : List (Nat × Nat)}, caps env l = some r → capVals pl r = some (l.map a.eval)
  | [], r, h => by simp [caps] at h; subst h; rfl
  | x :: l, r, h => by
    simp only [caps] at h
    have hx := hE.ev (a := a) x
    split at h
    · rename_i b off r' he hr
      simp at h
      subst h
      rw [he] at hx
      rcases hx with hx | hx
      · cases hx
      · simp only [SV.val] at hx
        cases ha : addrOf pl b off with
        | none => simp [ha] at hx
        | some ad => simp [ha] at hx; simp [capVals, ha, caps_R hE hr, hx]
    · cases h

theorem ptr_R {b off : Nat} {v : Value} (h : (AV.v (.one (.ptr b off))).R pl v) : ∃ a, addrOf pl b off = some a ∧ v = .pointer (some a) := by
  rcases h with h | h
  · cases h
  · simp only [SV.val] at h
    cases ha : addrOf pl b off with
    | none => simp [ha] at h
    | some a => simp [ha] at h; exact ⟨a, rfl, h.symm⟩
theorem pe_R {b z idx sub : Nat} {v : Value} (h : (AV.v (.one (.pe b z idx sub))).R pl v) : ∃ a, addrOf pl b (idx * z + sub) = some a ∧ v = .pointer (some a) := by
  rcases h with h | h
  · cases h
  · simp only [SV.val] at h
    cases ha : addrOf pl b (idx * z + sub) with
    | none => simp [ha] at h
    | some a => simp [ha] at h; exact ⟨a, rfl, h.symm⟩
theorem rp_R {b z idx sub : Nat} {v : Value} (h : (AV.v (.one (.rp b z idx sub))).R pl v) : ∃ a, rpVal pl b (idx * z + sub) = some (.pointer (some a)) ∧ v = .pointer (some a) := by
  rcases h with h | h
  · cases h
  · simp only [SV.val] at h
    unfold rpVal at h ⊢
    cases hp : pl[b]? with
    | none => simp [hp] at h
    | some p => simp [hp] at h; exact ⟨_, rfl, h.symm⟩
theorem rpVal_add {b n m : Nat} {a : Addr} (h : rpVal pl b n = some (.pointer (some a))) : rpVal pl b (n + m) = some (.pointer (some (a.add m))) := by
  unfold rpVal at *
  cases hp : pl[b]? with
  | none => simp [hp] at h
  | some p =>
    simp [hp] at h
    subst h
    simp only [Addr.add]
    split
    · rename_i h0; subst h0; rfl
    · simp [Nat.add_assoc]
theorem rs_R {b z len cap : Nat} {v : Value} (h : (AV.v (.one (.rs b z len cap))).R pl v) : ∃ p, pl[b]? = some p ∧
    ((p.nil = true ∧ len = 0 ∧ cap = 0 ∧ v = .slice none 0 0) ∨ (p.nil = false ∧ v = .slice (some ⟨p.blk, p.cap, none⟩) len cap)) := by
  rcases h with h | h
  · cases h
  · simp only [SV.val, rsVal] at h
    cases hp : pl[b]? with
    | none => simp [hp] at h
    | some p =>
      refine ⟨p, rfl, ?_⟩
      simp only [hp] at h
      cases hn : p.nil with
      | true =>
        simp only [hn, if_true] at h
        split at h
        · rename_i hc; exact .inl ⟨rfl, hc.1, hc.2, (Option.some.inj h).symm⟩
        · cases h
      | false =>
        simp only [hn, Bool.false_eq_true, if_false, Option.some.injEq] at h
        exact .inr ⟨rfl, h.symm⟩
theorem rs_indexAt {t e b z len cap : Nat} {v : Value} (h : (AV.v (.one (.rs b z len cap))).R pl v) (hu : P.underlying t = some (.slice e)) (hz : size? P e = some z) {k : IntKind} {j : Int} (hj : 0 ≤ j ∧ j < (len : Int)) :
    ∃ a, rpVal pl b (j.toNat * z + 0) = some (.pointer (some a)) ∧ ∀ w, (Instr.indexAt t v (.int k j)).run P w = .ok (.pointer (some a)) w := by
  obtain ⟨p, hp, hc⟩ := rs_R h
  rcases hc with ⟨_, h0, _, _⟩ | ⟨_, rfl⟩
  · omega
  · refine ⟨⟨p.blk, p.cap + j.toNat * z, none⟩, by simp [rpVal, hp], fun w => ?_⟩
    have e1 : (⟨p.blk, p.cap, none⟩ : Addr).add (j.toNat * z) = ⟨p.blk, p.cap + j.toNat * z, none⟩ := by rw [Addr.add_lit]
    simp [Instr.indexAt, asIntOf, run_underlying hu, hj, run_size hz, e1]
theorem ow_R' {b z st len : Nat} {lit : Bool} {v : Value} (h : (AV.v (.one (.ow b z st len lit))).R pl v) : ∃ p, pl[b]? = some p ∧
    ((p.nil = true ∧ st = 0 ∧ len = 0 ∧ v = .slice none 0 0) ∨ (p.nil = false ∧ v = .slice (some ⟨p.blk, (if len = 0 ∧ p.cap = st then 0 else st * z), none⟩) len (p.cap - st))) := by
  rcases h with h | h
  · cases h
  · simp only [SV.val, owVal] at h
    cases hp : pl[b]? with
    | none => simp [hp] at h
    | some p =>
      refine ⟨p, rfl, ?_⟩
      simp only [hp] at h
      cases hn : p.nil with
      | true =>
        simp only [hn, if_true] at h
        split at h
        · rename_i hc; exact .inl ⟨rfl, hc.1, hc.2, (Option.some.inj h).symm⟩
        · cases h
      | false =>
        simp only [hn, Bool.false_eq_true, if_false, Option.some.injEq] at h
        exact .inr ⟨rfl, h.symm⟩
theorem ow_R {b z st len : Nat} {lit : Bool} {v : Value} (h : (AV.v (.one (.ow b z st len lit))).R pl v) (hl : 0 < len ∨ st = 0) : ∃ p, pl[b]? = some p ∧
    ((p.nil = true ∧ st = 0 ∧ len = 0 ∧ v = .slice none 0 0) ∨ (p.nil = false ∧ v = .slice (some ⟨p.blk, st * z, none⟩) len (p.cap - st))) := by
  obtain ⟨p, hp, h1⟩ := ow_R' h
  refine ⟨p, hp, h1.imp id fun h2 => ⟨h2.1, ?_⟩⟩
  rw [h2.2]
  rcases hl with hl | rfl
  · rw [if_neg (by omega)]
  · rw [Nat.zero_mul, ite_self]
theorem nils_R {v : Value} (h : (AV.v (.one .nils)).R pl v) : v = .slice none 0 0 := by
  rcases h with h | h
  · cases h
  · simp only [SV.val, Option.some.injEq] at h; exact h.symm
theorem cstr_R {s : List UInt8} {v : Value} (h : (AV.v (.one (.cstr s))).R pl v) : v = .string ⟨s.toArray⟩ := by
  rcases h with h | h
  · cases h
  · simp only [SV.val, Option.some.injEq] at h; exact h.symm
theorem str_R {s : List UInt8} {v : Value} (h : (AV.v (.one (.str s))).R pl v) : v = .string ⟨s.toArray⟩ := by
  rcases h with h | h
  · cases h
  · simp only [SV.val, Option.some.injEq] at h; exact h.symm
theorem ow_indexAt {t e b z st len : Nat} {lit : Bool} {v : Value} (h : (AV.v (.one (.ow b z st len lit))).R pl v) (hu : P.underlying t = some (.slice e)) (hz : size? P e = some z) {k : IntKind} {j : Int} (hj : 0 ≤ j ∧ j < (len : Int)) :
    ∃ a, addrOf pl b ((st + j.toNat) * z) = some a ∧ ∀ w, (Instr.indexAt t v (.int k j)).run P w = .ok (.pointer (some a)) w := by
  obtain ⟨p, hp, hc⟩ := ow_R h (by omega)
  rcases hc with ⟨_, _, h0, _⟩ | ⟨_, rfl⟩
  · omega
  · refine ⟨⟨p.blk, (st + j.toNat) * z, none⟩, by simp [addrOf, hp], fun w => ?_⟩
    have e1 : (⟨p.blk, st * z, none⟩ : Addr).add (j.toNat * z) = ⟨p.blk, (st + j.toNat) * z, none⟩ := by rw [Addr.add_lit, Nat.add_mul]
    simp [Instr.indexAt, asIntOf, run_underlying hu, hj, run_size hz, e1]
theorem con_R {k : IntKind} {n : Int} {v : Value} (h : (AV.v (.one (.con k n))).R pl v) : v = .int k n := by
  rcases h with h | h
  · cases h
  · simp only [SV.val, Option.some.injEq] at h; exact h.symm
theorem sym_R {k : IntKind} {n : Int} {v : Value} (h : (AV.v (.one (.sym k n))).R pl v) : v = .int k n := by
  rcases h with h | h
  · cases h
  · simp only [SV.val, Option.some.injEq] at h; exact h.symm
theorem cb_R {b : Bool} {v : Value} (h : (AV.v (.one (.cb b))).R pl v) : v = .bool b := by
  rcases h with h | h
  · cases h
  · simp only [SV.val, Option.some.injEq] at h; exact h.symm
theorem sb_R {b : Bool} {v : Value} (h : (AV.v (.one (.sb b))).R pl v) : v = .bool b := by
  rcases h with h | h
  · cases h
  · simp only [SV.val, Option.some.injEq] at h; exact h.symm
theorem addrOf_add {b off n : Nat} {a : Addr} (h : addrOf pl b off = some a) : addrOf pl b (off + n) = some (a.add n) := by
  unfold addrOf at *
  cases hp : pl[b]? with
  | none => simp [hp] at h
  | some p =>
    simp [hp] at h
    subst h
    simp only [Addr.add]
    split
    · rename_i h0; subst h0; rfl
    · rfl

theorem bsize (s : List UInt8) : (⟨s.toArray⟩ : ByteArray).size = s.length := by
  show s.toArray.size = s.length
  simp
theorem bget (s : List UInt8) (i : Nat) : (⟨s.toArray⟩ : ByteArray)[i]? = s[i]? := by
  show (if h : i < (⟨s.toArray⟩ : ByteArray).size then some ((⟨s.toArray⟩ : ByteArray)[i]) else none) = _
  by_cases h : i < s.length
  · rw [dif_pos (by rw [bsize]; exact h), List.getElem?_eq_getElem h]
    rfl
  · rw [dif_neg (by rw [bsize]; exact h), List.getElem?_eq_none (by omega)]
theorem lenV_sound {env : Env} {a : Act} (hE : EnvR pl env a.tmps) {args : Array Operand} {ts : Array Nat} {av : AV} (hq : (lenV P env args.toList ts.toList).gives av) :
    ∃ v, av.R pl v ∧ ∀ w ty, (Builtin.len_ ts ty (args.map a.eval)).run P w = .ok v w := by
  unfold lenV at hq
  split at hq
  · rename_i x t hargs hts
    have hargs' : args = #[x] := by rw [← Array.toArray_toList (xs := args), hargs]
    have hts' : ts = #[t] := by rw [← Array.toArray_toList (xs := ts), hts]
    subst hargs' hts'
    have hx := hE.ev (a := a) x
    split at hq
    · rename_i b z st len lit e hu he
      rw [he] at hx
      rw [gives_ok hq]
      obtain ⟨p, _, hc⟩ := ow_R' hx
      rcases hc with ⟨_, _, h0, hv⟩ | ⟨_, hv⟩
      · subst h0
        exact ⟨_, mkI_R pl _ _ _, fun w ty => by simp [Builtin.len_, run_underlying hu, hv, goInt]⟩
      · exact ⟨_, mkI_R pl _ _ _, fun w ty => by simp [Builtin.len_, run_underlying hu, hv, goInt]⟩
    · rename_i b z len cap e hu he
      rw [he] at hx
      rw [gives_ok hq]
      obtain ⟨p, _, hc⟩ := rs_R hx
      rcases hc with ⟨_, h0, _, hv⟩ | ⟨_, hv⟩
      · subst h0
        exact ⟨_, mkI_R pl _ _ _, fun w ty => by simp [Builtin.len_, run_underlying hu, hv, goInt]⟩
      · exact ⟨_, mkI_R pl _ _ _, fun w ty => by simp [Builtin.len_, run_underlying hu, hv, goInt]⟩
    · rename_i e hu he
      rw [he] at hx
      rw [gives_ok hq]
      exact ⟨_, mkI_R pl _ _ _, fun w ty => by simp [Builtin.len_, run_underlying hu, nils_R hx, goInt]⟩
    · rename_i s hu he
      rw [he] at hx
      rw [gives_ok hq]
      exact ⟨_, mkI_R pl _ _ _, fun w ty => by simp [Builtin.len_, run_underlying hu, cstr_R hx, goInt, len'_eq, bsize]⟩
    · rename_i s hu he
      rw [he] at hx
      rw [gives_ok hq]
      exact ⟨_, mkI_R pl _ _ _, fun w ty => by simp [Builtin.len_, run_underlying hu, str_R hx, goInt, bsize]⟩
    · exact (gives_fail hq).elim
  · exact (gives_fail hq).elim
theorem qop0_sound {env : Env} {h : Heap} {a : Act} (hE : EnvR pl env a.tmps) (o : Oper) {av : AV} (hq : (qop0 P env h o.op).gives av) : QS P pl h o a av := by
  unfold qop0 at hq
  unfold QS execOp
  split at hq
  · -- move
    rename_i x ho
    rw [gives_ok hq]
    exact ⟨_, fun w _ => ⟨hE.ev x, by simp [ho]⟩⟩
  · rename_i x ho
    rw [gives_ok hq]
    exact ⟨_, fun w _ => ⟨hE.ev x, by simp [ho]⟩⟩
  · -- build
    rename_i t parts ho
    cases hp : evParts env parts.toList with
    | none => simp only [hp] at hq; exact (gives_fail hq).elim
    | some ps =>
      simp only [hp] at hq
      cases hb : buildV P t ps with
      | none => simp only [hb] at hq; exact (gives_fail hq).elim
      | some cs =>
        simp only [hb] at hq
        rw [gives_ok hq]
        obtain ⟨us, h1, h2⟩ := build_sound (evParts_R hE hp) hb
        refine ⟨_, fun w _ => ⟨⟨us, rfl, h1⟩, ?_⟩⟩
        have := run_build (P := P) w t (parts.map fun (i, x) => (i, a.eval x)) _ (by simpa using h2)
        simp [ho, this]
  · -- load
    rename_i t x ho
    split at hq
    · rename_i b off he
      obtain ⟨p, hp, rfl⟩ := gives_ofOpt hq
      have hx := hE.ev (a := a) x
      rw [he] at hx
      obtain ⟨ad, had, hv⟩ := ptr_R hx
      by_cases hex : ∃ w, HB pl h w
      · obtain ⟨w1, hw1⟩ := hex
        obtain ⟨v, g1, _⟩ := load_run hp had hw1
        refine ⟨v, fun w hw => ?_⟩
        obtain ⟨v', g1', g2'⟩ := load_run hp had hw
        have e := PV.known_eq (loadV_known hp) g1 g1'
        subst e
        exact ⟨g1, by simp [ho, hv, Instr.loadAt, Instr.sureAddr, g2']⟩
      · exact ⟨Go.undef, fun w hw => absurd ⟨w, hw⟩ hex⟩
    · rename_i b z idx sub he
      have hx := hE.ev (a := a) x
      rw [he] at hx
      obtain ⟨ad, had, hv⟩ := pe_R hx
      obtain ⟨p, rfl, hk, hrun⟩ := loadE_run hq had
      by_cases hex : ∃ w, HB pl h w
      · obtain ⟨w1, hw1⟩ := hex
        obtain ⟨v, g1, _⟩ := hrun w1 hw1
        refine ⟨v, fun w hw => ?_⟩
        obtain ⟨v', g1', g2'⟩ := hrun w hw
        have e := PV.known_eq hk g1 g1'
        subst e
        exact ⟨g1, by simp [ho, hv, Instr.loadAt, Instr.sureAddr, g2']⟩
      · exact ⟨Go.undef, fun w hw => absurd ⟨w, hw⟩ hex⟩
    · rename_i b z idx sub he
      have hx := hE.ev (a := a) x
      rw [he] at hx
      obtain ⟨ad0, had, hv⟩ := rp_R hx
      obtain ⟨p, ad, rfl, hk, hv0, hrun⟩ := loadR_run hq had
      cases hv0
      by_cases hex : ∃ w, HB pl h w
      · obtain ⟨w1, hw1⟩ := hex
        obtain ⟨v, g1, _⟩ := hrun w1 hw1
        refine ⟨v, fun w hw => ?_⟩
        obtain ⟨v', g1', g2'⟩ := hrun w hw
        have e := PV.known_eq hk g1 g1'
        subst e
        exact ⟨g1, by simp [ho, hv, Instr.loadAt, Instr.sureAddr, g2']⟩
      · exact ⟨Go.undef, fun w hw => absurd ⟨w, hw⟩ hex⟩
    · exact (gives_fail hq).elim
  · -- nilCheck
    rename_i x ho
    have hx := hE.ev (a := a) x
    split at hq
    · rename_i b off he
      rw [gives_ok hq]
      rw [he] at hx
      obtain ⟨ad, had, hv⟩ := ptr_R hx
      exact ⟨a.eval x, fun w _ => ⟨hx, by simp [ho, hv]⟩⟩
    · rename_i f c he
      rw [gives_ok hq]
      rw [he] at hx
      refine ⟨a.eval x, fun w _ => ⟨hx, ?_⟩⟩
      rcases hx with hx | hx
      · cases hx
      · simp only [SV.val] at hx
        cases hc : capVals pl c with
        | none => simp [hc] at hx
        | some vs => simp [hc] at hx; simp [ho, ← hx]
    · rename_i b z idx sub he
      rw [gives_ok hq]
      rw [he] at hx
      obtain ⟨ad, had, hv⟩ := pe_R hx
      exact ⟨a.eval x, fun w _ => ⟨hx, by simp [ho, hv]⟩⟩
    · rename_i b z idx sub he
      rw [gives_ok hq]
      rw [he] at hx
      obtain ⟨ad, had, hv⟩ := rp_R hx
      exact ⟨a.eval x, fun w _ => ⟨hx, by simp [ho, hv]⟩⟩
    · exact (gives_fail hq).elim
  · -- binOp
    rename_i op t x y t' ho
    have hx := hE.ev (a := a) x
    have hy := hE.ev (a := a) y
    split at hq
    · rename_i u v he1 he2
      rw [he1] at hx
      rw [he2] at hy
      split at hq
      · rename_i hB
        simp only [Bool.and_eq_true] at hB
        obtain ⟨b1, hb1⟩ := isB_R hB.1 hx
        obtain ⟨b2, hb2⟩ := isB_R hB.2 hy
        obtain ⟨r, g1, g2⟩ := cmpV_sound hq hx hy (.inl ⟨b1, b2, hb1, hb2⟩)
        refine ⟨r, fun w _ => ⟨g1, ?_⟩⟩
        rw [hb1, hb2] at g2
        cases op <;> simp [ho, hb1, hb2, g2, eqGuard]
      · split at hq
        · rename_i hsh
          obtain ⟨r, g1, g2, g3⟩ := aSh_sound (P := P) pl hsh hq t hx hy
          exact ⟨r, fun w _ => ⟨g1, by simp [ho, g2, g3]⟩⟩
        · obtain ⟨r, g1, g2, g3⟩ := aBin_sound (P := P) pl hq t hx hy
          exact ⟨r, fun w _ => ⟨g1, by simp [ho, g2, g3]⟩⟩
    · rename_i u v he1 he2
      rw [he1] at hx
      rw [he2] at hy
      split at hq
      · exact (gives_fail hq).elim
      · rename_i hg
        obtain ⟨vs, hvs, _⟩ := id hx
        obtain ⟨us, hus, _⟩ := id hy
        obtain ⟨r, g1, g2⟩ := cmpV_sound hq hx hy (.inr ⟨_, _, hvs, hus⟩)
        refine ⟨r, fun w _ => ⟨g1, ?_⟩⟩
        rw [hvs, hus] at g2
        have g3 := run_eqGuard_agg (P := P) w op t x y vs.toArray us.toArray (by simpa using hg)
        simp [ho, hvs, hus, g2, g3]
    · exact (gives_fail hq).elim
  · -- unOp
    rename_i op t x ho
    have hx := hE.ev (a := a) x
    split at hq
    · rename_i u he1
      rw [he1] at hx
      obtain ⟨r, g1, g2⟩ := aUn_sound (P := P) pl hq hx
      exact ⟨r, fun w _ => ⟨g1, by simp [ho, g2]⟩⟩
    · exact (gives_fail hq).elim
  · -- fieldAddr
    rename_i s x f ho
    have hx := hE.ev (a := a) x
    split at hq
    · rename_i b off fs he hu
      rw [he] at hx
      obtain ⟨ad, had, hv⟩ := ptr_R hx
      split at hq
      · rename_i fd hf
        split at hq
        · rename_i n hs
          rw [gives_ok hq]
          rw [get?_eq] at hf
          have hf' : fs[f]? = some fd := by simpa using hf
          refine ⟨.pointer (some (ad.add fd.offset)), fun w _ => ⟨.inr (by simp [SV.val, addrOf_add had]), ?_⟩⟩
          simp [ho, hv, Instr.fieldAt, run_underlying hu, hf', Instr.sureAddr, fieldPlace, run_size hs]
        · exact (gives_fail hq).elim
      · exact (gives_fail hq).elim
    · rename_i b z idx sub fs he hu
      rw [he] at hx
      obtain ⟨ad, had, hv⟩ := pe_R hx
      split at hq
      · rename_i fd hf
        split at hq
        · rename_i n hs
          rw [gives_ok hq]
          rw [get?_eq] at hf
          have hf' : fs[f]? = some fd := by simpa using hf
          have hadd := addrOf_add (n := fd.offset) had
          rw [Nat.add_assoc] at hadd
          refine ⟨.pointer (some (ad.add fd.offset)), fun w _ => ⟨.inr (by simp [SV.val, hadd]), ?_⟩⟩
          simp [ho, hv, Instr.fieldAt, run_underlying hu, hf', Instr.sureAddr, fieldPlace, run_size hs]
        · exact (gives_fail hq).elim
      · exact (gives_fail hq).elim
    · rename_i b z idx sub fs he hu
      rw [he] at hx
      obtain ⟨ad, had, hv⟩ := rp_R hx
      split at hq
      · rename_i fd hf
        split at hq
        · rename_i n hs
          rw [gives_ok hq]
          rw [get?_eq] at hf
          have hf' : fs[f]? = some fd := by simpa using hf
          have hadd := rpVal_add (m := fd.offset) had
          rw [Nat.add_assoc] at hadd
          refine ⟨.pointer (some (ad.add fd.offset)), fun w _ => ⟨.inr (by simp [SV.val, hadd]), ?_⟩⟩
          simp [ho, hv, Instr.fieldAt, run_underlying hu, hf', Instr.sureAddr, fieldPlace, run_size hs]
        · exact (gives_fail hq).elim
      · exact (gives_fail hq).elim
    · exact (gives_fail hq).elim
  · -- field
    rename_i s x f ho
    have hx := hE.ev (a := a) x
    split at hq
    · rename_i cs fs he hu
      rw [he] at hx
      obtain ⟨vs, hv, hr⟩ := hx
      split at hq
      · rename_i fd hf
        obtain ⟨p, hp, rfl⟩ := gives_ofOpt hq
        rw [get?_eq] at hf
        have hf' : fs[f]? = some fd := by simpa using hf
        obtain ⟨v, g1, g2⟩ := part_run hr hp
        exact ⟨v, fun w _ => ⟨g1, by simp [ho, hv, Instr.field, run_underlying hu, hf', asAgg, g2]⟩⟩
      · exact (gives_fail hq).elim
    · exact (gives_fail hq).elim
  · -- indexAddr
    rename_i t x i ho
    have hx := hE.ev (a := a) x
    have hi := hE.ev (a := a) i
    split at hq
    · rename_i n e b off k j hu he1 he2
      rw [he1] at hx
      rw [he2] at hi
      obtain ⟨ad, had, hv⟩ := ptr_R hx
      have hj := con_R hi
      split at hq
      · rename_i z hz
        split at hq
        · rename_i hb
          rw [gives_ok hq]
          refine ⟨.pointer (some (ad.add (j.toNat * z))), fun w _ => ⟨.inr (by simp [SV.val, addrOf_add had]), ?_⟩⟩
          simp [ho, hv, hj, Instr.indexAt, asIntOf, run_underlying hu, Instr.sureAddr, hb, run_size hz]
        · exact (gives_fail hq).elim
      · exact (gives_fail hq).elim
    · rename_i n e b z0 idx sub k j hu he1 he2
      rw [he1] at hx
      rw [he2] at hi
      obtain ⟨ad, had, hv⟩ := pe_R hx
      have hj := con_R hi
      split at hq
      · rename_i z hz
        split at hq
        · rename_i hb
          rw [gives_ok hq]
          have hadd := addrOf_add (n := j.toNat * z) had
          rw [Nat.add_assoc] at hadd
          refine ⟨.pointer (some (ad.add (j.toNat * z))), fun w _ => ⟨.inr (by simp [SV.val, hadd]), ?_⟩⟩
          simp [ho, hv, hj, Instr.indexAt, asIntOf, run_underlying hu, Instr.sureAddr, hb, run_size hz]
        · exact (gives_fail hq).elim
      · exact (gives_fail hq).elim
    · rename_i n e b z0 idx sub k j hu he1 he2
      rw [he1] at hx
      rw [he2] at hi
      obtain ⟨ad, had, hv⟩ := rp_R hx
      have hj := con_R hi
      split at hq
      · rename_i z hz
        split at hq
        · rename_i hb
          rw [gives_ok hq]
          have hadd := rpVal_add (m := j.toNat * z) had
          rw [Nat.add_assoc] at hadd
          refine ⟨.pointer (some (ad.add (j.toNat * z))), fun w _ => ⟨.inr (by simp [SV.val, hadd]), ?_⟩⟩
          simp [ho, hv, hj, Instr.indexAt, asIntOf, run_underlying hu, Instr.sureAddr, hb, run_size hz]
        · exact (gives_fail hq).elim
      · exact (gives_fail hq).elim
    · rename_i e b z st len lit k j hu he1 he2
      rw [he1] at hx
      rw [he2] at hi
      have hj := con_R hi
      split at hq
      · rename_i hz
        split at hq
        · split at hq
          · rename_i hb
            rw [gives_ok hq]
            obtain ⟨ad, h1, h2⟩ := ow_indexAt hx hu hz (k := k) hb
            exact ⟨.pointer (some ad), fun w _ => ⟨.inr (by simp [SV.val, h1]), by simp [ho, hj, h2]⟩⟩
          · exact (gives_fail hq).elim
        · rcases hq with hq | ⟨q, hq, hb⟩
          · cases hq
          · injection hq with e1 e2
            rw [← e1] at hb
            subst e2
            obtain ⟨ad, h1, h2⟩ := ow_indexAt hx hu hz (k := k) hb
            exact ⟨.pointer (some ad), fun w _ => ⟨.inr (by simp [SV.val, h1]), by simp [ho, hj, h2]⟩⟩
      · exact (gives_fail hq).elim
    · rename_i e b z st len lit k j hu he1 he2
      rw [he1] at hx
      rw [he2] at hi
      have hj := sym_R hi
      split at hq
      · rename_i hz
        split at hq
        · exact (gives_fail hq).elim
        · rcases hq with hq | ⟨q, hq, hb⟩
          · cases hq
          · injection hq with e1 e2
            rw [← e1] at hb
            subst e2
            obtain ⟨ad, h1, h2⟩ := ow_indexAt hx hu hz (k := k) hb
            exact ⟨.pointer (some ad), fun w _ => ⟨.inr (by simp [SV.val, h1]), by simp [ho, hj, h2]⟩⟩
      · exact (gives_fail hq).elim
    · rename_i e b z len cap k j hu he1 he2
      rw [he1] at hx
      rw [he2] at hi
      have hj := con_R hi
      split at hq
      · rename_i hz
        rcases hq with hq | ⟨q, hq, hb⟩
        · cases hq
        · injection hq with e1 e2
          rw [← e1] at hb
          subst e2
          obtain ⟨ad, h1, h2⟩ := rs_indexAt hx hu hz (k := k) hb
          exact ⟨.pointer (some ad), fun w _ => ⟨.inr (by simpa [SV.val] using h1), by simp [ho, hj, h2]⟩⟩
      · exact (gives_fail hq).elim
    · rename_i e b z len cap k j hu he1 he2
      rw [he1] at hx
      rw [he2] at hi
      have hj := sym_R hi
      split at hq
      · rename_i hz
        rcases hq with hq | ⟨q, hq, hb⟩
        · cases hq
        · injection hq with e1 e2
          rw [← e1] at hb
          subst e2
          obtain ⟨ad, h1, h2⟩ := rs_indexAt hx hu hz (k := k) hb
          exact ⟨.pointer (some ad), fun w _ => ⟨.inr (by simpa [SV.val] using h1), by simp [ho, hj, h2]⟩⟩
      · exact (gives_fail hq).elim
    · exact (gives_fail hq).elim
  · -- index
    rename_i t x i ho
    have hx := hE.ev (a := a) x
    have hi := hE.ev (a := a) i
    split at hq
    · rename_i n e cs k j hu he1 he2
      rw [he1] at hx
      rw [he2] at hi
      obtain ⟨vs, hv, hr⟩ := hx
      have hj := con_R hi
      split at hq
      · rename_i z hz
        split at hq
        · rename_i hb
          obtain ⟨p, hp, rfl⟩ := gives_ofOpt hq
          obtain ⟨v, g1, g2⟩ := part_run hr hp
          exact ⟨v, fun w _ => ⟨g1, by simp [ho, hv, hj, Instr.index, asIntOf, run_underlying hu, hb, run_size hz, g2]⟩⟩
        · exact (gives_fail hq).elim
      · exact (gives_fail hq).elim
    · rename_i s k j hu he1 he2
      rw [he1] at hx
      rw [he2] at hi
      have hs := cstr_R hx
      have hj := con_R hi
      split at hq
      · rename_i hb
        split at hq
        · rename_i c hc
          rw [gives_ok hq]
          rw [get?_eq] at hc
          exact ⟨_, fun w _ => ⟨mkI_R pl true .u8 _, by simp [ho, hs, hj, Instr.index, asIntOf, run_underlying hu, hb, bget, hc]⟩⟩
        · exact (gives_fail hq).elim
      · exact (gives_fail hq).elim
    all_goals first
      | exact (gives_fail hq).elim
      | (rename_i s k j hu he1 he2
         rw [he1] at hx
         rw [he2] at hi
         rcases hq with hq | ⟨p, hq, hp⟩
         · cases hq
         · injection hq with e1 e2
           rw [← e1] at hp
           subst e2
           have hlt : j.toNat < s.length := by omega
           obtain ⟨c, hc, hcd⟩ : ∃ c, s[j.toNat]? = some c ∧ s.getD j.toNat 0 = c := by
             refine ⟨s[j.toNat], List.getElem?_eq_getElem hlt, ?_⟩
             rw [List.getD_eq_getElem?_getD, List.getElem?_eq_getElem hlt]; rfl
           rw [hcd]
           first
           | (have hs := cstr_R hx
              have hj := sym_R hi
              exact ⟨_, fun w _ => ⟨mkI_R pl false .u8 _, by simp [ho, hs, hj, Instr.index, asIntOf, run_underlying hu, hp.1, bget, hc]⟩⟩)
           | (have hs := str_R hx
              have hj := con_R hi
              exact ⟨_, fun w _ => ⟨mkI_R pl false .u8 _, by simp [ho, hs, hj, Instr.index, asIntOf, run_underlying hu, hp.1, bget, hc]⟩⟩)
           | (have hs := str_R hx
              have hj := sym_R hi
              exact ⟨_, fun w _ => ⟨mkI_R pl false .u8 _, by simp [ho, hs, hj, Instr.index, asIntOf, run_underlying hu, hp.1, bget, hc]⟩⟩))
  · -- makeFunc
    rename_i f first cap ho
    split at hq
    · rename_i l hfirst hcap
      rw [gives_ok hq]
      have hc := caps_R hE hcap
      have hfirst' : first = #[] := by simpa using hfirst
      refine ⟨.func (.func f) #[] (cap.map a.eval), fun w _ => ⟨.inr (by simp only [SV.val, hc]; rw [← Array.toList_map, Array.toArray_toList]), ?_⟩⟩
      simp [ho, Instr.makeFunc, hfirst']
    · exact (gives_fail hq).elim
  · -- extract
    rename_i t i ho
    have hx := hE.ev (a := a) t
    split at hq
    · rename_i l he
      rw [he] at hx
      obtain ⟨vs, hv, hr⟩ := hx
      obtain ⟨p, hp, rfl⟩ := gives_ofOpt hq
      rw [get?_eq] at hp
      obtain ⟨v, g1, g2⟩ := hr.get hp
      exact ⟨v, fun w _ => ⟨g2, by simp [ho, hv, Instr.extract, g1]⟩⟩
    · exact (gives_fail hq).elim
  · -- pick
    rename_i c x y ho
    have hc := hE.ev (a := a) c
    split at hq
    · rename_i he
      rw [he] at hc
      rw [gives_ok hq]
      exact ⟨_, fun w _ => ⟨hE.ev x, by simp [ho, cb_R hc, asBool]⟩⟩
    · rename_i he
      rw [he] at hc
      rw [gives_ok hq]
      exact ⟨_, fun w _ => ⟨hE.ev y, by simp [ho, cb_R hc, asBool]⟩⟩
    · exact (gives_fail hq).elim
  · -- convert
    rename_i s d x ho
    have hx := hE.ev (a := a) x
    split at hq
    · rename_i k0 k k1 n hs hd he
      rw [he] at hx
      rw [gives_ok hq]
      exact ⟨_, fun w _ => ⟨mkI_R pl true k _, by simp [ho, con_R hx, convert, run_underlying hs, run_underlying hd, Conv.intToInt]⟩⟩
    · rename_i k0 k k1 n hs hd he
      rw [he] at hx
      rw [gives_ok hq]
      exact ⟨_, fun w _ => ⟨mkI_R pl false k _, by simp [ho, sym_R hx, convert, run_underlying hs, run_underlying hd, Conv.intToInt]⟩⟩
    · exact (gives_fail hq).elim
  · -- lookup
    rename_i t m k ok ho
    have hm := hE.ev (a := a) m
    have hk := hE.ev (a := a) k
    have hl := lookV_sound hq hm hk
    by_cases hex : ∃ w, HB pl h w
    · obtain ⟨w1, hw1⟩ := hex
      obtain ⟨v, g1, _⟩ := hl.2 w1 hw1
      refine ⟨v, fun w hw => ?_⟩
      obtain ⟨v', g1', g2'⟩ := hl.2 w hw
      have e := hl.1 v v' g1 g1'
      subst e
      exact ⟨g1, by simp [ho, g2']⟩
    · exact ⟨Go.undef, fun w hw => absurd ⟨w, hw⟩ hex⟩
  · -- len
    rename_i args ts ho
    obtain ⟨v, h1, h2⟩ := lenV_sound hE hq
    exact ⟨v, fun w _ => ⟨h1, by simp [ho, resolve, invoke, builtin, h2]⟩⟩
  · exact (gives_fail hq).elim
end
end Go.AM
namespace Go.AM
open Go

class Glob where
  tab : World → Prop
  blk : Nat → Prop
  keep : ∀ w w' : World, (∀ k, blk k → k < w.heap.size → w'.heap[k]? = w.heap[k]?) → tab w → tab w'
  lt : ∀ (w : World) k, tab w → blk k → k < w.heap.size
structure Fr (w0 : World) (Sx : Nat → Prop) (w : World) : Prop where
  os : w.os = w0.os
  tape : w.tape = w0.tape
  output : w.output = w0.output
  size : w0.heap.size ≤ w.heap.size
  block : ∀ k, k < w0.heap.size → ¬ Sx k → w.heap[k]? = w0.heap[k]?
def Blk.alive : Blk → Pl → Bool
  | .gone, _ => false
  | .row .., _ => true
  | .own .., p => !p.nil
  | .ownL .., p => !p.nil
  | .mp _, _ => true
  | .omp _ _, _ => true
  | .sit .., _ => true
  | .ro .., _ => false
def Blk.rd : Blk → Pl → Bool
  | .ro .., p => !p.nil
  | _, _ => false
structure Marks where
  S : Nat → Prop
  R : Nat → Prop
instance : CoeFun Marks (fun _ => Nat → Prop) := ⟨Marks.S⟩
def noMarks : Marks := ⟨fun _ => False, fun _ => False⟩
structure HRel [Glob] (w0 : World) (Sx : Marks) (pl : List Pl) (h : Heap) (w : World) : Prop where
  len : pl.length = h.length
  fr : Fr w0 Sx.S w
  hb : HB pl h w
  lt : ∀ (b : Nat) p x, pl[b]? = some p → h[b]? = some x → x.alive p = true → p.blk < w.heap.size
  own : ∀ (b : Nat) p x, pl[b]? = some p → h[b]? = some x → x.alive p = true → w0.heap.size ≤ p.blk ∨ Sx p.blk
  inj : ∀ (b c : Nat) p q x y, pl[b]? = some p → pl[c]? = some q → h[b]? = some x → h[c]? = some y → x.alive p = true → y.alive q = true → p.blk = q.blk → b = c
  ro : ∀ (b : Nat) p x, pl[b]? = some p → h[b]? = some x → x.rd p = true → Sx.R p.blk
  rok : (∀ k, Sx.R k → k < w0.heap.size ∧ ¬ Sx k) ∧ Glob.tab w0 ∧ ∀ k, Glob.blk k → ¬ Sx k
theorem HRel.tabw [Glob] {w0 : World} {Sx : Marks} {pl : List Pl} {h : Heap} {w : World} (hR : HRel w0 Sx pl h w) : Glob.tab w :=
  Glob.keep w0 w (fun k hb hk => hR.fr.block k hk (hR.rok.2.2 k hb)) hR.rok.2.1

def ArgsR (pl : List Pl) : List AV → List Value → Prop
  | [], [] => True
  | s :: l, v :: vs => s.R pl v ∧ ArgsR pl l vs
  | _, _ => False
theorem ArgsR.length {pl : List Pl} : ∀ {l : List AV} {vs : List Value}, ArgsR pl l vs → l.length = vs.length
  | [], [], _ => rfl
  | [], _ :: _, hv => hv.elim
  | _ :: _, [], hv => hv.elim
  | _ :: _, _ :: _, hv => by simp [ArgsR.length hv.2]
theorem ArgsR.append {pl : List Pl} : ∀ {l m : List AV} {vs us : List Value}, ArgsR pl l vs → ArgsR pl m us → ArgsR pl (l ++ m) (vs ++ us)
  | [], _, [], _, _, h => h
  | [], _, _ :: _, _, h, _ => h.elim
  | _ :: _, _, [], _, h, _ => h.elim
  | _ :: _, _, _ :: _, _, h, k => ⟨h.1, ArgsR.append h.2 k⟩
theorem ArgsR.get {pl : List Pl} : ∀ {l : List AV} {vs : List Value}, ArgsR pl l vs → ∀ t, (getD l t AV.any).R pl ((vs[t]?).getD Go.undef)
  | [], [], _, t => by simp [getD]; exact any_R pl _
  | [], _ :: _, hv, _ => hv.elim
  | _ :: _, [], hv, _ => hv.elim
  | _ :: _, _ :: _, hv, 0 => hv.1
  | _ :: _, _ :: _, hv, t + 1 => by simpa [getD] using ArgsR.get hv.2 t
theorem ArgsR.ext {pl pl' : List Pl} (h : PExt pl pl') : ∀ {l : List AV} {vs : List Value}, ArgsR pl l vs → ArgsR pl' l vs
  | [], [], _ => trivial
  | [], _ :: _, hv => hv.elim
  | _ :: _, [], hv => hv.elim
  | _ :: _, _ :: _, hv => ⟨hv.1.ext h, ArgsR.ext h hv.2⟩
theorem evs_R {pl : List Pl} {env : Env} {a : Act} (hE : EnvR pl env a.tmps) : ∀ l : List Operand, ArgsR pl (evs env l) (l.map a.eval)
  | [] => trivial
  | x :: l => ⟨hE.ev x, evs_R hE l⟩
theorem capArgs_R {pl : List Pl} : ∀ {l : List (Nat × Nat)} {vs : List Value}, capVals pl l = some vs → ArgsR pl (capArgs l) vs
  | [], vs, h => by simp [capVals] at h; subst h; trivial
  | (b, o) :: l, vs, h => by
    simp only [capVals] at h
    cases ha : addrOf pl b o with
    | none => simp [ha] at h
    | some ad =>
      cases hc : capVals pl l with
      | none => simp [ha, hc] at h
      | some r =>
        simp [ha, hc] at h
        subst h
        exact ⟨.inr (by simp [SV.val, ha]), capArgs_R hc⟩
theorem fn_R {pl : List Pl} {f : Nat} {cap : List (Nat × Nat)} {v : Value} (h : (AV.v (.one (.fn f cap))).R pl v) : ∃ vs, capVals pl cap = some vs ∧ v = .func (.func f) #[] vs.toArray := by
  rcases h with h | h
  · cases h
  · simp only [SV.val] at h
    cases hc : capVals pl cap with
    | none => simp [hc] at h
    | some vs => simp [hc] at h; exact ⟨vs, rfl, h.symm⟩

structure Fine (P : Program) : Prop where
  name : ∀ (f : Nat) fn, P.funcs[f]? = some fn → (fn.name == "runtime.NumGoroutine") = false
  mixed : P.follows .mixedOrders = true

section
variable {P : Program}
theorem call_run (hF : Fine P) {f : Nat} {fn : Func} (hf : P.funcs[f]? = some fn) (hb : fn.body.isSome = true) {o : Oper} {a : Act} {x : Operand} {args : Array Operand} {ts : Array TypeId} (ho : o.op = .call { callee := .value x, args, argTypes := ts })
    {caps : Array Value} (hx : a.eval x = .func (.func f) #[] caps) (w : World) : (execOp a.eval o).run P w = .ok (.enter f (args.map a.eval ++ caps)) w := by
  have hn : ¬ fn.name = "runtime.NumGoroutine" := by simpa using hF.name f fn hf
  have hb2 : ¬ fn.body = none := by intro h; rw [h] at hb; cases hb
  unfold execOp
  simp [ho, resolve, Deferred.ofValue, hx, invoke, callFunc, hf, hb2, hn]

theorem call_run0 {f : Nat} {o : Oper} {a : Act} {x : Operand} {args : Array Operand} {ts : Array TypeId} (ho : o.op = .call { callee := .value x, args, argTypes := ts })
    {caps : Array Value} (hx : a.eval x = .func (.func f) #[] caps) (w : World) : (execOp a.eval o).run P w = (callFunc f (args.map a.eval ++ caps)).run P w := by
  unfold execOp
  simp [ho, resolve, Deferred.ofValue, hx, invoke]

def PureOk [Glob] (P : Program) (S : Sums) : Prop := ∀ f p, S.pure f = some p → (∃ fn, P.funcs[f]? = some fn ∧ fn.body.isSome = true) ∧
  ∀ args av, (p args).gives av → ∀ w0 Sx pl h vals, ArgsR pl args vals → ∃ v, ∀ w, HRel w0 Sx pl h w → av.R pl v ∧ Calls P f vals.toArray w (fun e w' => e = .returned v ∧ HRel w0 Sx pl h w')

theorem yielded_bool {pl : List Pl} {env : Env} {a : Act} (hE : EnvR pl env a.tmps) {ops : Array Oper} {j d : Nat} {oj : Oper} (hj : ops[j]? = some oj) (hd : oj.dst = some d) {b : Bool} (hv : a.tmps.getD d Go.undef = .bool b) :
    yielded ops a.tmps j = some b := by
  have ht : a.tmps[d]? = some (.bool b) := by
    rw [Array.getD_eq_getD_getElem?] at hv
    cases hq : a.tmps[d]? with
    | none => rw [hq] at hv; simp [Go.undef] at hv
    | some v => rw [hq] at hv; simpa using hv
  simp [yielded, hj, hd, ht]

theorem guard_spec {pl : List Pl} {env : Env} {a : Act} (hE : EnvR pl env a.tmps) (ops : Array Oper) (o : Oper) :
    match guardV ops.toList env o with
    | .yes => Region.wanted o (yielded ops a.tmps) = true
    | .no => Region.wanted o (yielded ops a.tmps) = false
    | .open_ b d => (∃ j want, o.guard = some (j, want) ∧ Region.wanted o (yielded ops a.tmps) = (b == want)) ∧ a.tmps.getD d Go.undef = .bool b
    | .bad => True := by
  unfold guardV
  cases hg : o.guard with
  | none => simp [Region.wanted, hg]
  | some jw =>
    obtain ⟨j, want⟩ := jw
    simp only
    cases hj : get? ops.toList j with
    | none => trivial
    | some oj =>
      rw [get?_eq] at hj
      have hj' : ops[j]? = some oj := by simpa using hj
      simp only
      cases hd : oj.dst with
      | none => trivial
      | some d =>
        have hv := hE.2 d
        simp only
        generalize getD env d AV.any = av at hv
        cases av with
        | v p => cases p with
          | agg l => trivial
          | one s =>
            cases s <;> first | trivial | skip
            case cb b =>
              have hy := yielded_bool hE hj' hd (cb_R hv)
              by_cases hbw : b = want
              · simp [Region.wanted, hg, hy, hbw]
              · simp [Region.wanted, hg, hy, hbw]
            case sb b =>
              have hy := yielded_bool hE hj' hd (sb_R hv)
              exact ⟨⟨j, want, rfl, by simp only [Region.wanted, hg, hy]; cases b <;> cases want <;> rfl⟩, sb_R hv⟩
        | tup l => cases l with
          | cons _ _ => trivial
          | nil =>
            obtain ⟨vs, hv, hr⟩ := hv
            have hvs : vs = [] := by cases vs with | nil => rfl | cons _ _ => exact hr.elim
            subst hvs
            have : yielded ops a.tmps j = none := by
              have ht : a.tmps[d]? = none ∨ a.tmps[d]? = some (.tuple #[]) := by
                rw [Array.getD_eq_getD_getElem?] at hv
                cases hq : a.tmps[d]? with
                | none => exact .inl rfl
                | some v => rw [hq] at hv; right; simpa using hv
              rcases ht with ht | ht <;> simp [yielded, hj', hd, ht]
            simp [Region.wanted, hg, this]
end
end Go.AM
namespace Go.AM
open Go
section
variable {P : Program} {pl : List Pl} {h : Heap}
def InjB (pl : List Pl) (h : Heap) : Prop := ∀ (b c : Nat) p q x y, pl[b]? = some p → pl[c]? = some q → h[b]? = some x → h[c]? = some y → x.alive p = true → y.alive q = true → p.blk = q.blk → b = c
theorem isRow_spec {o : Option Blk} (h : isRow o = true) : ∃ T cs, o = some (.row T cs) := by
  unfold isRow at h
  split at h
  · exact ⟨_, _, rfl⟩
  · cases h
theorem shape_row {w : World} {b : Nat} {xs : Array Value} {T : Nat} (hb : w.heap[b]? = some (.cells xs T (0, 0))) : w.shape? b = some (T, xs.size) := by
  simp [World.shape?, hb]
theorem frozen_row {w : World} {b o : Nat} {v : Option TypeId} {xs : Array Value} {T : Nat} (hb : w.heap[b]? = some (.cells xs T (0, 0))) : w.frozen? ⟨b, o, v⟩ = false := by
  simp [World.frozen?, hb]
theorem run_sameAddr_rows {w : World} {a b : Addr} {xs ys : Array Value} {T U : Nat} (hne : a.block ≠ b.block) (ha : w.heap[a.block]? = some (.cells xs T (0, 0))) (hb : w.heap[b.block]? = some (.cells ys U (0, 0))) :
    (sameAddr a b).run P w = .ok false w := by
  obtain ⟨ab, ao, av⟩ := a
  obtain ⟨bb, bo, bv⟩ := b
  have h3 := shape_row ha
  have h4 := shape_row hb
  simp only at hne ha hb h3 h4
  simp [sameAddr, hne, frozen_row ha, frozen_row hb, noView, viewAt, h3, h4, mayBeOne, stringish]
theorem run_sameAddr_same {w : World} {a b : Addr} (he : a.block = b.block) : (sameAddr a b).run P w = .ok (a == b) w := by
  simp [sameAddr, he]
theorem sl_R {b off len cap : Nat} {v : Value} (h : (SV.sl b off len cap).R pl v) : ∃ ad, addrOf pl b off = some ad ∧ v = .slice (some ad) len cap := by
  rcases h with h | h
  · cases h
  · simp only [SV.val] at h
    cases ha : addrOf pl b off with
    | none => simp [ha] at h
    | some ad => simp [ha] at h; exact ⟨ad, rfl, h.symm⟩
theorem nilp_R {v : Value} (h : SV.nilp.R pl v) : v = .pointer none := by
  rcases h with h | h
  · cases h
  · simpa [SV.val] using h.symm
def EqRun (P : Program) (t : Nat) (vx vy : Value) (r : Bool) (w : World) : Prop :=
  ∀ (op : BinOp) (x y : Operand), (op = .eql → (eqGuard op t x y vx vy).run P w = .ok () w ∧ (binOp op t vx vy).run P w = .ok (.bool r) w) ∧ (op = .neq → (eqGuard op t x y vx vy).run P w = .ok () w ∧ (binOp op t vx vy).run P w = .ok (.bool (!r)) w)
theorem eqRun_ptr {t : Nat} {o o' : Option Addr} {r : Bool} {w : World} (h : (Op.equal t (.pointer o) (.pointer o')).run P w = .ok r w) : EqRun P t (.pointer o) (.pointer o') r w := by
  intro op x y
  constructor
  · rintro rfl
    exact ⟨by simp [eqGuard], by simp [binOp, h]⟩
  · rintro rfl
    exact ⟨by simp [eqGuard], by simp [binOp, h]⟩
theorem eqRun_slice {t : Nat} {a a' : Option Addr} {n m n' m' : Nat} {r : Bool} {w : World} (h : (Op.equal t (.slice a n m) (.slice a' n' m')).run P w = .ok r w) : EqRun P t (.slice a n m) (.slice a' n' m') r w := by
  intro op x y
  constructor
  · rintro rfl
    exact ⟨by simp [eqGuard], by simp [binOp, h]⟩
  · rintro rfl
    exact ⟨by simp [eqGuard], by simp [binOp, h]⟩
theorem equalIn_nil1 {t e : Nat} (hu : P.underlying t = some (.pointer e)) (d : Nat) (b : Option Addr) (w : World) : (Op.equalIn (d + 1) t (.pointer none) (.pointer b)).run P w = .ok b.isNone w := by
  unfold Op.equalIn
  simp [run_underlying hu]
theorem equalIn_nil2 {t e : Nat} (hu : P.underlying t = some (.pointer e)) (d : Nat) (a : Addr) (w : World) : (Op.equalIn (d + 1) t (.pointer (some a)) (.pointer none)).run P w = .ok false w := by
  unfold Op.equalIn
  simp [run_underlying hu]
theorem equalIn_two {t e z : Nat} (hu : P.underlying t = some (.pointer e)) (hz : size? P e = some (z + 1)) (d : Nat) (a b : Addr) (w : World) : (Op.equalIn (d + 1) t (.pointer (some a)) (.pointer (some b))).run P w = (sameAddr a b).run P w := by
  unfold Op.equalIn
  simp [run_underlying hu, run_size hz]
theorem equalIn_sl1 {t e : Nat} (hu : P.underlying t = some (.slice e)) (d : Nat) (b : Option Addr) (n m n' m' : Nat) (w : World) : (Op.equalIn (d + 1) t (.slice none n m) (.slice b n' m')).run P w = .ok b.isNone w := by
  unfold Op.equalIn
  simp [run_underlying hu]
theorem equalIn_sl2 {t e : Nat} (hu : P.underlying t = some (.slice e)) (d : Nat) (a : Addr) (n m n' m' : Nat) (w : World) : (Op.equalIn (d + 1) t (.slice (some a) n m) (.slice none n' m')).run P w = .ok false w := by
  unfold Op.equalIn
  simp [run_underlying hu]
theorem equal_succ (t : Nat) (x y : Value) : Op.equal t x y = Op.equalIn (9999 + 1) t x y := rfl
theorem pEq_sound {t : Nat} {x y : SV} {r : Bool} (hp : pEq P t x y = some r) {vx vy : Value} (hx : x.R pl vx) (hy : y.R pl vy) (w : World) : EqRun P t vx vy r w := by
  unfold pEq at hp
  split at hp
  · rename_i e hu
    split at hp
    · cases hp
      rw [nilp_R hx, nilp_R hy]
      exact eqRun_ptr (by rw [equal_succ, equalIn_nil1 hu]; rfl)
    · cases hp
      obtain ⟨ad, had, hv⟩ := ptr_R hy
      rw [nilp_R hx, hv]
      exact eqRun_ptr (by rw [equal_succ, equalIn_nil1 hu]; rfl)
    · cases hp
      obtain ⟨ad, had, hv⟩ := ptr_R hx
      rw [nilp_R hy, hv]
      exact eqRun_ptr (by rw [equal_succ, equalIn_nil2 hu])
    · rename_i b o b' o'
      obtain ⟨ad, had, hv⟩ := ptr_R hx
      obtain ⟨ad', had', hv'⟩ := ptr_R hy
      rw [hv, hv']
      split at hp
      · rename_i z hz
        have key : (Op.equal t (.pointer (some ad)) (.pointer (some ad'))).run P w = (sameAddr ad ad').run P w := by
          rw [equal_succ, equalIn_two hu hz]
        unfold addrOf at had had'
        cases hb : pl[b]? with
        | none => simp [hb] at had
        | some p =>
          cases hb' : pl[b']? with
          | none => simp [hb'] at had'
          | some p' =>
            simp [hb] at had
            simp [hb'] at had'
            split at hp
            · rename_i hbb
              cases hp
              subst hbb
              rw [hb] at hb'
              cases hb'
              apply eqRun_ptr
              rw [key, run_sameAddr_same (by rw [← had, ← had'])]
              rw [← had, ← had']
              congr 1
              simp [BEq.beq]
            · cases hp
      · cases hp
    · cases hp
  · rename_i e hu
    split at hp
    · cases hp
      rw [nils_R hx, nils_R hy]
      exact eqRun_slice (by rw [equal_succ, equalIn_sl1 hu]; rfl)
    · cases hp
      obtain ⟨ad, had, hv⟩ := sl_R hy
      rw [nils_R hx, hv]
      exact eqRun_slice (by rw [equal_succ, equalIn_sl1 hu]; rfl)
    · cases hp
      obtain ⟨ad, had, hv⟩ := sl_R hx
      rw [nils_R hy, hv]
      exact eqRun_slice (by rw [equal_succ, equalIn_sl2 hu])
    · cases hp
  · cases hp
theorem ptrNe_sound (hI : InjB pl h) {t : Nat} {x y : SV} (hp : ptrNe P t h x y = true) {vx vy : Value} (hx : x.R pl vx) (hy : y.R pl vy) {w : World} (hw : HB pl h w) : EqRun P t vx vy false w := by
  unfold ptrNe at hp
  split at hp
  · rename_i e b o b' o' hu
    obtain ⟨ad, had, hv⟩ := ptr_R hx
    obtain ⟨ad', had', hv'⟩ := ptr_R hy
    rw [hv, hv']
    split at hp
    · rename_i z hz
      simp only [Bool.and_eq_true, decide_eq_true_eq] at hp
      have key : (Op.equal t (.pointer (some ad)) (.pointer (some ad'))).run P w = (sameAddr ad ad').run P w := by
        rw [equal_succ, equalIn_two hu hz]
      unfold addrOf at had had'
      cases hb : pl[b]? with
      | none => simp [hb] at had
      | some p =>
        cases hb' : pl[b']? with
        | none => simp [hb'] at had'
        | some p' =>
          simp [hb] at had
          simp [hb'] at had'
          obtain ⟨T, cs, h1⟩ := isRow_spec hp.1.2
          obtain ⟨T', cs', h2⟩ := isRow_spec hp.2
          rw [get?_eq] at h1 h2
          obtain ⟨vs, k1, k2⟩ := hw b _ p h1 hb
          obtain ⟨vs', k1', k2'⟩ := hw b' _ p' h2 hb'
          apply eqRun_ptr
          rw [key, run_sameAddr_rows (xs := vs.toArray) (ys := vs'.toArray) (T := T) (U := T')]
          · rw [← had, ← had']
            exact fun e => hp.1.1 (hI b b' p p' _ _ hb hb' h1 h2 rfl rfl e)
          · rw [← had]; exact k2
          · rw [← had']; exact k2'
    · cases hp
  · cases hp
theorem litB_R {x : AV} {n : Nat} (h : litB x = some n) {v : Value} (hv : x.R pl v) : ∃ k, v = .int k (n : Int) := by
  unfold litB at h
  split at h
  · rename_i k m
    split at h
    · rename_i hm
      cases h
      rw [con_R hv]
      exact ⟨k, by rw [Int.toNat_of_nonneg hm]⟩
    · cases h
  · cases h
theorem run_sliceBound {w : World} {k : IntKind} {i y : Nat} (h : i ≤ y) (code : BoundsCode) : (Instr.sliceBound (.int k (i : Int)) y code).run P w = .ok i w := by
  simp [Instr.sliceBound, asIntOf, h]
theorem bounds2_run {w : World} {ρ : Operand → Value} {lo hi : Option Operand} {len cap i j : Nat} {l : List AV} (isS : Bool) (hb : bounds2 lo.isSome hi.isSome len l = some (i, j)) (hij : i ≤ j) (hj : j ≤ cap) (hl : ArgsR pl l ((lo.toArray ++ hi.toArray).toList.map ρ)) :
    (Instr.sliceBounds isS len cap (lo.map ρ) (hi.map ρ) none).run P w = .ok (i, j, cap) w := by
  cases lo with
  | none =>
    cases hi with
    | none =>
      cases l with
      | nil => simp [bounds2] at hb; obtain ⟨rfl, rfl⟩ := hb; simp [Instr.sliceBounds]
      | cons a l => simp [bounds2] at hb
    | some y =>
      match l, hb, hl with
      | [b], hb, hl =>
        simp only [bounds2, Option.isSome] at hb
        split at hb
        · rename_i n hn
          cases hb
          obtain ⟨k, hv⟩ := litB_R hn hl.1
          have hv : ρ y = _ := hv
          simp [Instr.sliceBounds, hv, run_sliceBound hj]
        · cases hb
  | some x =>
    cases hi with
    | none =>
      match l, hb, hl with
      | [b], hb, hl =>
        simp only [bounds2, Option.isSome] at hb
        split at hb
        · rename_i n hn
          cases hb
          obtain ⟨k, hv⟩ := litB_R hn hl.1
          have hv : ρ x = _ := hv
          simp [Instr.sliceBounds, hv, run_sliceBound hij]
        · cases hb
    | some y =>
      match l, hb, hl with
      | [b, c], hb, hl =>
        simp only [bounds2, Option.isSome] at hb
        split at hb
        · rename_i n m hn hm
          cases hb
          obtain ⟨k, hv⟩ := litB_R hn hl.1
          obtain ⟨k', hv'⟩ := litB_R hm hl.2.1
          have hv : ρ x = _ := hv
          have hv' : ρ y = _ := hv'
          simp [Instr.sliceBounds, hv, hv', run_sliceBound hij, run_sliceBound hj]
        · cases hb
theorem intOf_R {x : AV} {n : Int} (h : intOf x = some n) {v : Value} (hv : x.R pl v) : ∃ k, v = .int k n := by
  unfold intOf at h
  split at h
  · cases h; exact ⟨_, con_R hv⟩
  · cases h; exact ⟨_, sym_R hv⟩
  · cases h
theorem boundsO_run {w : World} {ρ : Operand → Value} {lo hi : Option Operand} {len cap : Nat} {i j : Int} {l : List AV} (isS : Bool) (hb : boundsO lo.isSome hi.isSome len l = some (i, j)) (h0 : 0 ≤ i) (hij : i ≤ j) (hj : j ≤ (cap : Int)) (hl : ArgsR pl l ((lo.toArray ++ hi.toArray).toList.map ρ)) :
    (Instr.sliceBounds isS len cap (lo.map ρ) (hi.map ρ) none).run P w = .ok (i.toNat, j.toNat, cap) w := by
  obtain ⟨a, rfl⟩ : ∃ a : Nat, i = (a : Int) := ⟨i.toNat, (Int.toNat_of_nonneg h0).symm⟩
  obtain ⟨c, rfl⟩ : ∃ c : Nat, j = (c : Int) := ⟨j.toNat, (Int.toNat_of_nonneg (by omega)).symm⟩
  have hac : a ≤ c := by omega
  have hcc : c ≤ cap := by omega
  simp only [Int.toNat_natCast]
  cases lo with
  | none =>
    cases hi with
    | none =>
      cases l with
      | nil =>
        simp [boundsO] at hb
        obtain ⟨h1, h2⟩ := hb
        obtain rfl : a = 0 := by omega
        obtain rfl : len = c := by omega
        simp [Instr.sliceBounds]
      | cons a l => simp [boundsO] at hb
    | some y =>
      match l, hb, hl with
      | [b], hb, hl =>
        simp only [boundsO, Option.isSome] at hb
        split at hb
        · rename_i n hn
          simp only [Option.some.injEq, Prod.mk.injEq] at hb
          obtain ⟨h1, rfl⟩ := hb
          obtain rfl : a = 0 := by omega
          obtain ⟨k, hv⟩ := intOf_R hn hl.1
          have hv : ρ y = _ := hv
          simp [Instr.sliceBounds, hv, run_sliceBound hcc]
        · cases hb
  | some x =>
    cases hi with
    | none =>
      match l, hb, hl with
      | [b], hb, hl =>
        simp only [boundsO, Option.isSome] at hb
        split at hb
        · rename_i n hn
          simp only [Option.some.injEq, Prod.mk.injEq] at hb
          obtain ⟨rfl, h1⟩ := hb
          obtain rfl : len = c := by omega
          obtain ⟨k, hv⟩ := intOf_R hn hl.1
          have hv : ρ x = _ := hv
          simp [Instr.sliceBounds, hv, run_sliceBound hac]
        · cases hb
    | some y =>
      match l, hb, hl with
      | [b, c'], hb, hl =>
        simp only [boundsO, Option.isSome] at hb
        split at hb
        · rename_i n m hn hm
          simp only [Option.some.injEq, Prod.mk.injEq] at hb
          obtain ⟨rfl, rfl⟩ := hb
          obtain ⟨k, hv⟩ := intOf_R hn hl.1
          obtain ⟨k', hv'⟩ := intOf_R hm hl.2.1
          have hv : ρ x = _ := hv
          have hv' : ρ y = _ := hv'
          simp [Instr.sliceBounds, hv, hv', run_sliceBound hac, run_sliceBound hcc]
        · cases hb
theorem gives_iff {p : Prop} {x av : AV} (h : (OR.iff p x).gives av) : p ∧ av = x := by
  rcases h with h | ⟨q, h, hq⟩
  · cases h
  · injection h with h1 h2
    subst h1
    exact ⟨hq, h2.symm⟩
theorem strSlice_run {t : Nat} (hu : P.underlying t = some .string) {s : List UInt8} {lo hi : Option Operand} {i j : Int} {l : List AV} (hb : boundsO lo.isSome hi.isSome s.length l = some (i, j)) (h0 : 0 ≤ i) (hij : i ≤ j) (hj : j ≤ (s.length : Int)) {ρ : Operand → Value} (hl : ArgsR pl l ((lo.toArray ++ hi.toArray).toList.map ρ)) :
    ∃ v, (AV.v (.one (.str ((s.drop i.toNat).take (j - i).toNat)))).R pl v ∧ ∀ w, (Instr.sliceAt t (.string ⟨s.toArray⟩) (lo.map ρ) (hi.map ρ) none).run P w = .ok v w := by
  have hbd := fun w => boundsO_run (P := P) (w := w) (ρ := ρ) (cap := s.length) false hb h0 hij hj hl
  have hsz : (ByteArray.mk s.toArray).size = s.length := by simp [ByteArray.size]
  refine ⟨.string ⟨((s.drop i.toNat).take (j - i).toNat).toArray⟩, .inr rfl, fun w => ?_⟩
  have e : (j - i).toNat = j.toNat - i.toNat := by omega
  rw [e]
  simp [Instr.sliceAt, run_underlying hu, Instr.slice, hsz, hbd, ByteArray.extract_mk]
theorem sliceX_sound {t : Nat} {sx : SV} {lo hi : Option Operand} {l : List AV} {av : AV} (hq : (sliceX P t sx lo.isSome hi.isSome l).gives av) {vx : Value} (hx : sx.R pl vx) {ρ : Operand → Value} (hl : ArgsR pl l ((lo.toArray ++ hi.toArray).toList.map ρ)) :
    ∃ v, av.R pl v ∧ ∀ w, (Instr.sliceAt t vx (lo.map ρ) (hi.map ρ) none).run P w = .ok v w := by
  unfold sliceX at hq
  split at hq
  · rename_i e b off len cap hu
    split at hq
    · rename_i z i j hz hb
      split at hq
      · rename_i hij
        rw [gives_ok hq]
        obtain ⟨ad, had, rfl⟩ := sl_R hx
        have hbd := fun w => bounds2_run (P := P) (w := w) (ρ := ρ) (cap := cap) true hb hij.1 hij.2 hl
        refine ⟨.slice (some (if cap = i then ad else ad.add (i * z))) (j - i) (cap - i), ?_, fun w => ?_⟩
        · refine .inr ?_
          by_cases hc : cap = i
          · simp [SV.val, hc, had]
          · simp [SV.val, hc, addrOf_add had]
        · simp only [Instr.sliceAt, run_underlying hu, Instr.slice, hbd, run_size hz, Sem.run_bind, Result.andThen_ok, Sem.run_pure]
          split <;> rfl
      · exact (gives_fail hq).elim
    · exact (gives_fail hq).elim
  · rename_i e hu
    split at hq
    · rename_i z hz hb
      rw [gives_ok hq]
      have hbd := fun w => bounds2_run (P := P) (w := w) (ρ := ρ) (cap := 0) true hb (Nat.le_refl 0) (Nat.le_refl 0) hl
      rw [nils_R hx]
      refine ⟨.slice none 0 0, .inr rfl, fun w => ?_⟩
      simp [Instr.sliceAt, run_underlying hu, Instr.slice, hbd, run_size hz]
    · exact (gives_fail hq).elim
  · rename_i n e b off hu
    split at hq
    · rename_i z i j hz hb
      split at hq
      · rename_i hij
        rw [gives_ok hq]
        obtain ⟨ad, had, rfl⟩ := ptr_R hx
        have hbd := fun w => bounds2_run (P := P) (w := w) (ρ := ρ) (cap := n) false hb hij.1 hij.2 hl
        refine ⟨.slice (some (if n = i then ad else ad.add (i * z))) (j - i) (n - i), ?_, fun w => ?_⟩
        · refine .inr ?_
          by_cases hc : n = i
          · simp [SV.val, hc, had]
          · simp [SV.val, hc, addrOf_add had]
        · simp only [Instr.sliceAt, run_underlying hu, Instr.sureAddr, hbd, run_size hz, Sem.run_bind, Result.andThen_ok, Sem.run_pure]
      · exact (gives_fail hq).elim
    · exact (gives_fail hq).elim
  · rename_i s hu
    split at hq
    · rename_i i j hb
      split at hq
      · rename_i hij
        rw [gives_ok hq]
        rw [cstr_R hx]
        rw [len'_eq] at hij hb
        have hbd := fun w => bounds2_run (P := P) (w := w) (ρ := ρ) (cap := s.length) false hb hij.1 hij.2 hl
        refine ⟨.string ⟨((s.drop i).take (j - i)).toArray⟩, .inr (by simp [SV.val, takeN_eq, dropN_eq]), fun w => ?_⟩
        have hsz : (ByteArray.mk s.toArray).size = s.length := by simp [ByteArray.size]
        simp [Instr.sliceAt, run_underlying hu, Instr.slice, hsz, hbd, ByteArray.extract_mk]
      · exact (gives_fail hq).elim
    · split at hq
      · rename_i i j hb
        rw [len'_eq] at hb
        obtain ⟨⟨h0, hij, hj⟩, rfl⟩ := gives_iff hq
        rw [cstr_R hx]
        exact strSlice_run hu hb h0 hij hj hl
      · exact (gives_fail hq).elim
  · rename_i s hu
    split at hq
    · rename_i i j hb
      obtain ⟨⟨h0, hij, hj⟩, rfl⟩ := gives_iff hq
      rw [str_R hx]
      exact strSlice_run hu hb h0 hij hj hl
    · exact (gives_fail hq).elim
  · exact (gives_fail hq).elim
theorem min2X_sound {mx : Bool} {x y : AV} {av : AV} (hq : (min2X mx x y).gives av) {vx vy : Value} (hx : x.R pl vx) (hy : y.R pl vy) :
    ∃ v, av.R pl v ∧ ∀ w, (if mx then Builtin.max2 vx vy else Builtin.min2 vx vy).run P w = .ok v w := by
  unfold min2X at hq
  split at hq
  all_goals first
    | exact (gives_fail hq).elim
    | (split at hq
       · rw [gives_ok hq]
         refine ⟨_, mkI_R pl _ _ _, fun w => ?_⟩
         first
         | rw [con_R hx, con_R hy]
         | rw [con_R hx, sym_R hy]
         | rw [sym_R hx, con_R hy]
         | rw [sym_R hx, sym_R hy]
         cases mx <;> simp [Builtin.max2, Builtin.min2]
       · exact (gives_fail hq).elim)
theorem bltX_sound {f : Builtin} {args : List Operand} {ts : List Nat} {l : List AV} {av : AV} {ρ : Operand → Value} (hl : ArgsR pl l (args.map ρ)) (hq : (bltX P f ts l).gives av) :
    ∃ v, av.R pl v ∧ ∀ (w : World) (ty : Nat) (cs : Array Bool), (builtin f ts.toArray ty cs (args.map ρ).toArray).run P w = .ok (.value v) w := by
  unfold bltX at hq
  split at hq
  · rename_i t x
    match args, hl with
    | [o], hl =>
      have hx := hl.1
      split at hq
      · rename_i b off len cap hu he
        rw [gives_ok hq]
        obtain ⟨ad, had, hv⟩ := sl_R hx
        exact ⟨_, mkI_R pl true .i64 _, fun w ty cs => by simp [builtin, Builtin.cap_, run_underlying hu, hv, goInt]⟩
      · rename_i hu he
        rw [gives_ok hq]
        have hv := nils_R hx
        exact ⟨_, mkI_R pl true .i64 _, fun w ty cs => by simp [builtin, Builtin.cap_, run_underlying hu, hv, goInt]⟩
      · exact (gives_fail hq).elim
  · rename_i t x
    match args, hl with
    | [o], hl =>
      have hx := hl.1
      split at hq
      · rename_i b off len cap hu he
        rw [gives_ok hq]
        obtain ⟨ad, had, hv⟩ := sl_R hx
        exact ⟨_, mkI_R pl true .i64 _, fun w ty cs => by simp [builtin, Builtin.len_, run_underlying hu, hv, goInt]⟩
      · exact (gives_fail hq).elim
  · rename_i t t' x y
    match args, hl with
    | [o, o'], hl =>
      obtain ⟨v, g1, g2⟩ := min2X_sound (P := P) hq hl.1 hl.2.1
      refine ⟨v, g1, fun w ty cs => ?_⟩
      have := g2 w
      simp at this
      simp [builtin, Builtin.min_, this]
  · rename_i t t' x y
    match args, hl with
    | [o, o'], hl =>
      obtain ⟨v, g1, g2⟩ := min2X_sound (P := P) hq hl.1 hl.2.1
      refine ⟨v, g1, fun w ty cs => ?_⟩
      have := g2 w
      simp at this
      simp [builtin, Builtin.max_, this]
  · exact (gives_fail hq).elim
theorem qop1_sound {env : Env} {a : Act} (hE : EnvR pl env a.tmps) (o : Oper) {av : AV} (hq : (qop1 P o.op (evs env o.op.operands.toList)).gives av) : QS P pl h o a av := by
  have hev := evs_R hE o.op.operands.toList
  unfold QS
  unfold qop1 at hq
  split at hq
  · rename_i op t x t' sb ho hl
    rw [hl, ho] at hev
    have hx : a.eval x = .nilIface := by
      rcases hev.1 with h | h
      · cases h
      · simpa [SV.val] using h.symm
    unfold nilX at hq
    have he : ∀ w, (Op.equal t .nilIface .nilIface).run P w = .ok true w ∨ ¬ ∃ ms, P.underlying t = some (.interface ms) := fun w => by
      by_cases h : ∃ ms, P.underlying t = some (.interface ms)
      · obtain ⟨ms, h⟩ := h
        have key : ∀ d, (Op.equalIn (d + 1) t .nilIface .nilIface).run P w = .ok true w := fun d => by simp [Op.equalIn, run_underlying h]
        exact .inl (by rw [equal_succ]; exact key 9999)
      · exact .inr h
    split at hq
    · rename_i ms hu
      rw [gives_ok hq]
      refine ⟨.bool true, fun w hw => ⟨mkB_R pl true true, ?_⟩⟩
      have h1 := (he w).resolve_right (fun h => h ⟨ms, hu⟩)
      have h2 : (eqGuard .eql t x (.const .nilIface) .nilIface .nilIface).run P w = .ok () w := by rw [eqGuard_nil_constR]; rfl
      have h3 : (binOp .eql t .nilIface .nilIface).run P w = .ok (.bool true) w := by simp only [binOp]; simp [h1]
      have h4 : a.eval (.const .nilIface) = .nilIface := rfl
      unfold execOp
      simp [ho, hx, h4, h2, h3]
    · rename_i ms hu
      rw [gives_ok hq]
      refine ⟨.bool false, fun w hw => ⟨mkB_R pl true false, ?_⟩⟩
      have h1 := (he w).resolve_right (fun h => h ⟨ms, hu⟩)
      have h2 : (eqGuard .neq t x (.const .nilIface) .nilIface .nilIface).run P w = .ok () w := by rw [eqGuard_nil_constR]; rfl
      have h3 : (binOp .neq t .nilIface .nilIface).run P w = .ok (.bool false) w := by simp only [binOp]; simp [h1]
      have h4 : a.eval (.const .nilIface) = .nilIface := rfl
      unfold execOp
      simp [ho, hx, h4, h2, h3]
    · exact (gives_fail hq).elim
  · rename_i op t x y t' sa sb _ ho hl
    rw [hl, ho] at hev
    have hx : sa.R pl (a.eval x) := hev.1
    have hy : sb.R pl (a.eval y) := hev.2.1
    split at hq
    · split at hq
      · rename_i r hr
        rw [gives_ok hq]
        refine ⟨.bool r, fun w hw => ⟨mkB_R pl true r, ?_⟩⟩
        have := (pEq_sound (P := P) hr hx hy w .eql x y).1 rfl
        unfold execOp
        simp [ho, this.1, this.2]
      · exact (gives_fail hq).elim
    · split at hq
      · rename_i r hr
        rw [gives_ok hq]
        refine ⟨.bool (!r), fun w hw => ⟨mkB_R pl true (!r), ?_⟩⟩
        have := (pEq_sound (P := P) hr hx hy w .neq x y).2 rfl
        unfold execOp
        simp [ho, this.1, this.2]
      · exact (gives_fail hq).elim
    · exact (gives_fail hq).elim
  · rename_i t x lo hi sx l ho hl
    rw [hl, ho] at hev
    have e : (Op.slice t x lo hi none).operands.toList = x :: (lo.toArray ++ hi.toArray).toList := by simp [Op.operands]
    rw [e] at hev
    obtain ⟨v, g1, g2⟩ := sliceX_sound hq hev.1 hev.2
    refine ⟨v, fun w _ => ⟨g1, ?_⟩⟩
    unfold execOp
    simp [ho, g2]
  · rename_i s d x k n ho hl
    rw [hl, ho] at hev
    have hx := con_R (show (AV.v (.one (.con k n))).R pl (a.eval x) from hev.1)
    split at hq
    · rename_i k' hs hd
      rw [gives_ok hq]
      refine ⟨.string (Utf8.encode n), fun w _ => ⟨.inr rfl, ?_⟩⟩
      unfold execOp
      simp [ho, hx, convert, run_underlying hs, run_underlying hd, Conv.intToString]
    · exact (gives_fail hq).elim
  · rename_i s d x k n ho hl
    rw [hl, ho] at hev
    have hx := sym_R (show (AV.v (.one (.sym k n))).R pl (a.eval x) from hev.1)
    split at hq
    · rename_i k' hs hd
      rw [gives_ok hq]
      refine ⟨.string (Utf8.encode n), fun w _ => ⟨.inr rfl, ?_⟩⟩
      unfold execOp
      simp [ho, hx, convert, run_underlying hs, run_underlying hd, Conv.intToString]
    · exact (gives_fail hq).elim
  · rename_i t x i b off len cap k j ho hl
    rw [hl, ho] at hev
    obtain ⟨ad, had, hv⟩ := sl_R (show (SV.sl b off len cap).R pl (a.eval x) from hev.1)
    have hj := con_R (show (AV.v (.one (.con k j))).R pl (a.eval i) from hev.2.1)
    split at hq
    · rename_i e hu
      split at hq
      · rename_i z hz
        split at hq
        · rename_i hb
          rw [gives_ok hq]
          refine ⟨.pointer (some (ad.add (j.toNat * z))), fun w _ => ⟨.inr (by simp [SV.val, addrOf_add had]), ?_⟩⟩
          unfold execOp
          simp [ho, hv, hj, Instr.indexAt, asIntOf, run_underlying hu, hb, run_size hz]
        · exact (gives_fail hq).elim
      · exact (gives_fail hq).elim
    · exact (gives_fail hq).elim
  · rename_i f args ts ho
    rw [ho] at hev
    have e : (Op.call { callee := .builtin f, args := args, argTypes := ts }).operands.toList = args.toList := by simp [Op.operands, Call.operands]
    rw [e] at hev
    rw [ho, e] at hq
    obtain ⟨v, g1, g2⟩ := bltX_sound hev hq
    refine ⟨v, fun w _ => ⟨g1, ?_⟩⟩
    unfold execOp
    have := g2 w o.type (args.map fun | .const _ => true | _ => false)
    rw [show (List.map a.eval args.toList).toArray = args.map a.eval from by apply Array.ext'; simp, Array.toArray_toList] at this
    simp [ho, resolve, invoke]
    exact this
  · exact (gives_fail hq).elim
theorem orElse_gives {r s : OR} {av : AV} (h : (orElse r s).gives av) : r.gives av ∨ s.gives av := by
  cases r with
  | fail => exact .inr h
  | ok v => exact .inl h
  | iff p v => exact .inl h
theorem kOR_E {env : Env} {o : Op} {K : AV → Prop} (hk : kOR (qop P env h o) K) : kOR (qopE P env h o) K := by
  unfold qopE
  cases hr : qop P env h o with
  | fail => rw [hr] at hk; exact hk.elim
  | ok v => rw [hr] at hk; exact hk
  | iff p v => rw [hr] at hk; exact hk
theorem qop_sound {env : Env} {a : Act} (hE : EnvR pl env a.tmps) (o : Oper) {av : AV} (hq : (qop P env h o.op).gives av) : QS P pl h o a av := by
  rcases orElse_gives hq with hq | hq
  · exact qop0_sound hE o hq
  · exact qop1_sound hE o hq
theorem qopE_sound (hI : InjB pl h) {env : Env} {a : Act} (hE : EnvR pl env a.tmps) (o : Oper) {av : AV} (hq : (qopE P env h o.op).gives av) : QS P pl h o a av := by
  rcases orElse_gives hq with hq | hq
  · exact qop_sound hE o hq
  · have hev := evs_R hE o.op.operands.toList
    unfold QS
    unfold qop2 at hq
    split at hq
    · rename_i op t x y t' sa sb ho hl
      rw [hl, ho] at hev
      have hx : sa.R pl (a.eval x) := hev.1
      have hy : sb.R pl (a.eval y) := hev.2.1
      split at hq
      · split at hq
        · rename_i hr
          rw [gives_ok hq]
          refine ⟨.bool false, fun w hw => ⟨mkB_R pl true false, ?_⟩⟩
          have := (ptrNe_sound hI hr hx hy hw .eql x y).1 rfl
          unfold execOp
          simp [ho, this.1, this.2]
        · exact (gives_fail hq).elim
      · split at hq
        · rename_i hr
          rw [gives_ok hq]
          refine ⟨.bool true, fun w hw => ⟨mkB_R pl true true, ?_⟩⟩
          have := (ptrNe_sound hI hr hx hy hw .neq x y).2 rfl
          unfold execOp
          simp [ho, this.1, this.2]
        · exact (gives_fail hq).elim
      · exact (gives_fail hq).elim
    · rename_i t x lo hi b esz st len l ho' hl
      rw [hl, ho'] at hev
      have e : (Op.slice t x lo hi none).operands.toList = x :: (lo.toArray ++ hi.toArray).toList := by simp [Op.operands]
      rw [e] at hev
      split at hq
      · rename_i e hu
        split at hq
        · rename_i T z n cs i j hg hb
          split at hq
          · rename_i hc
            obtain ⟨hz, hij, hj, hn, h0, hz0, hi⟩ := hc
            rw [gives_ok hq]
            obtain ⟨p, hp, hv⟩ := ow_R' (show (AV.v (.one (.ow b esz st len true))).R pl (a.eval x) from hev.1)
            rw [get?_eq] at hg
            refine ⟨.slice (some (if p.cap - st = i then ⟨p.blk, (if len = 0 ∧ p.cap = st then 0 else st * esz), none⟩ else (⟨p.blk, (if len = 0 ∧ p.cap = st then 0 else st * esz), none⟩ : Addr).add (i * esz))) (j - i) (p.cap - st - i), fun w hw => ?_⟩
            obtain ⟨vs, hr, ho⟩ := hw b _ p hg hp
            have hcap : p.nil = false → n ≤ p.cap := fun hpn => by
              rcases ho.2 with ⟨h1, _⟩ | ⟨g, cap, cur, h1, _, _, h3, _⟩
              · simp [Pl.sv, hpn] at h1
              · simp only [Pl.sv, hpn, Bool.false_eq_true, if_false, Value.slice.injEq] at h1
                omega
            have hpn : p.nil = false := by
              cases hpn : p.nil with
              | false => rfl
              | true =>
                rcases ho.2 with ⟨_, h1⟩ | ⟨g, cap, cur, h1, _⟩
                · omega
                · simp [Pl.sv, hpn] at h1
            have hcap := hcap hpn
            rcases hv with ⟨h1, _⟩ | ⟨_, hv⟩
            · rw [hpn] at h1; cases h1
            have hbd := bounds2_run (P := P) (w := w) (ρ := a.eval) (cap := p.cap - st) true hb hij (by omega) hev.2
            refine ⟨.inr ?_, ?_⟩
            · simp only [SV.val, owVal, hp, hpn, Bool.false_eq_true, if_false]
              rw [Nat.sub_sub]
              by_cases hci : p.cap - st = i
              · rw [if_pos hci]
                by_cases hs0 : st = 0
                · subst hs0
                  simp [show j - i = 0 by omega, show p.cap = i by omega]
                · have : i = 0 := by omega
                  subst this
                  simp [show j = 0 by omega, show len = 0 by omega]
              · rw [if_neg hci, Addr.add_lit, Nat.add_mul]
                by_cases hl0 : len = 0 ∧ p.cap = st
                · omega
                · rw [if_neg hl0, if_neg (show ¬(j - i = 0 ∧ p.cap = st + i) by omega)]
            · unfold execOp
              simp only [ho', hv]
              simp [Instr.sliceAt, run_underlying hu, Instr.slice, hbd, run_size hz]
              by_cases hci : p.cap - st = i
              · rw [if_pos hci, if_pos hci]
              · rw [if_neg hci, if_neg hci]
          · exact (gives_fail hq).elim
        · exact (gives_fail hq).elim
      · exact (gives_fail hq).elim
    · rename_i t x lo hi b esz st len l ho' hl
      rw [hl, ho'] at hev
      have e : (Op.slice t x lo hi none).operands.toList = x :: (lo.toArray ++ hi.toArray).toList := by simp [Op.operands]
      rw [e] at hev
      split at hq
      · rename_i e hu
        split at hq
        · rename_i T C xs i j hg hb
          split at hq
          · rename_i hc
            obtain ⟨hz, hce, hz0⟩ := hc
            rcases hq with hq | ⟨q, hq, hpre⟩
            · cases hq
            injection hq with e1 e2
            rw [← e1] at hpre
            subst e2
            obtain ⟨h0, hij, hj, hn, hi⟩ := hpre
            obtain ⟨p, hp, hv⟩ := ow_R' (show (AV.v (.one (.ow b esz st len false))).R pl (a.eval x) from hev.1)
            rw [get?_eq] at hg
            cases hpn : p.nil with
            | true =>
              rcases hv with ⟨_, rfl, rfl, hv⟩ | ⟨h1, _⟩
              · obtain rfl : i = 0 := by omega
                obtain rfl : j = 0 := by omega
                refine ⟨.slice none 0 0, fun w hw => ⟨.inr ?_, ?_⟩⟩
                · simp [SV.val, owVal, hp, hpn]
                · have hbd := boundsO_run (P := P) (w := w) (ρ := a.eval) (cap := 0) true hb (by omega) (by omega) (by omega) hev.2
                  unfold execOp
                  simp only [ho', hv]
                  simp [Instr.sliceAt, run_underlying hu, Instr.slice, hbd, run_size hz]
              · rw [hpn] at h1; cases h1
            | false =>
              refine ⟨.slice (some (if p.cap - st = i.toNat then ⟨p.blk, (if len = 0 ∧ p.cap = st then 0 else st * esz), none⟩ else (⟨p.blk, (if len = 0 ∧ p.cap = st then 0 else st * esz), none⟩ : Addr).add (i.toNat * esz))) (j.toNat - i.toNat) (p.cap - st - i.toNat), fun w hw => ?_⟩
              obtain ⟨vs, hr, ho⟩ := hw b _ p hg hp
              have hcap : xs.length ≤ p.cap := by
                rcases ho.2 with ⟨h1, _⟩ | ⟨g, cap, cur, h1, _, _, h3, _⟩
                · simp [Pl.sv, hpn] at h1
                · simp only [Pl.sv, hpn, Bool.false_eq_true, if_false, Value.slice.injEq] at h1
                  omega
              rcases hv with ⟨h1, _⟩ | ⟨_, hv⟩
              · rw [hpn] at h1; cases h1
              have hbd := boundsO_run (P := P) (w := w) (ρ := a.eval) (cap := p.cap - st) true hb h0 hij (by omega) hev.2
              refine ⟨.inr ?_, ?_⟩
              · simp only [SV.val, owVal, hp, hpn, Bool.false_eq_true, if_false]
                rw [Nat.sub_sub, show (j - i).toNat = j.toNat - i.toNat by omega]
                by_cases hci : p.cap - st = i.toNat
                · rw [if_pos hci]
                  by_cases hs0 : st = 0
                  · subst hs0
                    simp [show j.toNat - i.toNat = 0 by omega, show p.cap = i.toNat by omega]
                  · have : i = 0 := by omega
                    subst this
                    simp [show j = 0 by omega, show len = 0 by omega]
                · rw [if_neg hci, Addr.add_lit, Nat.add_mul]
                  by_cases hl0 : len = 0 ∧ p.cap = st
                  · omega
                  · rw [if_neg hl0, if_neg (show ¬(j.toNat - i.toNat = 0 ∧ p.cap = st + i.toNat) by omega)]
              · unfold execOp
                simp only [ho', hv]
                simp [Instr.sliceAt, run_underlying hu, Instr.slice, hbd, run_size hz]
                by_cases hci : p.cap - st = i.toNat
                · rw [if_pos hci, if_pos hci]
                · rw [if_neg hci, if_neg hci]
          · exact (gives_fail hq).elim
        · exact (gives_fail hq).elim
      · exact (gives_fail hq).elim
    · exact (gives_fail hq).elim
end
end Go.AM
