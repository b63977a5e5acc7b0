import Derived.Test.YtcinopdklobldaaGreatDoorAMDef
import Derived.Deep.MidRow
/- The relation between the abstract machine's states and the model's; the quiet operations are what they are told to be. -/
namespace Go.AM
open Go

def PV.R (pl : List Pl) : PV → Value → Prop
  | .one s, v => s.R pl v
  | .agg l, v => ∃ vs : List Value, v = .agg vs.toArray ∧ RL pl l vs
def PL (pl : List Pl) : List PV → List Value → Prop
  | [], [] => True
  | s :: l, v :: vs => s.R pl v ∧ PL pl l vs
  | _, _ => False
def AV.R (pl : List Pl) : AV → Value → Prop
  | .v p, x => p.R pl x
  | .tup l, x => ∃ vs : List Value, x = .tuple vs.toArray ∧ PL pl l vs

def PExt (pl pl' : List Pl) : Prop := ∀ (b : Nat) p, pl[b]? = some p → pl'[b]? = some p
theorem PExt.refl (pl : List Pl) : PExt pl pl := fun _ _ h => h
theorem PExt.trans {a b c : List Pl} (h : PExt a b) (k : PExt b c) : PExt a c := fun i p hp => k i p (h i p hp)
theorem PExt.push (pl : List Pl) (p : Pl) : PExt pl (pl ++ [p]) := fun b q h => by
  rw [List.getElem?_append_left ((List.getElem?_eq_some_iff.1 h).1)]; exact h

theorem addrOf_ext {pl pl' : List Pl} (h : PExt pl pl') {b off : Nat} {a : Addr} (ha : addrOf pl b off = some a) : addrOf pl' b off = some a := by
  unfold addrOf at *
  cases hp : pl[b]? with
  | none => rw [hp] at ha; cases ha
  | some p => rw [h b p hp]; rw [hp] at ha; exact ha
theorem capVals_ext {pl pl' : List Pl} (h : PExt pl pl') : ∀ {l : List (Nat × Nat)} {vs : List Value}, capVals pl l = some vs → capVals pl' l = some vs
  | [], _, hv => hv
  | (b, o) :: l, vs, hv => by
    simp only [capVals] at *
    cases ha : addrOf pl b o with
    | none => simp [ha] at hv
    | some a =>
      cases hc : capVals pl l with
      | none => simp [hc] at hv
      | some r => rw [addrOf_ext h ha, capVals_ext h hc]; simpa [ha, hc] using hv
theorem owVal_ext {pl pl' : List Pl} (h : PExt pl pl') {b esz st len : Nat} {v : Value} (hv : owVal pl b esz st len = some v) : owVal pl' b esz st len = some v := by
  unfold owVal at *
  cases hp : pl[b]? with
  | none => rw [hp] at hv; cases hv
  | some p => rw [h b p hp]; rw [hp] at hv; exact hv
theorem SV.val_ext {pl pl' : List Pl} (h : PExt pl pl') {s : SV} {v : Value} (hv : s.val pl = some v) : s.val pl' = some v := by
  cases s <;> simp only [SV.val] at * <;> try exact hv
  case ptr b off => cases ha : addrOf pl b off with
    | none => simp [ha] at hv
    | some a => rw [addrOf_ext h ha]; simpa [ha] using hv
  case sl b off len cap => cases ha : addrOf pl b off with
    | none => simp [ha] at hv
    | some a => rw [addrOf_ext h ha]; simpa [ha] using hv
  case ifp t b off => cases ha : addrOf pl b off with
    | none => simp [ha] at hv
    | some a => rw [addrOf_ext h ha]; simpa [ha] using hv
  case ow b esz st len lit => exact owVal_ext h hv
  case mp b => cases hp : pl[b]? with
    | none => simp [hp] at hv
    | some p => rw [h b p hp]; simpa [hp] using hv
  case pe b esz idx sub => cases ha : addrOf pl b (idx * esz + sub) with
    | none => simp [ha] at hv
    | some a => rw [addrOf_ext h ha]; simpa [ha] using hv
  case fn f cap => cases ha : capVals pl cap with
    | none => simp [ha] at hv
    | some a => rw [capVals_ext h ha]; simpa [ha] using hv
theorem SV.R.ext {pl pl' : List Pl} (h : PExt pl pl') {s : SV} {v : Value} (hv : s.R pl v) : s.R pl' v := hv.imp id (SV.val_ext h)
theorem RL.ext {pl pl' : List Pl} (h : PExt pl pl') : ∀ {l : List SV} {vs : List Value}, RL pl l vs → RL pl' l vs
  | [], [], _ => trivial
  | [], _ :: _, hv => hv.elim
  | _ :: _, [], hv => hv.elim
  | _ :: _, _ :: _, hv => ⟨hv.1.ext h, RL.ext h hv.2⟩
theorem PV.R.ext {pl pl' : List Pl} (h : PExt pl pl') {p : PV} {v : Value} (hv : p.R pl v) : p.R pl' v := by
  cases p with
  | one s => exact SV.R.ext h hv
  | agg l => obtain ⟨vs, h1, h2⟩ := hv; exact ⟨vs, h1, h2.ext h⟩
theorem PL.ext {pl pl' : List Pl} (h : PExt pl pl') : ∀ {l : List PV} {vs : List Value}, PL pl l vs → PL pl' l vs
  | [], [], _ => trivial
  | [], _ :: _, hv => hv.elim
  | _ :: _, [], hv => hv.elim
  | _ :: _, _ :: _, hv => ⟨hv.1.ext h, PL.ext h hv.2⟩
theorem AV.R.ext {pl pl' : List Pl} (h : PExt pl pl') {p : AV} {v : Value} (hv : p.R pl v) : p.R pl' v := by
  cases p with
  | v p => exact PV.R.ext h hv
  | tup l => obtain ⟨vs, h1, h2⟩ := hv; exact ⟨vs, h1, h2.ext h⟩

/- the list functions -/
theorem get?_eq {α : Type _} : ∀ (l : List α) (n : Nat), get? l n = l[n]?
  | [], _ => rfl
  | _ :: _, 0 => rfl
  | _ :: l, n + 1 => by simp [get?, get?_eq l n]
theorem getD_eq {α : Type _} (d : α) : ∀ (l : List α) (n : Nat), getD l n d = (l[n]?).getD d
  | [], _ => rfl
  | _ :: _, 0 => rfl
  | _ :: l, n + 1 => by simp [getD, getD_eq d l n]
theorem set_eq {α : Type _} (x : α) : ∀ (l : List α) (n : Nat), set l n x = l.set n x
  | [], _ => rfl
  | _ :: _, 0 => rfl
  | _ :: l, n + 1 => by simp [set, set_eq x l n]
theorem len'_eq {α : Type _} : ∀ (l : List α), len' l = l.length
  | [] => rfl
  | _ :: l => by simp [len', len'_eq l]
theorem app_eq {α : Type _} : ∀ (l m : List α), app l m = l ++ m
  | [], _ => rfl
  | _ :: l, m => by simp [app, app_eq l m]
theorem takeN_eq {α : Type _} : ∀ (n : Nat) (l : List α), takeN n l = l.take n
  | 0, _ => rfl
  | _ + 1, [] => rfl
  | n + 1, _ :: l => by simp [takeN, takeN_eq n l]
theorem dropN_eq {α : Type _} : ∀ (n : Nat) (l : List α), dropN n l = l.drop n
  | 0, _ => rfl
  | _ + 1, [] => rfl
  | n + 1, _ :: l => by simp [dropN, dropN_eq n l]

theorem RL.length {pl : List Pl} : ∀ {l : List SV} {vs : List Value}, RL pl l vs → l.length = vs.length
  | [], [], _ => rfl
  | [], _ :: _, hv => hv.elim
  | _ :: _, [], hv => hv.elim
  | _ :: _, _ :: _, hv => by simp [RL.length hv.2]
theorem RL.get {pl : List Pl} : ∀ {l : List SV} {vs : List Value} {n : Nat} {s : SV}, RL pl l vs → l[n]? = some s → ∃ v, vs[n]? = some v ∧ s.R pl v
  | [], [], _, _, _, h => by simp at h
  | [], _ :: _, _, _, hv, _ => hv.elim
  | _ :: _, [], _, _, hv, _ => hv.elim
  | _ :: _, v :: _, 0, _, hv, h => ⟨v, rfl, by simp at h; subst h; exact hv.1⟩
  | _ :: _, _ :: _, n + 1, _, hv, h => by simp at h ⊢; exact RL.get hv.2 h
theorem PL.get {pl : List Pl} : ∀ {l : List PV} {vs : List Value} {n : Nat} {s : PV}, PL pl l vs → l[n]? = some s → ∃ v, vs[n]? = some v ∧ s.R pl v
  | [], [], _, _, _, h => by simp at h
  | [], _ :: _, _, _, hv, _ => hv.elim
  | _ :: _, [], _, _, hv, _ => hv.elim
  | _ :: _, v :: _, 0, _, hv, h => ⟨v, rfl, by simp at h; subst h; exact hv.1⟩
  | _ :: _, _ :: _, n + 1, _, hv, h => by simp at h ⊢; exact PL.get hv.2 h
theorem RL.drop {pl : List Pl} : ∀ {l : List SV} {vs : List Value} (n : Nat), RL pl l vs → RL pl (dropN n l) (vs.drop n)
  | _, _, 0, hv => by simpa [dropN] using hv
  | [], [], n + 1, _ => trivial
  | [], _ :: _, _ + 1, hv => hv.elim
  | _ :: _, [], _ + 1, hv => hv.elim
  | _ :: _, _ :: _, n + 1, hv => by simpa [dropN] using RL.drop n hv.2
theorem RL.takeE {pl : List Pl} : ∀ {n : Nat} {l r : List SV} {vs : List Value}, RL pl l vs → takeE n l = some r → RL pl r (vs.take n) ∧ n ≤ vs.length
  | 0, _, r, vs, hv, h => by simp [AM.takeE] at h; subst h; exact ⟨by simp [RL], Nat.zero_le _⟩
  | n + 1, [], _, _, _, h => by simp [AM.takeE] at h
  | _ + 1, _ :: _, _, [], hv, _ => hv.elim
  | n + 1, s :: l, r, v :: vs, hv, h => by
    simp only [AM.takeE] at h
    cases ht : AM.takeE n l with
    | none => simp [ht] at h
    | some r' =>
      simp [ht] at h
      subst h
      have ⟨h1, h2⟩ := RL.takeE hv.2 ht
      exact ⟨by simpa [RL] using ⟨hv.1, h1⟩, by simp; omega⟩
theorem over_spec {pl : List Pl} : ∀ {n : Nat} {l ys r : List SV} {vs us : List Value}, RL pl l vs → RL pl ys us → over l n ys = some r →
    RL pl r (vs.take n ++ us ++ vs.drop (n + us.length)) ∧ n + us.length ≤ vs.length
  | 0, l, [], r, vs, [], hv, _, h => by
    cases l <;> simp [over] at h <;> subst h <;> exact ⟨by simpa using hv, by simp⟩
  | _, _, [], _, _, _ :: _, _, hu, _ => hu.elim
  | _, _, _ :: _, _, _, [], _, hu, _ => hu.elim
  | 0, [], y :: ys, _, _, _, _, _, h => by simp [over] at h
  | n + 1, [], _, _, _, _, _, _, h => by simp [over] at h
  | _, _ :: _, _, _, [], _, hv, _, _ => hv.elim
  | 0, s :: l, y :: ys, r, v :: vs, u :: us, hv, hu, h => by
    simp only [over] at h
    cases ho : over l 0 ys with
    | none => simp [ho] at h
    | some r' =>
      simp [ho] at h
      subst h
      have ⟨h1, h2⟩ := over_spec hv.2 hu.2 ho
      refine ⟨?_, by simp at h2 ⊢; omega⟩
      simp only [Nat.zero_add, List.take_zero, List.nil_append, List.length_cons] at h1 ⊢
      exact ⟨hu.1, by simpa [Nat.add_comm] using h1⟩
  | n + 1, s :: l, ys, r, v :: vs, us, hv, hu, h => by
    simp only [over] at h
    cases ho : over l n ys with
    | none => simp [ho] at h
    | some r' =>
      simp [ho] at h
      subst h
      have ⟨h1, h2⟩ := over_spec hv.2 hu ho
      refine ⟨?_, by simp; omega⟩
      have e : n + 1 + us.length = (n + us.length) + 1 := by omega
      rw [e]
      simp only [List.take_succ_cons, List.cons_append, List.drop_succ_cons]
      exact ⟨hv.1, h1⟩

theorem known_of {pl : List Pl} {s : SV} {v : Value} (hs : s.known = true) (h : s.R pl v) : s.val pl = some v := by
  rcases h with rfl | h
  · cases hs
  · exact h
/-- a known value is one and no other -/
theorem knownAll_eq {pl : List Pl} : ∀ {l : List SV} {vs us : List Value}, knownAll l = true → RL pl l vs → RL pl l us → vs = us
  | [], [], [], _, _, _ => rfl
  | [], _ :: _, _, _, h, _ => h.elim
  | [], _, _ :: _, _, _, h => h.elim
  | _ :: _, [], _, _, h, _ => h.elim
  | _ :: _, _ :: _, [], _, _, h => h.elim
  | s :: l, v :: vs, u :: us, hk, h, h' => by
    simp only [knownAll, Bool.and_eq_true] at hk
    have e1 := known_of hk.1 h.1
    have e2 := known_of hk.1 h'.1
    rw [e1] at e2
    rw [knownAll_eq hk.2 h.2 h'.2, Option.some.inj e2]
theorem PV.known_eq {pl : List Pl} {p : PV} {v u : Value} (hk : p.known = true) (h : p.R pl v) (h' : p.R pl u) : v = u := by
  cases p with
  | one s =>
    have e1 := known_of hk h
    have e2 := known_of hk h'
    rw [e1] at e2
    exact Option.some.inj e2
  | agg l =>
    obtain ⟨vs, rfl, h1⟩ := h
    obtain ⟨us, rfl, h2⟩ := h'
    rw [knownAll_eq hk h1 h2]

theorem owVal_oneCell {pl : List Pl} {b esz st len : Nat} {v : Value} (hv : owVal pl b esz st len = some v) : v.oneCell' = true := by
  unfold owVal at hv
  split at hv
  · split at hv
    · split at hv
      · cases hv; rfl
      · cases hv
    · cases hv; rfl
  · cases hv
theorem SV.val_oneCell {pl : List Pl} {s : SV} {v : Value} (h : s.val pl = some v) : v.oneCell' = true := by
  cases s <;> simp only [SV.val] at h
  case any => cases h
  case ptr b off => cases ha : addrOf pl b off <;> simp [ha] at h; subst h; rfl
  case sl b off len cap => cases ha : addrOf pl b off <;> simp [ha] at h; subst h; rfl
  case ifp t b off => cases ha : addrOf pl b off <;> simp [ha] at h; subst h; rfl
  case ow b esz st len lit => exact owVal_oneCell h
  case mp b => cases hp : pl[b]? <;> simp [hp] at h; subst h; rfl
  case pe b esz idx sub => cases ha : addrOf pl b (idx * esz + sub) <;> simp [ha] at h; subst h; rfl
  case fn f cap => cases ha : capVals pl cap <;> simp [ha] at h; subst h; rfl
  all_goals (cases h; rfl)
theorem knownAll_oneCell {pl : List Pl} : ∀ {l : List SV} {vs : List Value}, knownAll l = true → RL pl l vs → ∀ v ∈ vs, v.oneCell' = true
  | [], [], _, _ => by simp
  | [], _ :: _, _, h => h.elim
  | _ :: _, [], _, h => h.elim
  | s :: l, v :: vs, hk, h => by
    simp only [knownAll, Bool.and_eq_true] at hk
    intro u hu
    rcases List.mem_cons.1 hu with rfl | hu
    · exact SV.val_oneCell (known_of hk.1 h.1)
    · exact knownAll_oneCell hk.2 h.2 u hu
theorem PV.cells_R {pl : List Pl} {p : PV} {v : Value} (hk : p.known = true) (h : p.R pl v) : RL pl p.cells v.cells.toList ∧ ∀ u ∈ v.cells.toList, u.oneCell' = true := by
  cases p with
  | one s =>
    have e1 := known_of hk h
    have h1 := SV.val_oneCell e1
    have : v.cells = #[v] := by cases v <;> first | rfl | (simp [Value.oneCell'] at h1)
    rw [this]
    exact ⟨⟨h, trivial⟩, by simpa using h1⟩
  | agg l =>
    obtain ⟨vs, rfl, h1⟩ := h
    exact ⟨by simpa [PV.cells, Value.cells] using h1, by simpa [Value.cells] using knownAll_oneCell hk h1⟩

/- constants -/
theorem ofVal_R (pl : List Pl) (v : Value) : (ofVal v).R pl v := by
  unfold ofVal
  split <;> first | exact .inr rfl | exact .inl rfl
theorem ofVals_R (pl : List Pl) : ∀ (l : List Value), RL pl (ofVals l) l
  | [] => trivial
  | v :: l => ⟨ofVal_R pl v, ofVals_R pl l⟩
theorem ofValue_R (pl : List Pl) (v : Value) : (ofValue v).R pl v := by
  unfold ofValue
  split
  · rename_i cs; exact ⟨cs.toList, by simp, ofVals_R pl _⟩
  · exact ofVal_R pl _

/- the frame -/
def EnvR (pl : List Pl) (env : Env) (tmps : Array Value) : Prop := env.length = tmps.size ∧ ∀ t, (getD env t AV.any).R pl (tmps.getD t Go.undef)
theorem any_R (pl : List Pl) (v : Value) : AV.any.R pl v := Or.inl rfl
theorem undef_R (pl : List Pl) : AV.undef.R pl Go.undef := ⟨[], rfl, trivial⟩
theorem EnvR.ext {pl pl' : List Pl} {env : Env} {tmps : Array Value} (hp : PExt pl pl') (h : EnvR pl env tmps) : EnvR pl' env tmps := ⟨h.1, fun t => (h.2 t).ext hp⟩
theorem EnvR.set {pl : List Pl} {env : Env} {tmps : Array Value} (h : EnvR pl env tmps) (d : Nat) {av : AV} {v : Value} (hv : av.R pl v) : EnvR pl (AM.set env d av) (tmps.setIfInBounds d v) := by
  refine ⟨by simp [set_eq, h.1], fun t => ?_⟩
  have ht := h.2 t
  rw [getD_eq, set_eq, List.getElem?_set, Array.getD_eq_getD_getElem?, Array.getElem?_setIfInBounds]
  rw [getD_eq, Array.getD_eq_getD_getElem?] at ht
  by_cases e : d = t
  · subst e
    by_cases hl : d < env.length
    · have : d < tmps.size := by rw [← h.1]; exact hl
      simp [hl, this, hv]
    · have : ¬ d < tmps.size := by rw [← h.1]; exact hl
      simp [hl, this, any_R]
  · simp only [if_neg e]; exact ht
theorem EnvR.put {pl : List Pl} {env : Env} {a : Act} (h : EnvR pl env a.tmps) (d : Option Nat) {av : AV} {v : Value} (hv : av.R pl v) : EnvR pl (putD env d av) (a.put d v).tmps := by
  cases d with
  | none => exact h
  | some d => exact h.set d hv
theorem EnvR.ev {pl : List Pl} {env : Env} {a : Act} (h : EnvR pl env a.tmps) (x : Operand) : (AM.ev env x).R pl (a.eval x) := by
  cases x with
  | tmp t => exact h.2 t
  | const v => exact ofValue_R pl v
  | global g => exact any_R pl _
  | func f => exact .inr rfl

end Go.AM
