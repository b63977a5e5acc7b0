import Derived.Test.YtcinopdklobldaaGreatDoorAMQop
/- Guards, calls, quiet runs in every order. -/
namespace Go.AM
open Go

/-- what of the world w0 has not turned: all blocks but those of Sx -/
structure Fr (w0 : World) (Sx : Nat → Prop) (w : World) : Prop where
  os : w.os = w0.os
  tape : w.tape = w0.tape
  output : w.output = w0.output
  size : w0.heap.size ≤ w.heap.size
  block : ∀ k, k < w0.heap.size → ¬ Sx k → w.heap[k]? = w0.heap[k]?
def Blk.alive : Blk → Pl → Bool
  | .gone, _ => false
  | .row .., _ => true
  | .own .., p => !p.nil
  | .ownL .., p => !p.nil
  | .mp _, _ => true
structure HRel (w0 : World) (Sx : Nat → Prop) (pl : List Pl) (h : Heap) (w : World) : Prop where
  len : pl.length = h.length
  fr : Fr w0 Sx w
  hb : HB pl h w
  lt : ∀ (b : Nat) p x, pl[b]? = some p → h[b]? = some x → x.alive p = true → p.blk < w.heap.size
  own : ∀ (b : Nat) p x, pl[b]? = some p → h[b]? = some x → x.alive p = true → w0.heap.size ≤ p.blk ∨ Sx p.blk
  inj : ∀ (b c : Nat) p q x y, pl[b]? = some p → pl[c]? = some q → h[b]? = some x → h[c]? = some y → x.alive p = true → y.alive q = true → p.blk = q.blk → b = c

def ArgsR (pl : List Pl) : List AV → List Value → Prop
  | [], [] => True
  | s :: l, v :: vs => s.R pl v ∧ ArgsR pl l vs
  | _, _ => False
theorem ArgsR.length {pl : List Pl} : ∀ {l : List AV} {vs : List Value}, ArgsR pl l vs → l.length = vs.length
  | [], [], _ => rfl
  | [], _ :: _, hv => hv.elim
  | _ :: _, [], hv => hv.elim
  | _ :: _, _ :: _, hv => by simp [ArgsR.length hv.2]
theorem ArgsR.append {pl : List Pl} : ∀ {l m : List AV} {vs us : List Value}, ArgsR pl l vs → ArgsR pl m us → ArgsR pl (l ++ m) (vs ++ us)
  | [], _, [], _, _, h => h
  | [], _, _ :: _, _, h, _ => h.elim
  | _ :: _, _, [], _, h, _ => h.elim
  | _ :: _, _, _ :: _, _, h, k => ⟨h.1, ArgsR.append h.2 k⟩
theorem ArgsR.get {pl : List Pl} : ∀ {l : List AV} {vs : List Value}, ArgsR pl l vs → ∀ t, (getD l t AV.any).R pl ((vs[t]?).getD Go.undef)
  | [], [], _, t => by simp [getD]; exact any_R pl _
  | [], _ :: _, hv, _ => hv.elim
  | _ :: _, [], hv, _ => hv.elim
  | _ :: _, _ :: _, hv, 0 => hv.1
  | _ :: _, _ :: _, hv, t + 1 => by simpa [getD] using ArgsR.get hv.2 t
theorem ArgsR.ext {pl pl' : List Pl} (h : PExt pl pl') : ∀ {l : List AV} {vs : List Value}, ArgsR pl l vs → ArgsR pl' l vs
  | [], [], _ => trivial
  | [], _ :: _, hv => hv.elim
  | _ :: _, [], hv => hv.elim
  | _ :: _, _ :: _, hv => ⟨hv.1.ext h, ArgsR.ext h hv.2⟩
theorem evs_R {pl : List Pl} {env : Env} {a : Act} (hE : EnvR pl env a.tmps) : ∀ l : List Operand, ArgsR pl (evs env l) (l.map a.eval)
  | [] => trivial
  | x :: l => ⟨hE.ev x, evs_R hE l⟩
theorem capArgs_R {pl : List Pl} : ∀ {l : List (Nat × Nat)} {vs : List Value}, capVals pl l = some vs → ArgsR pl (capArgs l) vs
  | [], vs, h => by simp [capVals] at h; subst h; trivial
  | (b, o) :: l, vs, h => by
    simp only [capVals] at h
    cases ha : addrOf pl b o with
    | none => simp [ha] at h
    | some ad =>
      cases hc : capVals pl l with
      | none => simp [ha, hc] at h
      | some r =>
        simp [ha, hc] at h
        subst h
        exact ⟨.inr (by simp [SV.val, ha]), capArgs_R hc⟩
theorem fn_R {pl : List Pl} {f : Nat} {cap : List (Nat × Nat)} {v : Value} (h : (AV.v (.one (.fn f cap))).R pl v) : ∃ vs, capVals pl cap = some vs ∧ v = .func (.func f) #[] vs.toArray := by
  rcases h with h | h
  · cases h
  · simp only [SV.val] at h
    cases hc : capVals pl cap with
    | none => simp [hc] at h
    | some vs => simp [hc] at h; exact ⟨vs, rfl, h.symm⟩

/-- what is known of the program: no function bears the name that the model answers by itself; the order of a region that draws is any -/
structure Fine (P : Program) : Prop where
  name : ∀ (f : Nat) fn, P.funcs[f]? = some fn → (fn.name == "runtime.NumGoroutine") = false
  mixed : P.follows .mixedOrders = true

section
variable {P : Program}
theorem call_run (hF : Fine P) {f : Nat} {fn : Func} (hf : P.funcs[f]? = some fn) (hb : fn.body.isSome = true) {o : Oper} {a : Act} {x : Operand} {args : Array Operand} {ts : Array TypeId} (ho : o.op = .call { callee := .value x, args, argTypes := ts })
    {caps : Array Value} (hx : a.eval x = .func (.func f) #[] caps) (w : World) : (execOp a.eval o).run P w = .ok (.enter f (args.map a.eval ++ caps)) w := by
  have hn : ¬ fn.name = "runtime.NumGoroutine" := by simpa using hF.name f fn hf
  have hb2 : ¬ fn.body = none := by intro h; rw [h] at hb; cases hb
  unfold execOp
  simp [ho, resolve, Deferred.ofValue, hx, invoke, callFunc, hf, hb2, hn]

theorem call_run0 {f : Nat} {o : Oper} {a : Act} {x : Operand} {args : Array Operand} {ts : Array TypeId} (ho : o.op = .call { callee := .value x, args, argTypes := ts })
    {caps : Array Value} (hx : a.eval x = .func (.func f) #[] caps) (w : World) : (execOp a.eval o).run P w = (callFunc f (args.map a.eval ++ caps)).run P w := by
  unfold execOp
  simp [ho, resolve, Deferred.ofValue, hx, invoke]

def PureOk (P : Program) (S : Sums) : Prop := ∀ f p, S.pure f = some p → (∃ fn, P.funcs[f]? = some fn ∧ fn.body.isSome = true) ∧
  ∀ args av, (p args).gives av → ∀ w0 Sx pl h vals, ArgsR pl args vals → ∃ v, ∀ w, HRel w0 Sx pl h w → av.R pl v ∧ Calls P f vals.toArray w (fun e w' => e = .returned v ∧ HRel w0 Sx pl h w')

theorem yielded_bool {pl : List Pl} {env : Env} {a : Act} (hE : EnvR pl env a.tmps) {ops : Array Oper} {j d : Nat} {oj : Oper} (hj : ops[j]? = some oj) (hd : oj.dst = some d) {b : Bool} (hv : a.tmps.getD d Go.undef = .bool b) :
    yielded ops a.tmps j = some b := by
  have ht : a.tmps[d]? = some (.bool b) := by
    rw [Array.getD_eq_getD_getElem?] at hv
    cases hq : a.tmps[d]? with
    | none => rw [hq] at hv; simp [Go.undef] at hv
    | some v => rw [hq] at hv; simpa using hv
  simp [yielded, hj, hd, ht]

theorem guard_spec {pl : List Pl} {env : Env} {a : Act} (hE : EnvR pl env a.tmps) (ops : Array Oper) (o : Oper) :
    match guardV ops.toList env o with
    | .yes => Region.wanted o (yielded ops a.tmps) = true
    | .no => Region.wanted o (yielded ops a.tmps) = false
    | .open_ b d => (∃ j want, o.guard = some (j, want) ∧ Region.wanted o (yielded ops a.tmps) = (b == want)) ∧ a.tmps.getD d Go.undef = .bool b
    | .bad => True := by
  unfold guardV
  cases hg : o.guard with
  | none => simp [Region.wanted, hg]
  | some jw =>
    obtain ⟨j, want⟩ := jw
    simp only
    cases hj : get? ops.toList j with
    | none => trivial
    | some oj =>
      rw [get?_eq] at hj
      have hj' : ops[j]? = some oj := by simpa using hj
      simp only
      cases hd : oj.dst with
      | none => trivial
      | some d =>
        have hv := hE.2 d
        simp only
        generalize getD env d AV.any = av at hv
        cases av with
        | v p => cases p with
          | agg l => trivial
          | one s =>
            cases s <;> first | trivial | skip
            case cb b =>
              have hy := yielded_bool hE hj' hd (cb_R hv)
              by_cases hbw : b = want
              · simp [Region.wanted, hg, hy, hbw]
              · simp [Region.wanted, hg, hy, hbw]
            case sb b =>
              have hy := yielded_bool hE hj' hd (sb_R hv)
              exact ⟨⟨j, want, rfl, by simp only [Region.wanted, hg, hy]; cases b <;> cases want <;> rfl⟩, sb_R hv⟩
        | tup l => cases l with
          | cons _ _ => trivial
          | nil =>
            obtain ⟨vs, hv, hr⟩ := hv
            have hvs : vs = [] := by cases vs with | nil => rfl | cons _ _ => exact hr.elim
            subst hvs
            have : yielded ops a.tmps j = none := by
              have ht : a.tmps[d]? = none ∨ a.tmps[d]? = some (.tuple #[]) := by
                rw [Array.getD_eq_getD_getElem?] at hv
                cases hq : a.tmps[d]? with
                | none => exact .inl rfl
                | some v => rw [hq] at hv; right; simpa using hv
              rcases ht with ht | ht <;> simp [yielded, hj', hd, ht]
            simp [Region.wanted, hg, this]
end
end Go.AM
