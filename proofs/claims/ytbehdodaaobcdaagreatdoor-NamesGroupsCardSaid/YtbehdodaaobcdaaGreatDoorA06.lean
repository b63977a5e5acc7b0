import Derived.Test.YtbehdodaaobcdaaGreatDoorA05
import Derived.Test.YtbehdodaaobcdaaGreatDoorProg
import Derived.Lib.LaidTab
import Derived.Lib.Space
import Derived.Laws.Strings2
set_option maxHeartbeats 4000000
namespace Go.AM
open Go

class Glob where
  tab : World → Prop
  blk : Nat → Prop
  keep : ∀ w w' : World, (∀ k, blk k → k < w.heap.size → w'.heap[k]? = w.heap[k]?) → tab w → tab w'
  lt : ∀ (w : World) k, tab w → blk k → k < w.heap.size
  /-- is it asked that the number of draws does not fall? -/
  dr : Prop
structure Fr (w0 : World) (Sx : Nat → Prop) (w : World) : Prop where
  os : w.os = w0.os
  tape : w.tape = w0.tape
  output : w.output = w0.output
  size : w0.heap.size ≤ w.heap.size
  block : ∀ k, k < w0.heap.size → ¬ Sx k → w.heap[k]? = w0.heap[k]?
def Blk.alive : Blk → Pl → Bool
  | .gone, _ => false
  | .row .., _ => true
  | .own .., p => !p.nil
  | .ownL .., p => !p.nil
  | .mp _, _ => true
  | .omp _ _, _ => true
  | .sit .., _ => true
  | .lp .., _ => true
  | .ro .., _ => false
def Blk.rd : Blk → Pl → Bool
  | .ro .., p => !p.nil
  | _, _ => false
structure Marks where
  S : Nat → Prop
  R : Nat → Prop
instance : CoeFun Marks (fun _ => Nat → Prop) := ⟨Marks.S⟩
def noMarks : Marks := ⟨fun _ => False, fun _ => False⟩
structure HRel [Glob] (w0 : World) (Sx : Marks) (pl : List Pl) (h : Heap) (w : World) : Prop where
  len : pl.length = h.length
  fr : Fr w0 Sx.S w
  hb : HB pl h w
  lt : ∀ (b : Nat) p x, pl[b]? = some p → h[b]? = some x → x.alive p = true → p.blk < w.heap.size
  own : ∀ (b : Nat) p x, pl[b]? = some p → h[b]? = some x → x.alive p = true → w0.heap.size ≤ p.blk ∨ Sx p.blk
  inj : ∀ (b c : Nat) p q x y, pl[b]? = some p → pl[c]? = some q → h[b]? = some x → h[c]? = some y → x.alive p = true → y.alive q = true → p.blk = q.blk → b = c
  ro : ∀ (b : Nat) p x, pl[b]? = some p → h[b]? = some x → x.rd p = true → Sx.R p.blk
  rok : (∀ k, Sx.R k → k < w0.heap.size ∧ ¬ Sx k) ∧ Glob.tab w0 ∧ ∀ k, Glob.blk k → ¬ Sx k
  drw : Glob.dr → w0.drawn ≤ w.drawn
theorem HRel.tabw [Glob] {w0 : World} {Sx : Marks} {pl : List Pl} {h : Heap} {w : World} (hR : HRel w0 Sx pl h w) : Glob.tab w :=
  Glob.keep w0 w (fun k hb hk => hR.fr.block k hk (hR.rok.2.2 k hb)) hR.rok.2.1

def ArgsR (pl : List Pl) : List AV → List Value → Prop
  | [], [] => True
  | s :: l, v :: vs => s.R pl v ∧ ArgsR pl l vs
  | _, _ => False
theorem ArgsR.length {pl : List Pl} : ∀ {l : List AV} {vs : List Value}, ArgsR pl l vs → l.length = vs.length
  | [], [], _ => rfl
  | [], _ :: _, hv => hv.elim
  | _ :: _, [], hv => hv.elim
  | _ :: _, _ :: _, hv => by simp [ArgsR.length hv.2]
theorem ArgsR.append {pl : List Pl} : ∀ {l m : List AV} {vs us : List Value}, ArgsR pl l vs → ArgsR pl m us → ArgsR pl (l ++ m) (vs ++ us)
  | [], _, [], _, _, h => h
  | [], _, _ :: _, _, h, _ => h.elim
  | _ :: _, _, [], _, h, _ => h.elim
  | _ :: _, _, _ :: _, _, h, k => ⟨h.1, ArgsR.append h.2 k⟩
theorem ArgsR.get {pl : List Pl} : ∀ {l : List AV} {vs : List Value}, ArgsR pl l vs → ∀ t, (getD l t AV.any).R pl ((vs[t]?).getD Go.undef)
  | [], [], _, t => by simp [getD]; exact any_R pl _
  | [], _ :: _, hv, _ => hv.elim
  | _ :: _, [], hv, _ => hv.elim
  | _ :: _, _ :: _, hv, 0 => hv.1
  | _ :: _, _ :: _, hv, t + 1 => by simpa [getD] using ArgsR.get hv.2 t
theorem ArgsR.ext {pl pl' : List Pl} (h : PExt pl pl') : ∀ {l : List AV} {vs : List Value}, ArgsR pl l vs → ArgsR pl' l vs
  | [], [], _ => trivial
  | [], _ :: _, hv => hv.elim
  | _ :: _, [], hv => hv.elim
  | _ :: _, _ :: _, hv => ⟨hv.1.ext h, ArgsR.ext h hv.2⟩
theorem evs_R {pl : List Pl} {env : Env} {a : Act} (hE : EnvR pl env a.tmps) : ∀ l : List Operand, ArgsR pl (evs env l) (l.map a.eval)
  | [] => trivial
  | x :: l => ⟨hE.ev x, evs_R hE l⟩
theorem capArgs_R {pl : List Pl} : ∀ {l : List (Nat × Nat)} {vs : List Value}, capVals pl l = some vs → ArgsR pl (capArgs l) vs
  | [], vs, h => by simp [capVals] at h; subst h; trivial
  | (b, o) :: l, vs, h => by
    simp only [capVals] at h
    cases ha : addrOf pl b o with
    | none => simp [ha] at h
    | some ad =>
      cases hc : capVals pl l with
      | none => simp [ha, hc] at h
      | some r =>
        simp [ha, hc] at h
        subst h
        exact ⟨.inr (by simp [SV.val, ha]), capArgs_R hc⟩
theorem fn_R {pl : List Pl} {f : Nat} {cap : List (Nat × Nat)} {v : Value} (h : (AV.v (.one (.fn f cap))).R pl v) : ∃ vs, capVals pl cap = some vs ∧ v = .func (.func f) #[] vs.toArray := by
  rcases h with h | h
  · cases h
  · simp only [SV.val] at h
    cases hc : capVals pl cap with
    | none => simp [hc] at h
    | some vs => simp [hc] at h; exact ⟨vs, rfl, h.symm⟩

structure Fine (P : Program) : Prop where
  name : ∀ (f : Nat) fn, P.funcs[f]? = some fn → (fn.name == "runtime.NumGoroutine") = false
  mixed : P.follows .mixedOrders = true

section
variable {P : Program}
theorem call_run (hF : Fine P) {f : Nat} {fn : Func} (hf : P.funcs[f]? = some fn) (hb : fn.body.isSome = true) {o : Oper} {a : Act} {x : Operand} {args : Array Operand} {ts : Array TypeId} (ho : o.op = .call { callee := .value x, args, argTypes := ts })
    {caps : Array Value} (hx : a.eval x = .func (.func f) #[] caps) (w : World) : (execOp a.eval o).run P w = .ok (.enter f (args.map a.eval ++ caps)) w := by
  have hn : ¬ fn.name = "runtime.NumGoroutine" := by simpa using hF.name f fn hf
  have hb2 : ¬ fn.body = none := by intro h; rw [h] at hb; cases hb
  unfold execOp
  simp [ho, resolve, Deferred.ofValue, hx, invoke, callFunc, hf, hb2, hn]

theorem call_run0 {f : Nat} {o : Oper} {a : Act} {x : Operand} {args : Array Operand} {ts : Array TypeId} (ho : o.op = .call { callee := .value x, args, argTypes := ts })
    {caps : Array Value} (hx : a.eval x = .func (.func f) #[] caps) (w : World) : (execOp a.eval o).run P w = (callFunc f (args.map a.eval ++ caps)).run P w := by
  unfold execOp
  simp [ho, resolve, Deferred.ofValue, hx, invoke]

def PureOk [Glob] (P : Program) (S : Sums) : Prop := ∀ f p, S.pure f = some p → (∃ fn, P.funcs[f]? = some fn ∧ fn.body.isSome = true) ∧
  ∀ args av, (p args).gives av → ∀ w0 Sx pl h vals, ArgsR pl args vals → ∃ v, ∀ w, HRel w0 Sx pl h w → av.R pl v ∧ Calls P f vals.toArray w (fun e w' => e = .returned v ∧ HRel w0 Sx pl h w')

theorem yielded_bool {pl : List Pl} {env : Env} {a : Act} (hE : EnvR pl env a.tmps) {ops : Array Oper} {j d : Nat} {oj : Oper} (hj : ops[j]? = some oj) (hd : oj.dst = some d) {b : Bool} (hv : a.tmps.getD d Go.undef = .bool b) :
    yielded ops a.tmps j = some b := by
  have ht : a.tmps[d]? = some (.bool b) := by
    rw [Array.getD_eq_getD_getElem?] at hv
    cases hq : a.tmps[d]? with
    | none => rw [hq] at hv; simp [Go.undef] at hv
    | some v => rw [hq] at hv; simpa using hv
  simp [yielded, hj, hd, ht]

theorem guard_spec {pl : List Pl} {env : Env} {a : Act} (hE : EnvR pl env a.tmps) (ops : Array Oper) (o : Oper) :
    match guardV ops.toList env o with
    | .yes => Region.wanted o (yielded ops a.tmps) = true
    | .no => Region.wanted o (yielded ops a.tmps) = false
    | .open_ b d => (∃ j want, o.guard = some (j, want) ∧ Region.wanted o (yielded ops a.tmps) = (b == want)) ∧ a.tmps.getD d Go.undef = .bool b
    | .bad => True := by
  unfold guardV
  cases hg : o.guard with
  | none => simp [Region.wanted, hg]
  | some jw =>
    obtain ⟨j, want⟩ := jw
    simp only
    cases hj : get? ops.toList j with
    | none => trivial
    | some oj =>
      rw [get?_eq] at hj
      have hj' : ops[j]? = some oj := by simpa using hj
      simp only
      cases hd : oj.dst with
      | none => trivial
      | some d =>
        have hv := hE.2 d
        simp only
        generalize getD env d AV.any = av at hv
        cases av with
        | v p => cases p with
          | agg l => trivial
          | one s =>
            cases s <;> first | trivial | skip
            case cb b =>
              have hy := yielded_bool hE hj' hd (cb_R hv)
              by_cases hbw : b = want
              · simp [Region.wanted, hg, hy, hbw]
              · simp [Region.wanted, hg, hy, hbw]
            case sb b =>
              have hy := yielded_bool hE hj' hd (sb_R hv)
              exact ⟨⟨j, want, rfl, by simp only [Region.wanted, hg, hy]; cases b <;> cases want <;> rfl⟩, sb_R hv⟩
        | tup l => cases l with
          | cons _ _ => trivial
          | nil =>
            obtain ⟨vs, hv, hr⟩ := hv
            have hvs : vs = [] := by cases vs with | nil => rfl | cons _ _ => exact hr.elim
            subst hvs
            have : yielded ops a.tmps j = none := by
              have ht : a.tmps[d]? = none ∨ a.tmps[d]? = some (.tuple #[]) := by
                rw [Array.getD_eq_getD_getElem?] at hv
                cases hq : a.tmps[d]? with
                | none => exact .inl rfl
                | some v => rw [hq] at hv; right; simpa using hv
              rcases ht with ht | ht <;> simp [yielded, hj', hd, ht]
            simp [Region.wanted, hg, this]
end
end Go.AM
namespace Go.AM
open Go Go.Proofs
noncomputable abbrev P := Tryz.prog
def tabAt (w : World) : Prop := ∀ g, P.globalNamed "strings.asciiSpace" = some g → ∃ T fz, w.heap[g]? = some (.cells (Lib.asciiSpaceTab.map fun z => Value.int .u8 z).toArray T fz)
theorem tabAt_lt {w : World} {g : Nat} (h : tabAt w) (hg : P.globalNamed "strings.asciiSpace" = some g) : g < w.heap.size := by
  obtain ⟨T, fz, h1⟩ := h g hg
  exact (Array.getElem?_eq_some_iff.1 h1).1
theorem tabAt_is {w : World} {g : Nat} (h : tabAt w) (hg : P.globalNamed "strings.asciiSpace" = some g) : Lib.TabIs P w "strings.asciiSpace" .u8 Lib.asciiSpaceTab := by
  obtain ⟨T, fz, h1⟩ := h g hg
  unfold Lib.TabIs World.var?
  rw [hg]
  simp [h1]
theorem tabAt_of {w : World} (h : ∀ g, P.globalNamed "strings.asciiSpace" = some g → Lib.TabIs P w "strings.asciiSpace" .u8 Lib.asciiSpaceTab) : tabAt w := by
  intro g hg
  have h1 := h g hg
  unfold Lib.TabIs World.var? at h1
  rw [hg] at h1
  simp only [Option.bind_some] at h1
  split at h1
  · rename_i cs T fz hc
    simp only [Option.some.injEq] at h1
    subst h1
    exact ⟨T, fz, hc⟩
  · cases h1
instance glob : Glob where
  tab := tabAt
  blk k := P.globalNamed "strings.asciiSpace" = some k
  keep w w' hk ht g hg := by
    obtain ⟨T, fz, h1⟩ := ht g hg
    exact ⟨T, fz, (hk g hg (Array.getElem?_eq_some_iff.1 h1).1).trans h1⟩
  lt w k ht hk := tabAt_lt ht hk
  dr := False
end Go.AM
namespace Go.AM
open Go
section
variable {P : Program} {pl : List Pl} {h : Heap}
def InjB (pl : List Pl) (h : Heap) : Prop := ∀ (b c : Nat) p q x y, pl[b]? = some p → pl[c]? = some q → h[b]? = some x → h[c]? = some y → x.alive p = true → y.alive q = true → p.blk = q.blk → b = c
theorem isRow_spec {o : Option Blk} (h : isRow o = true) : ∃ T cs, o = some (.row T cs) := by
  unfold isRow at h
  split at h
  · exact ⟨_, _, rfl⟩
  · cases h
theorem shape_row {w : World} {b : Nat} {xs : Array Value} {T : Nat} (hb : w.heap[b]? = some (.cells xs T (0, 0))) : w.shape? b = some (T, xs.size) := by
  simp [World.shape?, hb]
theorem frozen_row {w : World} {b o : Nat} {v : Option TypeId} {xs : Array Value} {T : Nat} (hb : w.heap[b]? = some (.cells xs T (0, 0))) : w.frozen? ⟨b, o, v⟩ = false := by
  simp [World.frozen?, hb]
theorem run_sameAddr_rows {w : World} {a b : Addr} {xs ys : Array Value} {T U : Nat} (hne : a.block ≠ b.block) (ha : w.heap[a.block]? = some (.cells xs T (0, 0))) (hb : w.heap[b.block]? = some (.cells ys U (0, 0))) :
    (sameAddr a b).run P w = .ok false w := by
  obtain ⟨ab, ao, av⟩ := a
  obtain ⟨bb, bo, bv⟩ := b
  have h3 := shape_row ha
  have h4 := shape_row hb
  simp only at hne ha hb h3 h4
  simp [sameAddr, hne, frozen_row ha, frozen_row hb, noView, viewAt, h3, h4, mayBeOne, stringish]
theorem run_sameAddr_same {w : World} {a b : Addr} (he : a.block = b.block) : (sameAddr a b).run P w = .ok (a == b) w := by
  simp [sameAddr, he]
theorem sl_R {b off len cap : Nat} {v : Value} (h : (SV.sl b off len cap).R pl v) : ∃ ad, addrOf pl b off = some ad ∧ v = .slice (some ad) len cap := by
  rcases h with h | h
  · cases h
  · simp only [SV.val] at h
    cases ha : addrOf pl b off with
    | none => simp [ha] at h
    | some ad => simp [ha] at h; exact ⟨ad, rfl, h.symm⟩
theorem nilp_R {v : Value} (h : SV.nilp.R pl v) : v = .pointer none := by
  rcases h with h | h
  · cases h
  · simpa [SV.val] using h.symm
def EqRun (P : Program) (t : Nat) (vx vy : Value) (r : Bool) (w : World) : Prop :=
  ∀ (op : BinOp) (x y : Operand), (op = .eql → (eqGuard op t x y vx vy).run P w = .ok () w ∧ (binOp op t vx vy).run P w = .ok (.bool r) w) ∧ (op = .neq → (eqGuard op t x y vx vy).run P w = .ok () w ∧ (binOp op t vx vy).run P w = .ok (.bool (!r)) w)
theorem eqRun_ptr {t : Nat} {o o' : Option Addr} {r : Bool} {w : World} (h : (Op.equal t (.pointer o) (.pointer o')).run P w = .ok r w) : EqRun P t (.pointer o) (.pointer o') r w := by
  intro op x y
  constructor
  · rintro rfl
    exact ⟨by simp [eqGuard], by simp [binOp, h]⟩
  · rintro rfl
    exact ⟨by simp [eqGuard], by simp [binOp, h]⟩
theorem eqRun_slice {t : Nat} {a a' : Option Addr} {n m n' m' : Nat} {r : Bool} {w : World} (h : (Op.equal t (.slice a n m) (.slice a' n' m')).run P w = .ok r w) : EqRun P t (.slice a n m) (.slice a' n' m') r w := by
  intro op x y
  constructor
  · rintro rfl
    exact ⟨by simp [eqGuard], by simp [binOp, h]⟩
  · rintro rfl
    exact ⟨by simp [eqGuard], by simp [binOp, h]⟩
theorem equalIn_nil1 {t e : Nat} (hu : P.underlying t = some (.pointer e)) (d : Nat) (b : Option Addr) (w : World) : (Op.equalIn (d + 1) t (.pointer none) (.pointer b)).run P w = .ok b.isNone w := by
  unfold Op.equalIn
  simp [run_underlying hu]
theorem equalIn_nil2 {t e : Nat} (hu : P.underlying t = some (.pointer e)) (d : Nat) (a : Addr) (w : World) : (Op.equalIn (d + 1) t (.pointer (some a)) (.pointer none)).run P w = .ok false w := by
  unfold Op.equalIn
  simp [run_underlying hu]
theorem equalIn_two {t e z : Nat} (hu : P.underlying t = some (.pointer e)) (hz : size? P e = some (z + 1)) (d : Nat) (a b : Addr) (w : World) : (Op.equalIn (d + 1) t (.pointer (some a)) (.pointer (some b))).run P w = (sameAddr a b).run P w := by
  unfold Op.equalIn
  simp [run_underlying hu, run_size hz]
theorem equalIn_sl1 {t e : Nat} (hu : P.underlying t = some (.slice e)) (d : Nat) (b : Option Addr) (n m n' m' : Nat) (w : World) : (Op.equalIn (d + 1) t (.slice none n m) (.slice b n' m')).run P w = .ok b.isNone w := by
  unfold Op.equalIn
  simp [run_underlying hu]
theorem equalIn_sl2 {t e : Nat} (hu : P.underlying t = some (.slice e)) (d : Nat) (a : Addr) (n m n' m' : Nat) (w : World) : (Op.equalIn (d + 1) t (.slice (some a) n m) (.slice none n' m')).run P w = .ok false w := by
  unfold Op.equalIn
  simp [run_underlying hu]
theorem equal_succ (t : Nat) (x y : Value) : Op.equal t x y = Op.equalIn (9999 + 1) t x y := rfl
theorem pEq_sound {t : Nat} {x y : SV} {r : Bool} (hp : pEq P t x y = some r) {vx vy : Value} (hx : x.R pl vx) (hy : y.R pl vy) (w : World) : EqRun P t vx vy r w := by
  unfold pEq at hp
  split at hp
  · rename_i e hu
    split at hp
    · cases hp
      rw [nilp_R hx, nilp_R hy]
      exact eqRun_ptr (by rw [equal_succ, equalIn_nil1 hu]; rfl)
    · cases hp
      obtain ⟨ad, had, hv⟩ := ptr_R hy
      rw [nilp_R hx, hv]
      exact eqRun_ptr (by rw [equal_succ, equalIn_nil1 hu]; rfl)
    · cases hp
      obtain ⟨ad, had, hv⟩ := ptr_R hx
      rw [nilp_R hy, hv]
      exact eqRun_ptr (by rw [equal_succ, equalIn_nil2 hu])
    · rename_i b o b' o'
      obtain ⟨ad, had, hv⟩ := ptr_R hx
      obtain ⟨ad', had', hv'⟩ := ptr_R hy
      rw [hv, hv']
      split at hp
      · rename_i z hz
        have key : (Op.equal t (.pointer (some ad)) (.pointer (some ad'))).run P w = (sameAddr ad ad').run P w := by
          rw [equal_succ, equalIn_two hu hz]
        unfold addrOf at had had'
        cases hb : pl[b]? with
        | none => simp [hb] at had
        | some p =>
          cases hb' : pl[b']? with
          | none => simp [hb'] at had'
          | some p' =>
            simp [hb] at had
            simp [hb'] at had'
            split at hp
            · rename_i hbb
              cases hp
              subst hbb
              rw [hb] at hb'
              cases hb'
              apply eqRun_ptr
              rw [key, run_sameAddr_same (by rw [← had, ← had'])]
              rw [← had, ← had']
              congr 1
              simp [BEq.beq]
            · cases hp
      · cases hp
    · cases hp
  · rename_i e hu
    split at hp
    · cases hp
      rw [nils_R hx, nils_R hy]
      exact eqRun_slice (by rw [equal_succ, equalIn_sl1 hu]; rfl)
    · cases hp
      obtain ⟨ad, had, hv⟩ := sl_R hy
      rw [nils_R hx, hv]
      exact eqRun_slice (by rw [equal_succ, equalIn_sl1 hu]; rfl)
    · cases hp
      obtain ⟨ad, had, hv⟩ := sl_R hx
      rw [nils_R hy, hv]
      exact eqRun_slice (by rw [equal_succ, equalIn_sl2 hu])
    · cases hp
  · cases hp
theorem ptrNe_sound (hI : InjB pl h) {t : Nat} {x y : SV} (hp : ptrNe P t h x y = true) {vx vy : Value} (hx : x.R pl vx) (hy : y.R pl vy) {w : World} (hw : HB pl h w) : EqRun P t vx vy false w := by
  unfold ptrNe at hp
  split at hp
  · rename_i e b o b' o' hu
    obtain ⟨ad, had, hv⟩ := ptr_R hx
    obtain ⟨ad', had', hv'⟩ := ptr_R hy
    rw [hv, hv']
    split at hp
    · rename_i z hz
      simp only [Bool.and_eq_true, decide_eq_true_eq] at hp
      have key : (Op.equal t (.pointer (some ad)) (.pointer (some ad'))).run P w = (sameAddr ad ad').run P w := by
        rw [equal_succ, equalIn_two hu hz]
      unfold addrOf at had had'
      cases hb : pl[b]? with
      | none => simp [hb] at had
      | some p =>
        cases hb' : pl[b']? with
        | none => simp [hb'] at had'
        | some p' =>
          simp [hb] at had
          simp [hb'] at had'
          obtain ⟨T, cs, h1⟩ := isRow_spec hp.1.2
          obtain ⟨T', cs', h2⟩ := isRow_spec hp.2
          rw [get?_eq] at h1 h2
          obtain ⟨vs, k1, k2⟩ := hw b _ p h1 hb
          obtain ⟨vs', k1', k2'⟩ := hw b' _ p' h2 hb'
          apply eqRun_ptr
          rw [key, run_sameAddr_rows (xs := vs.toArray) (ys := vs'.toArray) (T := T) (U := T')]
          · rw [← had, ← had']
            exact fun e => hp.1.1 (hI b b' p p' _ _ hb hb' h1 h2 rfl rfl e)
          · rw [← had]; exact k2
          · rw [← had']; exact k2'
    · cases hp
  · cases hp
theorem litB_R {x : AV} {n : Nat} (h : litB x = some n) {v : Value} (hv : x.R pl v) : ∃ k, v = .int k (n : Int) := by
  unfold litB at h
  split at h
  · rename_i k m
    split at h
    · rename_i hm
      cases h
      rw [con_R hv]
      exact ⟨k, by rw [Int.toNat_of_nonneg hm]⟩
    · cases h
  · cases h
theorem run_sliceBound {w : World} {k : IntKind} {i y : Nat} (h : i ≤ y) (code : BoundsCode) : (Instr.sliceBound (.int k (i : Int)) y code).run P w = .ok i w := by
  simp [Instr.sliceBound, asIntOf, h]
theorem bounds2_run {w : World} {ρ : Operand → Value} {lo hi : Option Operand} {len cap i j : Nat} {l : List AV} (isS : Bool) (hb : bounds2 lo.isSome hi.isSome len l = some (i, j)) (hij : i ≤ j) (hj : j ≤ cap) (hl : ArgsR pl l ((lo.toArray ++ hi.toArray).toList.map ρ)) :
    (Instr.sliceBounds isS len cap (lo.map ρ) (hi.map ρ) none).run P w = .ok (i, j, cap) w := by
  cases lo with
  | none =>
    cases hi with
    | none =>
      cases l with
      | nil => simp [bounds2] at hb; obtain ⟨rfl, rfl⟩ := hb; simp [Instr.sliceBounds]
      | cons a l => simp [bounds2] at hb
    | some y =>
      match l, hb, hl with
      | [b], hb, hl =>
        simp only [bounds2, Option.isSome] at hb
        split at hb
        · rename_i n hn
          cases hb
          obtain ⟨k, hv⟩ := litB_R hn hl.1
          have hv : ρ y = _ := hv
          simp [Instr.sliceBounds, hv, run_sliceBound hj]
        · cases hb
  | some x =>
    cases hi with
    | none =>
      match l, hb, hl with
      | [b], hb, hl =>
        simp only [bounds2, Option.isSome] at hb
        split at hb
        · rename_i n hn
          cases hb
          obtain ⟨k, hv⟩ := litB_R hn hl.1
          have hv : ρ x = _ := hv
          simp [Instr.sliceBounds, hv, run_sliceBound hij]
        · cases hb
    | some y =>
      match l, hb, hl with
      | [b, c], hb, hl =>
        simp only [bounds2, Option.isSome] at hb
        split at hb
        · rename_i n m hn hm
          cases hb
          obtain ⟨k, hv⟩ := litB_R hn hl.1
          obtain ⟨k', hv'⟩ := litB_R hm hl.2.1
          have hv : ρ x = _ := hv
          have hv' : ρ y = _ := hv'
          simp [Instr.sliceBounds, hv, hv', run_sliceBound hij, run_sliceBound hj]
        · cases hb
theorem intOf_R {x : AV} {n : Int} (h : intOf x = some n) {v : Value} (hv : x.R pl v) : ∃ k, v = .int k n := by
  unfold intOf at h
  split at h
  · cases h; exact ⟨_, con_R hv⟩
  · cases h; exact ⟨_, sym_R hv⟩
  · cases h
theorem boundsO_run {w : World} {ρ : Operand → Value} {lo hi : Option Operand} {len cap : Nat} {i j : Int} {l : List AV} (isS : Bool) (hb : boundsO lo.isSome hi.isSome len l = some (i, j)) (h0 : 0 ≤ i) (hij : i ≤ j) (hj : j ≤ (cap : Int)) (hl : ArgsR pl l ((lo.toArray ++ hi.toArray).toList.map ρ)) :
    (Instr.sliceBounds isS len cap (lo.map ρ) (hi.map ρ) none).run P w = .ok (i.toNat, j.toNat, cap) w := by
  obtain ⟨a, rfl⟩ : ∃ a : Nat, i = (a : Int) := ⟨i.toNat, (Int.toNat_of_nonneg h0).symm⟩
  obtain ⟨c, rfl⟩ : ∃ c : Nat, j = (c : Int) := ⟨j.toNat, (Int.toNat_of_nonneg (by omega)).symm⟩
  have hac : a ≤ c := by omega
  have hcc : c ≤ cap := by omega
  simp only [Int.toNat_natCast]
  cases lo with
  | none =>
    cases hi with
    | none =>
      cases l with
      | nil =>
        simp [boundsO] at hb
        obtain ⟨h1, h2⟩ := hb
        obtain rfl : a = 0 := by omega
        obtain rfl : len = c := by omega
        simp [Instr.sliceBounds]
      | cons a l => simp [boundsO] at hb
    | some y =>
      match l, hb, hl with
      | [b], hb, hl =>
        simp only [boundsO, Option.isSome] at hb
        split at hb
        · rename_i n hn
          simp only [Option.some.injEq, Prod.mk.injEq] at hb
          obtain ⟨h1, rfl⟩ := hb
          obtain rfl : a = 0 := by omega
          obtain ⟨k, hv⟩ := intOf_R hn hl.1
          have hv : ρ y = _ := hv
          simp [Instr.sliceBounds, hv, run_sliceBound hcc]
        · cases hb
  | some x =>
    cases hi with
    | none =>
      match l, hb, hl with
      | [b], hb, hl =>
        simp only [boundsO, Option.isSome] at hb
        split at hb
        · rename_i n hn
          simp only [Option.some.injEq, Prod.mk.injEq] at hb
          obtain ⟨rfl, h1⟩ := hb
          obtain rfl : len = c := by omega
          obtain ⟨k, hv⟩ := intOf_R hn hl.1
          have hv : ρ x = _ := hv
          simp [Instr.sliceBounds, hv, run_sliceBound hac]
        · cases hb
    | some y =>
      match l, hb, hl with
      | [b, c'], hb, hl =>
        simp only [boundsO, Option.isSome] at hb
        split at hb
        · rename_i n m hn hm
          simp only [Option.some.injEq, Prod.mk.injEq] at hb
          obtain ⟨rfl, rfl⟩ := hb
          obtain ⟨k, hv⟩ := intOf_R hn hl.1
          obtain ⟨k', hv'⟩ := intOf_R hm hl.2.1
          have hv : ρ x = _ := hv
          have hv' : ρ y = _ := hv'
          simp [Instr.sliceBounds, hv, hv', run_sliceBound hac, run_sliceBound hcc]
        · cases hb
theorem gives_iff {p : Prop} {x av : AV} (h : (OR.iff p x).gives av) : p ∧ av = x := by
  rcases h with h | ⟨q, h, hq⟩
  · cases h
  · injection h with h1 h2
    subst h1
    exact ⟨hq, h2.symm⟩
theorem strSlice_run {t : Nat} (hu : P.underlying t = some .string) {s : List UInt8} {lo hi : Option Operand} {i j : Int} {l : List AV} (hb : boundsO lo.isSome hi.isSome s.length l = some (i, j)) (h0 : 0 ≤ i) (hij : i ≤ j) (hj : j ≤ (s.length : Int)) {ρ : Operand → Value} (hl : ArgsR pl l ((lo.toArray ++ hi.toArray).toList.map ρ)) :
    ∃ v, (AV.v (.one (.str ((s.drop i.toNat).take (j - i).toNat)))).R pl v ∧ ∀ w, (Instr.sliceAt t (.string ⟨s.toArray⟩) (lo.map ρ) (hi.map ρ) none).run P w = .ok v w := by
  have hbd := fun w => boundsO_run (P := P) (w := w) (ρ := ρ) (cap := s.length) false hb h0 hij hj hl
  have hsz : (ByteArray.mk s.toArray).size = s.length := by simp [ByteArray.size]
  refine ⟨.string ⟨((s.drop i.toNat).take (j - i).toNat).toArray⟩, .inr rfl, fun w => ?_⟩
  have e : (j - i).toNat = j.toNat - i.toNat := by omega
  rw [e]
  simp [Instr.sliceAt, run_underlying hu, Instr.slice, hsz, hbd, ByteArray.extract_mk]
theorem sliceX_sound {t : Nat} {sx : SV} {lo hi : Option Operand} {l : List AV} {av : AV} (hq : (sliceX P t sx lo.isSome hi.isSome l).gives av) {vx : Value} (hx : sx.R pl vx) {ρ : Operand → Value} (hl : ArgsR pl l ((lo.toArray ++ hi.toArray).toList.map ρ)) :
    ∃ v, av.R pl v ∧ ∀ w, (Instr.sliceAt t vx (lo.map ρ) (hi.map ρ) none).run P w = .ok v w := by
  unfold sliceX at hq
  simp only [forceB_eq] at hq
  split at hq
  · rename_i e b off len cap hu
    split at hq
    · rename_i z i j hz hb
      split at hq
      · rename_i hij
        rw [gives_ok hq]
        obtain ⟨ad, had, rfl⟩ := sl_R hx
        have hbd := fun w => bounds2_run (P := P) (w := w) (ρ := ρ) (cap := cap) true hb hij.1 hij.2 hl
        refine ⟨.slice (some (if cap = i then ad else ad.add (i * z))) (j - i) (cap - i), ?_, fun w => ?_⟩
        · refine .inr ?_
          by_cases hc : cap = i
          · simp [SV.val, hc, had]
          · simp [SV.val, hc, addrOf_add had]
        · simp only [Instr.sliceAt, run_underlying hu, Instr.slice, hbd, run_size hz, Sem.run_bind, Result.andThen_ok, Sem.run_pure]
          split <;> rfl
      · exact (gives_fail hq).elim
    · exact (gives_fail hq).elim
  · rename_i e hu
    split at hq
    · rename_i z hz hb
      rw [gives_ok hq]
      have hbd := fun w => bounds2_run (P := P) (w := w) (ρ := ρ) (cap := 0) true hb (Nat.le_refl 0) (Nat.le_refl 0) hl
      rw [nils_R hx]
      refine ⟨.slice none 0 0, .inr rfl, fun w => ?_⟩
      simp [Instr.sliceAt, run_underlying hu, Instr.slice, hbd, run_size hz]
    · exact (gives_fail hq).elim
  · rename_i n e b off hu
    split at hq
    · rename_i z i j hz hb
      split at hq
      · rename_i hij
        rw [gives_ok hq]
        obtain ⟨ad, had, rfl⟩ := ptr_R hx
        have hbd := fun w => bounds2_run (P := P) (w := w) (ρ := ρ) (cap := n) false hb hij.1 hij.2 hl
        refine ⟨.slice (some (if n = i then ad else ad.add (i * z))) (j - i) (n - i), ?_, fun w => ?_⟩
        · refine .inr ?_
          by_cases hc : n = i
          · simp [SV.val, hc, had]
          · simp [SV.val, hc, addrOf_add had]
        · simp only [Instr.sliceAt, run_underlying hu, Instr.sureAddr, hbd, run_size hz, Sem.run_bind, Result.andThen_ok, Sem.run_pure]
      · exact (gives_fail hq).elim
    · exact (gives_fail hq).elim
  · rename_i s hu
    split at hq
    · rename_i i j hb
      split at hq
      · rename_i hij
        rw [gives_ok hq]
        rw [cstr_R hx]
        rw [len'_eq] at hij hb
        have hbd := fun w => bounds2_run (P := P) (w := w) (ρ := ρ) (cap := s.length) false hb hij.1 hij.2 hl
        refine ⟨.string ⟨((s.drop i).take (j - i)).toArray⟩, .inr (by simp [SV.val, takeN_eq, dropN_eq]), fun w => ?_⟩
        have hsz : (ByteArray.mk s.toArray).size = s.length := by simp [ByteArray.size]
        simp [Instr.sliceAt, run_underlying hu, Instr.slice, hsz, hbd, ByteArray.extract_mk]
      · exact (gives_fail hq).elim
    · split at hq
      · rename_i i j hb
        rw [len'_eq] at hb
        obtain ⟨⟨h0, hij, hj⟩, rfl⟩ := gives_iff hq
        rw [cstr_R hx]
        exact strSlice_run hu hb h0 hij hj hl
      · exact (gives_fail hq).elim
  · rename_i s hu
    split at hq
    · rename_i i j hb
      obtain ⟨⟨h0, hij, hj⟩, rfl⟩ := gives_iff hq
      rw [str_R hx]
      exact strSlice_run hu hb h0 hij hj hl
    · exact (gives_fail hq).elim
  · exact (gives_fail hq).elim
theorem min2X_sound {mx : Bool} {x y : AV} {av : AV} (hq : (min2X mx x y).gives av) {vx vy : Value} (hx : x.R pl vx) (hy : y.R pl vy) :
    ∃ v, av.R pl v ∧ ∀ w, (if mx then Builtin.max2 vx vy else Builtin.min2 vx vy).run P w = .ok v w := by
  unfold min2X at hq
  split at hq
  all_goals first
    | exact (gives_fail hq).elim
    | (split at hq
       · rw [gives_ok hq]
         refine ⟨_, mkI_R pl _ _ _, fun w => ?_⟩
         first
         | rw [con_R hx, con_R hy]
         | rw [con_R hx, sym_R hy]
         | rw [sym_R hx, con_R hy]
         | rw [sym_R hx, sym_R hy]
         cases mx <;> simp [Builtin.max2, Builtin.min2]
       · exact (gives_fail hq).elim)
theorem bltX_sound {f : Builtin} {args : List Operand} {ts : List Nat} {l : List AV} {av : AV} {ρ : Operand → Value} (hl : ArgsR pl l (args.map ρ)) (hq : (bltX P f ts l).gives av) :
    ∃ v, av.R pl v ∧ ∀ (w : World) (ty : Nat) (cs : Array Bool), (builtin f ts.toArray ty cs (args.map ρ).toArray).run P w = .ok (.value v) w := by
  unfold bltX at hq
  split at hq
  · rename_i t x
    match args, hl with
    | [o], hl =>
      have hx := hl.1
      split at hq
      · rename_i b off len cap hu he
        rw [gives_ok hq]
        obtain ⟨ad, had, hv⟩ := sl_R hx
        exact ⟨_, mkI_R pl true .i64 _, fun w ty cs => by simp [builtin, Builtin.cap_, run_underlying hu, hv, goInt]⟩
      · rename_i hu he
        rw [gives_ok hq]
        have hv := nils_R hx
        exact ⟨_, mkI_R pl true .i64 _, fun w ty cs => by simp [builtin, Builtin.cap_, run_underlying hu, hv, goInt]⟩
      · exact (gives_fail hq).elim
  · rename_i t x
    match args, hl with
    | [o], hl =>
      have hx := hl.1
      split at hq
      · rename_i b off len cap hu he
        rw [gives_ok hq]
        obtain ⟨ad, had, hv⟩ := sl_R hx
        exact ⟨_, mkI_R pl true .i64 _, fun w ty cs => by simp [builtin, Builtin.len_, run_underlying hu, hv, goInt]⟩
      · exact (gives_fail hq).elim
  · rename_i t t' x y
    match args, hl with
    | [o, o'], hl =>
      obtain ⟨v, g1, g2⟩ := min2X_sound (P := P) hq hl.1 hl.2.1
      refine ⟨v, g1, fun w ty cs => ?_⟩
      have := g2 w
      simp at this
      simp [builtin, Builtin.min_, this]
  · rename_i t t' x y
    match args, hl with
    | [o, o'], hl =>
      obtain ⟨v, g1, g2⟩ := min2X_sound (P := P) hq hl.1 hl.2.1
      refine ⟨v, g1, fun w ty cs => ?_⟩
      have := g2 w
      simp at this
      simp [builtin, Builtin.max_, this]
  · exact (gives_fail hq).elim
theorem qop1_sound {env : Env} {a : Act} (hE : EnvR pl env a.tmps) (o : Oper) {av : AV} (hq : (qop1 P o.op (evs env o.op.operands.toList)).gives av) : QS P pl h o a av := by
  have hev := evs_R hE o.op.operands.toList
  unfold QS
  unfold qop1 at hq
  split at hq
  · rename_i op t x t' sb ho hl
    rw [hl, ho] at hev
    have hx : a.eval x = .nilIface := by
      rcases hev.1 with h | h
      · cases h
      · simpa [SV.val] using h.symm
    unfold nilX at hq
    have he : ∀ w, (Op.equal t .nilIface .nilIface).run P w = .ok true w ∨ ¬ ∃ ms, P.underlying t = some (.interface ms) := fun w => by
      by_cases h : ∃ ms, P.underlying t = some (.interface ms)
      · obtain ⟨ms, h⟩ := h
        have key : ∀ d, (Op.equalIn (d + 1) t .nilIface .nilIface).run P w = .ok true w := fun d => by simp [Op.equalIn, run_underlying h]
        exact .inl (by rw [equal_succ]; exact key 9999)
      · exact .inr h
    split at hq
    · rename_i ms hu
      rw [gives_ok hq]
      refine ⟨.bool true, fun w hw => ⟨mkB_R pl true true, ?_⟩⟩
      have h1 := (he w).resolve_right (fun h => h ⟨ms, hu⟩)
      have h2 : (eqGuard .eql t x (.const .nilIface) .nilIface .nilIface).run P w = .ok () w := by rw [eqGuard_nil_constR]; rfl
      have h3 : (binOp .eql t .nilIface .nilIface).run P w = .ok (.bool true) w := by simp only [binOp]; simp [h1]
      have h4 : a.eval (.const .nilIface) = .nilIface := rfl
      unfold execOp
      simp [ho, hx, h4, h2, h3]
    · rename_i ms hu
      rw [gives_ok hq]
      refine ⟨.bool false, fun w hw => ⟨mkB_R pl true false, ?_⟩⟩
      have h1 := (he w).resolve_right (fun h => h ⟨ms, hu⟩)
      have h2 : (eqGuard .neq t x (.const .nilIface) .nilIface .nilIface).run P w = .ok () w := by rw [eqGuard_nil_constR]; rfl
      have h3 : (binOp .neq t .nilIface .nilIface).run P w = .ok (.bool false) w := by simp only [binOp]; simp [h1]
      have h4 : a.eval (.const .nilIface) = .nilIface := rfl
      unfold execOp
      simp [ho, hx, h4, h2, h3]
    · exact (gives_fail hq).elim
  · rename_i op t x y t' sa sb _ ho hl
    rw [hl, ho] at hev
    have hx : sa.R pl (a.eval x) := hev.1
    have hy : sb.R pl (a.eval y) := hev.2.1
    split at hq
    · split at hq
      · rename_i r hr
        rw [gives_ok hq]
        refine ⟨.bool r, fun w hw => ⟨mkB_R pl true r, ?_⟩⟩
        have := (pEq_sound (P := P) hr hx hy w .eql x y).1 rfl
        unfold execOp
        simp [ho, this.1, this.2]
      · exact (gives_fail hq).elim
    · split at hq
      · rename_i r hr
        rw [gives_ok hq]
        refine ⟨.bool (!r), fun w hw => ⟨mkB_R pl true (!r), ?_⟩⟩
        have := (pEq_sound (P := P) hr hx hy w .neq x y).2 rfl
        unfold execOp
        simp [ho, this.1, this.2]
      · exact (gives_fail hq).elim
    · exact (gives_fail hq).elim
  · rename_i t x lo hi sx l ho hl
    rw [hl, ho] at hev
    have e : (Op.slice t x lo hi none).operands.toList = x :: (lo.toArray ++ hi.toArray).toList := by simp [Op.operands]
    rw [e] at hev
    obtain ⟨v, g1, g2⟩ := sliceX_sound hq hev.1 hev.2
    refine ⟨v, fun w _ => ⟨g1, ?_⟩⟩
    unfold execOp
    simp [ho, g2]
  · rename_i s d x k n ho hl
    rw [hl, ho] at hev
    have hx := con_R (show (AV.v (.one (.con k n))).R pl (a.eval x) from hev.1)
    split at hq
    · rename_i k' hs hd
      rw [gives_ok hq]
      refine ⟨.string (Utf8.encode n), fun w _ => ⟨.inr rfl, ?_⟩⟩
      unfold execOp
      simp [ho, hx, convert, run_underlying hs, run_underlying hd, Conv.intToString]
    · exact (gives_fail hq).elim
  · rename_i s d x k n ho hl
    rw [hl, ho] at hev
    have hx := sym_R (show (AV.v (.one (.sym k n))).R pl (a.eval x) from hev.1)
    split at hq
    · rename_i k' hs hd
      rw [gives_ok hq]
      refine ⟨.string (Utf8.encode n), fun w _ => ⟨.inr rfl, ?_⟩⟩
      unfold execOp
      simp [ho, hx, convert, run_underlying hs, run_underlying hd, Conv.intToString]
    · exact (gives_fail hq).elim
  · rename_i t x i b off len cap k j ho hl
    rw [hl, ho] at hev
    obtain ⟨ad, had, hv⟩ := sl_R (show (SV.sl b off len cap).R pl (a.eval x) from hev.1)
    have hj := con_R (show (AV.v (.one (.con k j))).R pl (a.eval i) from hev.2.1)
    split at hq
    · rename_i e hu
      split at hq
      · rename_i z hz
        split at hq
        · rename_i hb
          rw [gives_ok hq]
          refine ⟨.pointer (some (ad.add (j.toNat * z))), fun w _ => ⟨.inr (by simp [SV.val, addrOf_add had]), ?_⟩⟩
          unfold execOp
          simp [ho, hv, hj, Instr.indexAt, asIntOf, run_underlying hu, hb, run_size hz]
        · exact (gives_fail hq).elim
      · exact (gives_fail hq).elim
    · exact (gives_fail hq).elim
  · rename_i f args ts ho
    rw [ho] at hev
    have e : (Op.call { callee := .builtin f, args := args, argTypes := ts }).operands.toList = args.toList := by simp [Op.operands, Call.operands]
    rw [e] at hev
    rw [ho, e] at hq
    obtain ⟨v, g1, g2⟩ := bltX_sound hev hq
    refine ⟨v, fun w _ => ⟨g1, ?_⟩⟩
    unfold execOp
    have := g2 w o.type (args.map fun | .const _ => true | _ => false)
    rw [show (List.map a.eval args.toList).toArray = args.map a.eval from by apply Array.ext'; simp, Array.toArray_toList] at this
    simp [ho, resolve, invoke]
    exact this
  · exact (gives_fail hq).elim
theorem orElse_gives {r s : OR} {av : AV} (h : (orElse r s).gives av) : r.gives av ∨ s.gives av := by
  cases r with
  | fail => exact .inr h
  | ok v => exact .inl h
  | iff p v => exact .inl h
theorem kOR_E {env : Env} {o : Op} {K : AV → Prop} (hk : kOR (qop P env h o) K) : kOR (qopE P env h o) K := by
  unfold qopE
  cases hr : qop P env h o with
  | fail => rw [hr] at hk; exact hk.elim
  | ok v => rw [hr] at hk; exact hk
  | iff p v => rw [hr] at hk; exact hk
theorem qop_sound {env : Env} {a : Act} (hE : EnvR pl env a.tmps) (o : Oper) {av : AV} (hq : (qop P env h o.op).gives av) : QS P pl h o a av := by
  rcases orElse_gives hq with hq | hq
  · exact qop0_sound hE o hq
  · exact qop1_sound hE o hq
theorem qopE_sound (hI : InjB pl h) {env : Env} {a : Act} (hE : EnvR pl env a.tmps) (o : Oper) {av : AV} (hq : (qopE P env h o.op).gives av) : QS P pl h o a av := by
  rcases orElse_gives hq with hq | hq
  · exact qop_sound hE o hq
  · have hev := evs_R hE o.op.operands.toList
    unfold QS
    unfold qop2 at hq
    split at hq
    · rename_i op t x y t' sa sb ho hl
      rw [hl, ho] at hev
      have hx : sa.R pl (a.eval x) := hev.1
      have hy : sb.R pl (a.eval y) := hev.2.1
      split at hq
      · split at hq
        · rename_i hr
          rw [gives_ok hq]
          refine ⟨.bool false, fun w hw => ⟨mkB_R pl true false, ?_⟩⟩
          have := (ptrNe_sound hI hr hx hy hw .eql x y).1 rfl
          unfold execOp
          simp [ho, this.1, this.2]
        · exact (gives_fail hq).elim
      · split at hq
        · rename_i hr
          rw [gives_ok hq]
          refine ⟨.bool true, fun w hw => ⟨mkB_R pl true true, ?_⟩⟩
          have := (ptrNe_sound hI hr hx hy hw .neq x y).2 rfl
          unfold execOp
          simp [ho, this.1, this.2]
        · exact (gives_fail hq).elim
      · exact (gives_fail hq).elim
    · rename_i t x lo hi b esz st len l ho' hl
      rw [hl, ho'] at hev
      have e : (Op.slice t x lo hi none).operands.toList = x :: (lo.toArray ++ hi.toArray).toList := by simp [Op.operands]
      rw [e] at hev
      split at hq
      · rename_i e hu
        split at hq
        · rename_i T z n cs i j hg hb
          split at hq
          · rename_i hc
            obtain ⟨hz, hij, hj, hn, h0, hz0, hi⟩ := hc
            rw [gives_ok hq]
            obtain ⟨p, hp, hv⟩ := ow_R' (show (AV.v (.one (.ow b esz st len true))).R pl (a.eval x) from hev.1)
            rw [get?_eq] at hg
            refine ⟨.slice (some (if p.cap - st = i then ⟨p.blk, (if len = 0 ∧ p.cap = st then 0 else st * esz), none⟩ else (⟨p.blk, (if len = 0 ∧ p.cap = st then 0 else st * esz), none⟩ : Addr).add (i * esz))) (j - i) (p.cap - st - i), fun w hw => ?_⟩
            obtain ⟨vs, hr, ho⟩ := hw b _ p hg hp
            have hcap : p.nil = false → n ≤ p.cap := fun hpn => by
              rcases ho.2 with ⟨h1, _⟩ | ⟨g, cap, cur, h1, _, _, h3, _⟩
              · simp [Pl.sv, hpn] at h1
              · simp only [Pl.sv, hpn, Bool.false_eq_true, if_false, Value.slice.injEq] at h1
                omega
            have hpn : p.nil = false := by
              cases hpn : p.nil with
              | false => rfl
              | true =>
                rcases ho.2 with ⟨_, h1⟩ | ⟨g, cap, cur, h1, _⟩
                · omega
                · simp [Pl.sv, hpn] at h1
            have hcap := hcap hpn
            rcases hv with ⟨h1, _⟩ | ⟨_, hv⟩
            · rw [hpn] at h1; cases h1
            have hbd := bounds2_run (P := P) (w := w) (ρ := a.eval) (cap := p.cap - st) true hb hij (by omega) hev.2
            refine ⟨.inr ?_, ?_⟩
            · simp only [SV.val, owVal, hp, hpn, Bool.false_eq_true, if_false]
              rw [Nat.sub_sub]
              by_cases hci : p.cap - st = i
              · rw [if_pos hci]
                by_cases hs0 : st = 0
                · subst hs0
                  simp [show j - i = 0 by omega, show p.cap = i by omega]
                · have : i = 0 := by omega
                  subst this
                  simp [show j = 0 by omega, show len = 0 by omega]
              · rw [if_neg hci, Addr.add_lit, Nat.add_mul]
                by_cases hl0 : len = 0 ∧ p.cap = st
                · omega
                · rw [if_neg hl0, if_neg (show ¬(j - i = 0 ∧ p.cap = st + i) by omega)]
            · unfold execOp
              simp only [ho', hv]
              simp [Instr.sliceAt, run_underlying hu, Instr.slice, hbd, run_size hz]
              by_cases hci : p.cap - st = i
              · rw [if_pos hci, if_pos hci]
              · rw [if_neg hci, if_neg hci]
          · exact (gives_fail hq).elim
        · exact (gives_fail hq).elim
      · exact (gives_fail hq).elim
    · rename_i t x lo hi b esz st len l ho' hl
      rw [hl, ho'] at hev
      have e : (Op.slice t x lo hi none).operands.toList = x :: (lo.toArray ++ hi.toArray).toList := by simp [Op.operands]
      rw [e] at hev
      split at hq
      · rename_i e hu
        split at hq
        · rename_i T C xs i j hg hb
          split at hq
          · rename_i hc
            obtain ⟨hz, hce, hz0⟩ := hc
            rcases hq with hq | ⟨q, hq, hpre⟩
            · cases hq
            injection hq with e1 e2
            rw [← e1] at hpre
            subst e2
            obtain ⟨h0, hij, hj, hn, hi⟩ := hpre
            obtain ⟨p, hp, hv⟩ := ow_R' (show (AV.v (.one (.ow b esz st len false))).R pl (a.eval x) from hev.1)
            rw [get?_eq] at hg
            cases hpn : p.nil with
            | true =>
              rcases hv with ⟨_, rfl, rfl, hv⟩ | ⟨h1, _⟩
              · obtain rfl : i = 0 := by omega
                obtain rfl : j = 0 := by omega
                refine ⟨.slice none 0 0, fun w hw => ⟨.inr ?_, ?_⟩⟩
                · simp [SV.val, owVal, hp, hpn]
                · have hbd := boundsO_run (P := P) (w := w) (ρ := a.eval) (cap := 0) true hb (by omega) (by omega) (by omega) hev.2
                  unfold execOp
                  simp only [ho', hv]
                  simp [Instr.sliceAt, run_underlying hu, Instr.slice, hbd, run_size hz]
              · rw [hpn] at h1; cases h1
            | false =>
              refine ⟨.slice (some (if p.cap - st = i.toNat then ⟨p.blk, (if len = 0 ∧ p.cap = st then 0 else st * esz), none⟩ else (⟨p.blk, (if len = 0 ∧ p.cap = st then 0 else st * esz), none⟩ : Addr).add (i.toNat * esz))) (j.toNat - i.toNat) (p.cap - st - i.toNat), fun w hw => ?_⟩
              obtain ⟨vs, hr, ho⟩ := hw b _ p hg hp
              have hcap : xs.length ≤ p.cap := by
                rcases ho.2 with ⟨h1, _⟩ | ⟨g, cap, cur, h1, _, _, h3, _⟩
                · simp [Pl.sv, hpn] at h1
                · simp only [Pl.sv, hpn, Bool.false_eq_true, if_false, Value.slice.injEq] at h1
                  omega
              rcases hv with ⟨h1, _⟩ | ⟨_, hv⟩
              · rw [hpn] at h1; cases h1
              have hbd := boundsO_run (P := P) (w := w) (ρ := a.eval) (cap := p.cap - st) true hb h0 hij (by omega) hev.2
              refine ⟨.inr ?_, ?_⟩
              · simp only [SV.val, owVal, hp, hpn, Bool.false_eq_true, if_false]
                rw [Nat.sub_sub, show (j - i).toNat = j.toNat - i.toNat by omega]
                by_cases hci : p.cap - st = i.toNat
                · rw [if_pos hci]
                  by_cases hs0 : st = 0
                  · subst hs0
                    simp [show j.toNat - i.toNat = 0 by omega, show p.cap = i.toNat by omega]
                  · have : i = 0 := by omega
                    subst this
                    simp [show j = 0 by omega, show len = 0 by omega]
                · rw [if_neg hci, Addr.add_lit, Nat.add_mul]
                  by_cases hl0 : len = 0 ∧ p.cap = st
                  · omega
                  · rw [if_neg hl0, if_neg (show ¬(j.toNat - i.toNat = 0 ∧ p.cap = st + i.toNat) by omega)]
              · unfold execOp
                simp only [ho', hv]
                simp [Instr.sliceAt, run_underlying hu, Instr.slice, hbd, run_size hz]
                by_cases hci : p.cap - st = i.toNat
                · rw [if_pos hci, if_pos hci]
                · rw [if_neg hci, if_neg hci]
          · exact (gives_fail hq).elim
        · exact (gives_fail hq).elim
      · exact (gives_fail hq).elim
    · exact (gives_fail hq).elim
end
end Go.AM
