import Derived.Test.YtbehdodaaobcdaaGreatDoorA14
import Derived.Test.YtbehdodaaobcdaaGreatDoorA12
import Derived.RangeFuncNested
set_option maxHeartbeats 4000000
namespace Go.AM
open Go
section
variable {P : Program} {S : Sums}

def After [Glob] (r : Option Nat) (A : Annos) (w0 : World) (Sx : Marks) (pl : List Pl) (K : KE) (Q : Exit → Act → World → Prop) : Prop :=
  ∀ ex env' h' pl' a' w', K ex env' h' → EnvR pl' env' a'.tmps → Mk r w0 a' w' → PE A pl pl' → HRel w0 Sx pl' h' w' → Q ex.to a' w'
def AfterO [Glob] (r : Option Nat) (A : Annos) (w0 : World) (Sx : Marks) (pl : List Pl) (K : Env → Heap → Prop) (Q : Act → World → Prop) : Prop :=
  ∀ env' h' pl' a' w', K env' h' → EnvR pl' env' a'.tmps → Mk r w0 a' w' → PE A pl pl' → HRel w0 Sx pl' h' w' → Q a' w'
def RdOk (r : Option Nat) (w0 : World) (Sx : Marks) : Prop := ∀ l, r = some l → (∃ rec, w0.heap[l]? = some (.loop rec)) ∧ ¬ Sx l

def ExecOk [Glob] (P : Program) (S : Sums) (n : Nat) : Prop := ∀ (r : Option Nat) (A : Annos) c env h K pl w0 Sx a w Q, exec P S A n c env h K → EnvR pl env a.tmps → Mk r w0 a w → RdOk r w0 Sx → A.q ≤ pl.length → HRel w0 Sx pl h w → After r A w0 Sx pl K Q → c.wpIn (FR r) 0 P Q a w
def OpsOk [Glob] (P : Program) (S : Sums) (n : Nat) : Prop := ∀ (r : Option Nat) (A : Annos) (ops : Array Oper) l env h K pl w0 Sx a w Q, execOps P S A n ops.toList l env h K → EnvR pl env a.tmps → Mk r w0 a w → A.q ≤ pl.length → HRel w0 Sx pl h w → AfterO r A w0 Sx pl K (Q .normal) → wpListIn (FR r) 0 P ops Q l a w
def Op1Ok [Glob] (P : Program) (S : Sums) (n : Nat) : Prop := ∀ (o : Oper) env h K pl w0 Sx a w next Q, exec1 P S n o.op env h K → EnvR pl env a.tmps → HRel w0 Sx pl h w →
  (∀ v av h' pl' w', K av h' → av.R pl' v → PExt pl pl' → HRel w0 Sx pl' h' w' → next (a.put o.dst v) w') → ∀ r, o.wpIn (FR r) 0 P a w next Q

theorem After.to_pe [Glob] {r : Option Nat} {A : Annos} {w0 : World} {Sx : Marks} {pl pl' : List Pl} {K : KE} {Q : Exit → Act → World → Prop} (h : After r A w0 Sx pl K Q) (hp : PE A pl pl') : After r A w0 Sx pl' K Q :=
  fun ex env' h' pl'' a' w' hk hE hd hpe hR => h ex env' h' pl'' a' w' hk hE hd (hp.trans hpe) hR
theorem AfterO.to_pe [Glob] {r : Option Nat} {A : Annos} {w0 : World} {Sx : Marks} {pl pl' : List Pl} {K : Env → Heap → Prop} {Q : Act → World → Prop} (h : AfterO r A w0 Sx pl K Q) (hp : PE A pl pl') : AfterO r A w0 Sx pl' K Q :=
  fun env' h' pl'' a' w' hk hE hd hpe hR => h env' h' pl'' a' w' hk hE hd (hp.trans hpe) hR

theorem calls_wp {f : Nat} {vals : Array Value} {o : Oper} {a : Act} {w : World} {next : Act → World → Prop} {Q : Exit → Act → World → Prop} (hr : (execOp a.eval o).run P w = .ok (.enter f vals) w) (hc : Calls P f vals w (fun e w' => ∃ v, e = .returned v ∧ next (a.put o.dst v) w')) : o.wp P a w next Q := by
  unfold Oper.wp
  rw [hr]
  refine hc.mono fun e w' ⟨v, he, hn⟩ => ?_
  subst he
  exact hn

theorem leaves_marks [Glob] {fn : Func} {tmps : Array Value} {R : Ending → World → Prop} {w0 : World} {Sx : Marks} {pl : List Pl} {h : Heap} : ∀ (Ds : List Nat) (w : World), Ds.Nodup → (∀ D ∈ Ds, w0.heap.size ≤ D ∧ w.heap[D]? = some (.deferred (some []))) → HRel w0 Sx pl h w →
    (∀ w', HRel w0 Sx pl h w' → ∃ v, (results fn tmps).run P w' = .ok v w' ∧ R (.returned v) w') → LeavesInM Fence.wide 0 P fn tmps R (Ds.map mrk) .returning w
  | [], w, _, _, hR, hv => hv w hR
  | D :: Ds, w, hnd, hD, hR, hv => by
    have hnd' := List.nodup_cons.1 hnd
    obtain ⟨h1, h2⟩ := hD D (by simp)
    refine ⟨by simp, .inl ⟨D, w.putObj D (.deferred none), rfl, run_takeDeferred h2, ?_⟩⟩
    refine leaves_marks Ds _ hnd'.2 (fun E hE => ?_) (hR.putObj _ (.inl h1) ?_) hv
    · have := hD E (by simp [hE])
      exact ⟨this.1, by rw [World.putObj_heap_other (fun e => hnd'.1 (by rw [← e]; exact hE))]; exact this.2⟩
    · rintro ⟨b, p, x, k1, k2, k3, rfl⟩
      exact not_deferred (hR.hb b x p k2 k1) k3 h2
theorem calls_of_marks [Glob] {f : Nat} {fn : Func} {c : Code} {args : Array Value} {w : World} {R : Ending → World → Prop} (hf : P.funcs[f]? = some fn) (hb : fn.body = some c)
    (h : c.wpIn (FR none) 0 P (fun ex a' w' => (ex = .normal ∨ ex = .ret) ∧ ∃ w0 Sx pl h, Mk none w0 a' w' ∧ HRel w0 Sx pl h w' ∧ ∀ w'', HRel w0 Sx pl h w'' → ∃ v, (results fn a'.tmps).run P w'' = .ok v w'' ∧ R (.returned v) w'')
      { tmps := args ++ Array.replicate (fn.ntmps - args.size) Go.undef, defers := [] } w) : Calls P f args w R := by
  refine (callsIn_wide (n := 0)).1 (callsIn_of_wp_marks hf hb trivial (wpIn_mono h ?_) rfl)
  rintro e a' w' ⟨he, w0, Sx, pl, hp, ⟨_, Ds, h1, h2, h3⟩, hR, hv⟩
  have := leaves_marks Ds w' h2 h3 hR hv
  rw [← h1] at this
  rcases he with rfl | rfl <;> exact this

theorem PE.ext {A : Annos} {pl pl' : List Pl} (h : PE A pl pl') (hq : A.q = pl.length ∨ A.plain) : PExt pl pl' := by
  rcases hq with hq | hq
  · intro b p hb
    rw [h.2 b (by rw [hq]; exact (List.getElem?_eq_some_iff.1 hb).1)]
    exact hb
  · exact h.1 hq
theorem annOf_q (S : Sums) (f : Nat) {n m : Nat} (h : n = m) : (S.annOf f n).q = m ∨ S.annOf f n = noAnn := by
  unfold Sums.annOf
  split
  · exact .inl h
  · exact .inr rfl
theorem enter_ok [Glob] {n : Nat} (hX : ExecOk P S n) {f : Nat} {fn : Func} {c : Code} (hf : P.funcs[f]? = some fn) (hb : fn.body = some c) {A : Annos} {env : Env} {h : Heap} {K : KV} {K0 : KE} (hx : exec P S A n c env h K0)
    (hK0 : ∀ ex env' h', K0 ex env' h' → (ex = .normal ∨ ex = .ret) ∧ kRes P (len' h) fn env' h' K) {w0 : World} {Sx : Marks} {pl : List Pl} {w : World} (hq : A.q = pl.length ∨ A = noAnn) (hR : HRel w0 Sx pl h w) {vals : Array Value}
    (hent : EnvR pl env (vals ++ Array.replicate (fn.ntmps - vals.size) Go.undef)) :
    Calls P f vals w (fun e w' => ∃ v av h' pl', e = .returned v ∧ av.R pl' v ∧ PExt pl pl' ∧ HRel w0 Sx pl' h' w' ∧ K av h') := by
  refine calls_of_marks hf hb (hX none A c env h _ pl w0 Sx _ w _ hx hent (Mk.nil rfl) (fun l hl => by cases hl) (by rcases hq with h | h; exact Nat.le_of_eq h; rw [h]; exact Nat.zero_le _) hR ?_)
  intro ex env' h' pl' a' w' hk hE' hd' hpe hR'
  have hpx : PExt pl pl' := hpe.ext (hq.imp id fun h => by rw [h]; exact fun k => ⟨fun _ _ => rfl, fun _ _ => rfl⟩)
  obtain ⟨he, hk⟩ := hK0 _ _ _ hk
  refine ⟨by rcases he with rfl | rfl; exact .inl rfl; exact .inr rfl, w0, Sx, pl', h', hd', hR', fun w'' hR'' => ?_⟩
  unfold kRes at hk
  split at hk
  · rename_i av hav
    obtain ⟨v, g1, g2⟩ := res_sound hE' hR''.hb hav
    obtain ⟨pl2, k1, k2, k3⟩ := trim_sound hR.len hpx hR'' g1
    exact ⟨v, g2, v, av, _, pl2, rfl, k3, k1, k2, hk⟩
  · exact hk.elim

theorem yld_R {pl : List Pl} {b : Nat} {v : Value} (h : (AV.v (.one (.yld b))).R pl v) : ∃ p, pl[b]? = some p ∧ v = .func (.yield p.blk) #[] #[] := by
  rcases h with h | h
  · cases h
  · simp only [SV.val] at h
    cases hp : pl[b]? with
    | none => simp [hp] at h
    | some p => simp [hp] at h; exact ⟨p, rfl, h.symm⟩
theorem yield_run {l : Nat} {o : Oper} {a : Act} {x : Operand} {args : Array Operand} {ts : Array TypeId} (ho : o.op = .call { callee := .value x, args, argTypes := ts })
    (hx : a.eval x = .func (.yield l) #[] #[]) (w : World) : (execOp a.eval o).run P w = (Instr.yield l (args.map a.eval)).run P w := by
  unfold execOp
  simp [ho, resolve, Deferred.ofValue, hx, invoke]
theorem putAll_R {pl : List Pl} : ∀ {ps : List Nat} {vs : List AV} {vals : List Value} {e e1 : Env} {tmps : Array Value}, EnvR pl e tmps → ArgsR pl vs vals → putAll e ps vs = some e1 →
    vals.length = ps.length ∧ EnvR pl e1 ((ps.zip vals).foldl (fun tmps (t, a) => tmps.setIfInBounds t a) tmps)
  | [], [], [], e, e1, tmps, hE, _, h => by simp only [putAll, Option.some.injEq] at h; subst h; exact ⟨rfl, hE⟩
  | [], [], _ :: _, _, _, _, _, h, _ => h.elim
  | [], _ :: _, _, _, _, _, _, _, h => by simp [putAll] at h
  | _ :: _, [], _, _, _, _, _, _, h => by simp [putAll] at h
  | _ :: _, _ :: _, [], _, _, _, _, h, _ => h.elim
  | p :: ps, v :: vs, x :: vals, e, e1, tmps, hE, hA, h => by
    simp only [putAll] at h
    obtain ⟨h1, h2⟩ := putAll_R (hE.set p hA.1) hA.2 h
    exact ⟨by simp [h1], h2⟩
theorem yield_ok [Glob] {n : Nat} (hX : ExecOk P S n) {o : Oper} {x : Operand} {args : Array Operand} {ts : Array TypeId} (ho : o.op = .call { callee := .value x, args, argTypes := ts })
    {env : Env} {h : Heap} {K : KV} {pl : List Pl} {w0 : World} {Sx : Marks} {a : Act} {w : World} {next : Act → World → Prop} {Q : Exit → Act → World → Prop} {b : Nat} {p : Pl} (hp : pl[b]? = some p) (hxv : a.eval x = .func (.yield p.blk) #[] #[])
    {e : List AV} {ps : Array Tmp} {asg body : Code} (hg : h[b]? = some (.lp e ps asg body .none)) {e1 : Env} (hput : putAll e ps.toList (evs env args.toList) = some e1)
    (hx : exec P S noAnn n asg e1 (set h b .gone) (fun ex e2 h2 => match ex with
            | .normal => exec P S noAnn n body e2 h2 (fun ex _ h3 => endLp b e ps asg body K ex h3)
            | _ => False)) (hE : EnvR pl env a.tmps) (hR : HRel w0 Sx pl h w)
    (hN : ∀ v av h' pl' w', K av h' → av.R pl' v → PExt pl pl' → HRel w0 Sx pl' h' w' → next (a.put o.dst v) w') (r : Option Nat) : o.wpIn (FR r) 0 P a w next Q := by
  obtain ⟨fn, tmps, D, hE0, hrec⟩ := hR.hb b _ p hg hp
  have hlt : p.blk < w.heap.size := (Array.getElem?_eq_some_iff.1 hrec).1
  have hown := hR.own b p _ hp hg rfl
  obtain ⟨hlen, hE1⟩ := putAll_R hE0 (evs_R hE args.toList) hput
  have hsz : (args.map a.eval).size = ps.size := by simpa using hlen
  have hfold : (ps.zip (args.map a.eval)).foldl (fun tmps (t, a) => tmps.setIfInBounds t a) tmps = ((ps.toList.zip (args.toList.map a.eval)).foldl (fun tmps (t, a) => tmps.setIfInBounds t a) tmps) := by
    rw [← Array.foldl_toList]
    congr 1
    simp [Array.toList_zip]
  rw [← hfold] at hE1
  have hy := run_yield (P := P) (args := args.map a.eval) hrec hsz
  refine ⟨fun _ _ => trivial, ?_⟩
  rw [Oper.semAt_eq _ a.eval o (fun c hc => by rw [ho] at hc; cases hc), yield_run ho hxv w, hy, Oper.uponIn_round]
  refine ⟨fun h => by simp [FR, Fence.wide] at h, roundIn_of_wpIn (F := FR r) trivial ?_⟩
  have hR1 := hR.forget b
  have hf1 := hR.forget_free hp hg rfl
  refine hX (some p.blk) noAnn asg e1 _ _ pl w ⟨aliveAt pl (set h b .gone), Sx.R⟩ _ w _ hx hE1 (Mk.nil rfl) (fun l hl => by cases hl; exact ⟨⟨_, hrec⟩, hf1⟩) (Nat.zero_le _) hR1.base ?_
  intro ex env2 h2 pl2 a2 w2 hk hE2 hm2 hpe2 hB2
  have hx2 : PExt pl pl2 := hpe2.ext (.inr fun k => ⟨fun _ _ => rfl, fun _ _ => rfl⟩)
  cases ex with
  | exit id => exact hk.elim
  | ret => exact hk.elim
  | normal =>
    have hR2 := hR1.unbase hB2
    have hf2 := unlaid hB2 hlt hf1
    have hrec2 := (hB2.fr.block p.blk hlt hf1).trans hrec
    have hlt2 : p.blk < w2.heap.size := (Array.getElem?_eq_some_iff.1 hrec2).1
    refine ⟨_, run_beginRound hrec2 rfl, ?_⟩
    have hR2' := hR2.putObj (.loop { { state := Jmp.none.st, pending := Jmp.none.pend, fn, tmps, params := ps, assign := asg, body, defers := D : Loop } with state := .busy }) hown hf2
    have hrec2' : (w2.putObj p.blk (.loop { { state := Jmp.none.st, pending := Jmp.none.pend, fn, tmps, params := ps, assign := asg, body, defers := D : Loop } with state := .busy })).heap[p.blk]? = some (.loop { { state := Jmp.none.st, pending := Jmp.none.pend, fn, tmps, params := ps, assign := asg, body, defers := D : Loop } with state := .busy }) := World.putObj_heap_same hlt2
    refine hX (some p.blk) noAnn body env2 h2 _ pl2 _ ⟨aliveAt pl2 h2, Sx.R⟩ a2 _ _ hk hE2 (Mk.nil (hm2.1 (by simp))) (fun l hl => by cases hl; exact ⟨⟨_, hrec2'⟩, hf2⟩) (Nat.zero_le _) hR2'.base ?_
    intro ex env3 h3 pl3 a3 w3 hk3 hE3 hm3 hpe3 hB3
    have hx3 : PExt pl2 pl3 := hpe3.ext (.inr fun k => ⟨fun _ _ => rfl, fun _ _ => rfl⟩)
    have hR3 := hR2'.unbase hB3
    have hlt2' : p.blk < (w2.putObj p.blk (.loop { { state := Jmp.none.st, pending := Jmp.none.pend, fn, tmps, params := ps, assign := asg, body, defers := D : Loop } with state := .busy })).heap.size := by simpa using hlt2
    have hf3 := unlaid hB3 hlt2' hf2
    have hrec3 := (hB3.fr.block p.blk hlt2' hf2).trans hrec2'
    have hlt3 : p.blk < w3.heap.size := (Array.getElem?_eq_some_iff.1 hrec3).1
    have hp3 : pl3[b]? = some p := hx3 _ _ (hx2 _ _ hp)
    unfold endLp at hk3
    split at hk3
    · rename_i hg3
      rw [get?_eq] at hg3
      have done : ∀ (j : Jmp) (u : Bool), u = j.pend.isNone → K (.v (.one (.cb u))) (set h3 b (.lp e ps asg body j)) → ∃ v w', (Instr.endRound p.blk j.pend).run P w3 = .ok v w' ∧ next (a.put o.dst v) w' := fun j u hu hkk => by
        refine ⟨_, _, run_endRound j.pend hrec3, hN _ _ _ pl3 _ hkk (by rw [hu]; exact .inr rfl) (hx2.trans hx3) ((hR3.putObj _ hown hf3).revive hg3 hp3 hf3 hown (by simpa using hlt3) ⟨fn, tmps, D, (hE0.ext hx2).ext hx3, ?_⟩)⟩
        rw [World.putObj_heap_same hlt3]
        cases j <;> rfl
      cases ex with
      | normal => exact done .none true rfl hk3
      | ret => exact done .ret false rfl hk3
      | exit id => exact done (.exit id) false rfl hk3
    · exact hk3.elim

theorem op1_ok [Glob] (hF : Fine P) (hP : PureOk P S) (hS : SpecOk P S) {n : Nat} (hX : ExecOk P S n) : Op1Ok P S (n + 1) := by
  intro o env h K pl w0 Sx a w next Q hx hE hR hN r
  unfold exec1 at hx
  split at hx
  · rename_i x args ts ho
    have hx' := hE.ev (a := a) x
    have hnd : ∀ c, o.op ≠ .defer c := fun c hc => by rw [ho] at hc; cases hc
    split at hx
    · rename_i f cap he
      rw [he] at hx'
      obtain ⟨vs, hvs, hfx⟩ := fn_R hx'
      have hargs : ArgsR pl (app (evs env args.toList) (capArgs cap)) ((args.map a.eval ++ vs.toArray).toList) := by
        rw [app_eq, Array.toList_append, Array.toList_map]
        exact (evs_R hE _).append (capArgs_R hvs)
      split at hx
      · rename_i p hp
        obtain ⟨av, g1, g2⟩ := gives_kOR hx
        obtain ⟨⟨fn, hf, hb⟩, hpure⟩ := hP f p hp
        obtain ⟨v, hv⟩ := hpure _ av g1 w0 Sx pl h _ hargs
        have hvw := hv w hR
        rw [Array.toArray_toList] at hvw
        exact opR hnd (calls_wp (call_run hF hf hb ho hfx w) (hvw.2.mono fun e w' ⟨he, hR'⟩ => ⟨v, he, hN _ _ _ _ _ g2 hvw.1 (PExt.refl pl) hR'⟩))
      · split at hx
        · rename_i sp hsp
          obtain ⟨⟨fn, hf, hb⟩, hspec⟩ := hS.1 f sp hsp
          have hc := hspec _ _ _ hx w0 Sx pl w _ hR hargs
          rw [Array.toArray_toList] at hc
          exact opR hnd (calls_wp (call_run hF hf hb ho hfx w) (hc.mono fun e w' ⟨v, av, h', pl', he, hv, hp, hR', hk⟩ => ⟨v, he, hN _ _ _ _ _ hk hv hp hR'⟩))
        · split at hx
          · rename_i p hp
            obtain ⟨av, g1, g2⟩ := gives_kOR hx
            obtain ⟨v, hv, hrun⟩ := hS.2.1 f p hp _ av g1 pl _ hargs
            rw [Array.toArray_toList] at hrun
            exact opR hnd (wp_of_run (by rw [call_run0 ho hfx w]; exact hrun w) (hN v av h pl w g2 hv (PExt.refl pl) hR))
          split at hx
          · rename_i fn hf
            split at hx
            · rename_i c hb
              have henter : (execOp a.eval o).run P w = .ok (.enter (match S.twin f with | some g => g | none => f) (args.map a.eval ++ vs.toArray)) w := by
                cases htw : S.twin f with
                | some g => rw [call_run0 ho hfx w]; exact hS.2.2 f g htw _ w
                | none => rw [htw] at hf; exact call_run hF hf (by rw [hb]; rfl) ho hfx w
              refine opR hnd (calls_wp henter ?_)
              have hent := enter_R hargs fn.ntmps
              rw [Array.toArray_toList] at hent
              refine (enter_ok hX hf hb hx (K := K) (fun ex env' h' hk => ?_) (show (S.annOf f (len' h)).q = pl.length ∨ _ from annOf_q S f (show len' h = pl.length by rw [hR.len]; exact len'_eq h)) hR hent).mono fun e w' ⟨v, av, h', pl', he, hv, hpx, hR', hk⟩ => ⟨v, he, hN _ _ _ _ _ hk hv hpx hR'⟩
              cases ex with
              | normal => exact ⟨.inl rfl, hk⟩
              | ret => exact ⟨.inr rfl, hk⟩
              | exit id => exact hk.elim
            · exact hx.elim
          · exact hx.elim
    · rename_i b he
      rw [he] at hx'
      obtain ⟨p, hp, hxv⟩ := yld_R hx'
      split at hx
      · rename_i e ps asg body hg
        rw [get?_eq] at hg
        split at hx
        · rename_i e1 hput
          exact yield_ok hX ho hp hxv hg hput hx hE hR hN r
        · exact hx.elim
      · exact hx.elim
    · exact hx.elim
  · exact opR (plain_of_wp (aop_sound hE hR o hx fun v av h' pl' w' _ _ _ _ => put_defers _ _ _)) (aop_sound hE hR o hx hN)

theorem ops_ok [Glob] {n : Nat} (hO : OpsOk P S n) (h1 : Op1Ok P S n) : OpsOk P S (n + 1) := by
  intro r A ops l env h K pl w0 Sx a w Q hx hE hd hq hR hQ
  cases l with
  | nil =>
    unfold execOps at hx
    exact wpListIn_nil (hQ env h pl a w hx hE hd (PE.refl A pl) hR)
  | cons o l =>
    unfold execOps at hx
    have hgs := guard_spec hE ops o
    split at hx <;> rename_i hgv <;> rw [hgv] at hgs
    · unfold wpListIn
      rw [if_pos hgs]
      have next : ∀ v av h' pl' w', execOps P S A n ops.toList l (putD env o.dst av) h' K → av.R pl' v → PExt pl pl' → HRel w ⟨aliveAt pl h, Sx.R⟩ pl' h' w' → _ := fun v av h' pl' w' hk hv hp hR' => by
        have hpe := PE.of_ext hq hp
        exact hO r A ops l _ h' K pl' w0 Sx _ w' Q hk ((hE.ext hp).put o.dst hv) (hd.over hR hR' (put_defers _ _ _)) (hpe.len hq) (hR.unbase hR') (hQ.to_pe hpe)
      split at hx
      · split at hx
        · rename_i s d x ho
          obtain ⟨u, av, h', pl', w', g1, g2, g3, g4, g5⟩ := convB_sound (P := P) hR.base (hE.ev (a := a) x) hx
          refine opR (fun c hc => by rw [ho] at hc; cases hc) (wp_of_run (v := u) (w' := w') ?_ (next _ _ _ _ _ g2 g3 g4 g5))
          unfold execOp
          simp [ho, g1]
        · exact hx.elim
      · exact h1 o env h _ pl w _ a w _ Q hx hE hR.base next r
    · unfold wpListIn
      rw [if_neg (by simp [hgs])]
      exact ⟨fun _ _ => trivial, hO r A ops l _ h K pl w0 Sx _ w Q hx (hE.put o.dst (undef_R pl)) (hd.step (put_defers _ _ _) (fun _ h => h)) hq hR hQ⟩
    · rename_i b d
      have hx := (S.on.h _ _ _).1 hx
      obtain ⟨_, hv⟩ := hgs
      cases b with
      | true => exact hO r A ops (o :: l) _ h K pl w0 Sx a w Q (hx.1 rfl) (hE.same d (av := mkB true true) (by rw [hv]; exact mkB_R pl true true)) hd hq hR hQ
      | false => exact hO r A ops (o :: l) _ h K pl w0 Sx a w Q (hx.2 rfl) (hE.same d (av := mkB true false) (by rw [hv]; exact mkB_R pl true false)) hd hq hR hQ
    · exact hx.elim

theorem HRel.drew [Glob] {w0 : World} {Sx : Marks} {pl : List Pl} {h : Heap} {w : World} (hR : HRel w0 Sx pl h w) : HRel w0 Sx pl h { w with drawn := w.drawn + 1 } :=
  ⟨hR.len, ⟨hR.fr.os, hR.fr.tape, hR.fr.output, hR.fr.size, hR.fr.block⟩, fun b x p hx hp => by
    have := hR.hb b x p hx hp
    exact this.mono (PExt.refl pl) (fun _ => rfl) (fun _ => rfl), hR.lt, hR.own, hR.inj, hR.ro, hR.rok, fun d => Nat.le_succ_of_le (hR.drw d)⟩

theorem exec_ok [Glob] (hF : Fine P) (hP : PureOk P S) (hM : SpecMono S) {n : Nat} (hall : ∀ m, m ≤ n → ExecOk P S m) (hO : OpsOk P S n) (h1 : OpsSound P S n) : ExecOk P S (n + 1) := by
  have hX := hall n (Nat.le_refl n)
  intro r A c env h K pl w0 Sx a w Q hx hE hd hrd hq hR hQ
  cases c with
  | skip => exact wpIn_skip (hQ .normal env h pl a w hx hE hd (PE.refl A pl) hR)
  | label l => exact wpIn_label (hQ .normal env h pl a w hx hE hd (PE.refl A pl) hR)
  | exit id => exact wpIn_exit (hQ (.exit id) env h pl a w hx hE hd (PE.refl A pl) hR)
  | ret => exact wpIn_ret (hQ .ret env h pl a w hx hE hd (PE.refl A pl) hR)
  | goto l => exact hx.elim
  | refuse s => exact hx.elim
  | rangeFunc g ps asg body =>
    unfold exec at hx
    simp only at hx
    have hx' := hE.ev (a := a) g
    split at hx
    · rename_i f cap he
      rw [he] at hx'
      obtain ⟨vs, hvs, hfx⟩ := fn_R hx'
      split at hx
      · rename_i fn hf
        split at hx
        · rename_i c hb
          rw [forceE_eq] at hx
          have hn : ¬ fn.name = "runtime.NumGoroutine" := by simpa using hF.name f fn hf
          have hb2 : ¬ fn.body = none := by intro h; rw [h] at hb; cases hb
          have hlh : len' h = pl.length := by rw [hR.len]; exact len'_eq h
          have fin : ∀ (l : Nat) (mk : List Deferred) (w1 : World) (fi : FuncId) (D : Nat), w0.heap.size ≤ l → w.heap.size ≤ l → w1.heap[l]? = some (.loop { state := .ready, pending := none, fn := fi, tmps := a.tmps, params := ps, assign := asg, body, defers := D }) →
              w1.os = w.os → w1.tape = w.tape → w1.output = w.output → w1.drawn = w.drawn → w.heap.size ≤ w1.heap.size → (∀ k, k < w.heap.size → w1.heap[k]? = w.heap[k]?) → Mk r w0 { a with defers := mk ++ a.defers } w1 →
              CallsIn (FR r) 0 P f (#[.func (.yield l) #[] #[]] ++ vs.toArray) w1 (rangePost (FR r) 0 P l Q { a with defers := mk ++ a.defers }) := by
            intro l mk w1 fi D hl0 hl hrec ho ht hou hdr hsz hold hm
            have hl1 : l < w1.heap.size := (Array.getElem?_eq_some_iff.1 hrec).1
            obtain ⟨hR1, hp1⟩ := hR.fresh (w' := w1) (x' := .lp env ps asg body .none) (p' := ⟨l, false, 0⟩) ⟨ho.trans hR.fr.os, ht.trans hR.fr.tape, hou.trans hR.fr.output, Nat.le_trans hR.fr.size hsz, fun k hk hS => (hold k (Nat.lt_of_lt_of_le hk hR.fr.size)).trans (hR.fr.block k hk hS)⟩ hsz
              (fun b p x hp hx ha => hold _ (hR.lt b p x hp hx ha)) ⟨fi, a.tmps, D, hE.ext (PExt.push pl _), hrec⟩ (fun _ => ⟨hl1, .inl hl0, fun b p x hp hx ha => by have := hR.lt b p x hp hx ha; simp only; omega⟩) (fun h => nomatch h) (fun _ => Nat.le_of_eq hdr.symm)
            have hpl : (pl ++ [(⟨l, false, 0⟩ : Pl)])[len' h]? = some ⟨l, false, 0⟩ := by rw [hlh]; simp
            have hargs : ArgsR (pl ++ [⟨l, false, 0⟩]) (.v (.one (.yld (len' h))) :: capArgs cap) (Value.func (.yield l) #[] #[] :: vs) :=
              ⟨.inr (by simp only [SV.val, hpl]), capArgs_R (capVals_ext hp1 hvs)⟩
            have hent := enter_R hargs fn.ntmps
            have e1 : (Value.func (.yield l) #[] #[] :: vs).toArray = #[.func (.yield l) #[] #[]] ++ vs.toArray := by simp
            rw [e1] at hent
            rw [app_eq h] at hx
            refine callsR ((enter_ok hX hf hb hx (K := fun _ h2 => outLp (len' h) env h2 K) (fun ex env' h' hk => ?_) (show (S.annOf f (len' h + 1)).q = (pl ++ [(⟨l, false, 0⟩ : Pl)]).length ∨ _ from annOf_q S f (by simp [hlh])) hR1.base hent).mono ?_)
            · have e2 : len' (h ++ [Blk.lp env ps asg body .none]) = len' h + 1 := by simp [len'_eq]
              rw [e2]
              cases ex with
              | normal => exact ⟨.inl rfl, hk⟩
              | ret => exact ⟨.inr rfl, hk⟩
              | exit id => exact hk.elim
            · rintro e w3 ⟨v, av, h3, pl3, rfl, hv, hp3, hB3, hk⟩
              have hR3 := hR1.unbase hB3
              have hm3 := hm.over hR1 hB3 rfl
              unfold outLp at hk
              split at hk
              · rename_i e' ps' asg' body' j hg3
                rw [get?_eq] at hg3
                have hq3 := hp3 _ _ hpl
                obtain ⟨fn3, tmps3, D3, _, hrec3⟩ := hR3.hb _ _ _ hg3 hq3
                have hend := run_endLoop (P := P) hrec3 (by cases j <;> simp [Jmp.st])
                have hR4 := (hR3.forget (len' h)).putObj (.loop { { state := j.st, pending := j.pend, fn := fn3, tmps := tmps3, params := ps', assign := asg', body := body', defers := D3 : Loop } with state := .exhausted }) (.inl hl0) (hR3.forget_free hq3 hg3 rfl)
                have hm4 : Mk r w0 { a with defers := mk ++ a.defers } (w3.putObj l (.loop { { state := j.st, pending := j.pend, fn := fn3, tmps := tmps3, params := ps', assign := asg', body := body', defers := D3 : Loop } with state := .exhausted })) :=
                  hm3.step rfl (fun E hE => by
                    have hrec3' : w3.heap[l]? = _ := hrec3
                    rw [World.putObj_heap_other (fun e => by rw [e, hrec3'] at hE; cases hE)]; exact hE)
                have hfin := hQ j.ex env _ pl3 { a with defers := mk ++ a.defers } _ hk ((hE.ext hp1).ext hp3) hm4 (PE.of_ext hq (hp1.trans hp3)) hR4
                refine ⟨j.pend, _, hend, ?_⟩
                cases j with
                | none => exact hfin
                | ret => exact wpIn_ret hfin
                | exit id => exact wpIn_exit hfin
              · exact hk.elim
          refine wpIn_rangeFunc fun fi _ => ?_
          have hres : ∀ (l : Nat) (w1 : World), (resolve a.eval (rangeCall g l) 0).run P w1 = .ok { target := .fn (.func f) vs.toArray, args := #[.func (.yield l) #[] #[]] } w1 := fun l w1 => by
            simp only [resolve, hfx]
            simp [go_sem]
          have hinv : ∀ (l : Nat) (w1 : World), (invoke (.fn (.func f) vs.toArray) #[.func (.yield l) #[] #[]]).run P w1 = .ok (.enter f (#[.func (.yield l) #[] #[]] ++ vs.toArray)) w1 := fun l w1 => by
            simp [invoke, callFunc, go_sem, hf, hb2, hn]
          have hdep : (FR r).depth.isSome = true → 1 ≤ 0 := fun h => by simp [FR, Fence.wide] at h
          cases r with
          | none =>
            refine ⟨_, _, _, _, _, f, _, _, run_enterLoop_outer fi a.tmps ps asg body, hres _ _, fun _ _ => trivial, hinv _ _, hdep, fin _ _ _ fi w.heap.size (Nat.le_succ_of_le hR.fr.size) (Nat.le_succ _) ?_ rfl rfl rfl rfl ?_ ?_ ?_⟩
            · have := World.alloc_heap_new (w.alloc (.deferred (some []))) (.loop { state := .ready, pending := none, fn := fi, tmps := a.tmps, params := ps, assign := asg, body, defers := w.heap.size })
              simpa using this
            · simp; omega
            · intro k hk
              show ((w.heap.push _).push _)[k]? = _
              rw [Array.getElem?_push, if_neg (by simp; omega), Array.getElem?_push, if_neg (by omega)]
            · obtain ⟨h0, Ds, h1', h2', h3'⟩ := hd
              have hlt : ∀ D ∈ Ds, D < w.heap.size := fun D hD => (Array.getElem?_eq_some_iff.1 (h3' D hD).2).1
              refine ⟨fun h => absurd rfl h, w.heap.size :: Ds, by simp [h1', mrk], List.nodup_cons.2 ⟨fun h => by have := hlt _ h; omega, h2'⟩, fun D hD => ?_⟩
              rcases List.mem_cons.1 hD with rfl | hD
              · refine ⟨hR.fr.size, ?_⟩
                show ((w.heap.push _).push _)[w.heap.size]? = _
                rw [Array.getElem?_push, if_neg (by simp)]
                simp
              · refine ⟨(h3' D hD).1, ?_⟩
                have := hlt D hD
                show ((w.heap.push _).push _)[D]? = _
                rw [Array.getElem?_push, if_neg (by simp; omega), Array.getElem?_push, if_neg (by omega)]
                exact (h3' D hD).2
          | some l0 =>
            obtain ⟨⟨r0, hr0⟩, hS0⟩ := hrd l0 rfl
            have hr0' : w.heap[l0]? = some (.loop r0) := (hR.fr.block l0 (Array.getElem?_eq_some_iff.1 hr0).1 hS0).trans hr0
            refine ⟨_, _, _, _, _, f, _, _, run_enterLoop_inner hr0' fi a.tmps ps asg body, hres _ _, fun _ _ => trivial, hinv _ _, hdep, fin _ _ _ fi r0.defers hR.fr.size (Nat.le_refl _) ?_ rfl rfl rfl rfl ?_ ?_ ?_⟩
            · exact World.alloc_heap_new w _
            · simp
            · intro k hk
              show (w.heap.push _)[k]? = _
              rw [Array.getElem?_push, if_neg (by omega)]
            · refine hd.step (by simp) (fun D hD => ?_)
              have := (Array.getElem?_eq_some_iff.1 hD).1
              show (w.heap.push _)[D]? = _
              rw [Array.getElem?_push, if_neg (by omega)]
              exact hD
        · exact hx.elim
      · exact hx.elim
    · exact hx.elim
  | scope b => exact hx.elim
  | seq x y =>
    unfold exec at hx
    simp only at hx
    refine wpIn_seq ?_
    split at hx
    · refine hX r A x env h _ pl w0 Sx a w _ hx hE hd hrd hq hR ?_
      intro ex env' h' pl' a' w' hk hE' hd' hpe hR'
      cases ex with
      | normal => exact hX r A y env' h' K pl' w0 Sx a' w' Q hk hE' hd' hrd (hpe.len hq) hR' (hQ.to_pe hpe)
      | exit id => exact hQ (.exit id) env' h' pl' a' w' hk hE' hd' hpe hR'
      | ret => exact hQ .ret env' h' pl' a' w' hk hE' hd' hpe hR'
    · rename_i L Ls hL
      refine hX r A x env h _ pl w0 Sx a w _ hx.1 hE hd hrd hq hR ?_
      intro ex env' h' pl' a' w' hk hE' hd' hpe hR'
      cases ex with
      | normal =>
        obtain ⟨M, hM, z, hm⟩ := anyM_get hk
        rw [MatchTo_eq] at hm
        obtain ⟨pl2, hR2, hE2, hp2⟩ := MatchBy_sound hm hR' hE' (hpe.len hq)
        have hpe2 : PE A pl pl2 := ⟨fun hpl => absurd hL (by rw [(hpl _).2]; simp), fun b hb => (hp2 b hb).trans (hpe.2 b hb)⟩
        exact hX r A y _ _ K pl2 w0 Sx a' w' Q (allM_get hx.2 M hM z) hE2 hd' hrd (hpe2.len hq) hR2 (hQ.to_pe hpe2)
      | exit id => exact hQ (.exit id) env' h' pl' a' w' hk hE' hd' hpe hR'
      | ret => exact hQ .ret env' h' pl' a' w' hk hE' hd' hpe hR'
  | cond c x y =>
    unfold exec at hx
    simp only at hx
    have hc := hE.ev (a := a) c
    split at hx
    · rename_i he
      rw [he] at hc
      exact wpIn_cond_true (cb_R hc) (hX r A x env h K pl w0 Sx a w Q hx hE hd hrd hq hR hQ)
    · rename_i he
      rw [he] at hc
      exact wpIn_cond_false (cb_R hc) (hX r A y env h K pl w0 Sx a w Q hx hE hd hrd hq hR hQ)
    · rename_i b he
      rw [he] at hc
      have hx := (S.on.h _ _ _).1 hx
      exact wpIn_cond_split (sb_R hc) (fun hb => hX r A x env h K pl w0 Sx a w Q (hx.1 hb) hE hd hrd hq hR hQ) (fun hb => hX r A y env h K pl w0 Sx a w Q (hx.2 hb) hE hd hrd hq hR hQ)
    · exact hx.elim
  | block id body =>
    unfold exec at hx
    simp only at hx
    refine wpIn_block (hX r A body env h _ pl w0 Sx a w _ hx hE hd hrd hq hR ?_)
    intro ex env' h' pl' a' w' hk hE' hd' hpe hR'
    cases ex with
    | normal => exact hQ .normal env' h' pl' a' w' hk hE' hd' hpe hR'
    | ret => exact hQ .ret env' h' pl' a' w' hk hE' hd' hpe hR'
    | exit i =>
      simp only at hk
      show Exit.inBlock id Q (.exit i) a' w'
      unfold Exit.inBlock
      simp only
      split at hk
      · rename_i e; rw [if_pos e]; exact hQ .normal env' h' pl' a' w' hk hE' hd' hpe hR'
      · rename_i e; rw [if_neg e]; exact hQ (.exit i) env' h' pl' a' w' hk hE' hd' hpe hR'
  | loop body =>
    have key : ∀ m, m ≤ n + 1 → ∀ env h pl' a w, exec P S A m (.loop body) env h K → EnvR pl' env a.tmps → Mk r w0 a w → PE A pl pl' → HRel w0 Sx pl' h w → LoopR r P body Q a w := by
      intro m
      induction m with
      | zero => intro _ env h pl' a w hx; unfold exec at hx; exact hx.elim
      | succ m ih =>
        intro hm env h pl' a w hx hE hd hpe hR
        unfold exec at hx
        simp only [forceE_eq, forceH_eq] at hx
        cases hA : A.loop (firstRegion body) env h with
        | none =>
          simp only [hA] at hx
          refine LoopR.step ?_
          refine hall m (by omega) r A body env h _ pl' w0 Sx a w _ hx hE hd hrd (hpe.len hq) hR ?_
          intro ex env' h' pl2 a' w' hk hE' hd' hpe' hR'
          cases ex with
          | normal => exact ih (by omega) env' h' pl2 a' w' hk hE' hd' (hpe.trans hpe') hR'
          | exit id => exact hQ (.exit id) env' h' pl2 a' w' hk hE' hd' (hpe.trans hpe') hR'
          | ret => exact hQ .ret env' h' pl2 a' w' hk hE' hd' (hpe.trans hpe') hR'
        | some L =>
          simp only [hA] at hx
          obtain ⟨⟨z, hm0⟩, hround⟩ := hx
          rw [MatchTo_eq] at hm0
          have hnp : ∀ {pl2 : List Pl}, (A.plain → PExt pl pl2) := fun hpl => absurd hA (by rw [(hpl _).1]; simp)
          obtain ⟨pl2, hR2, hE2, hp2⟩ := MatchBy_sound hm0 hR hE (hpe.len hq)
          refine LoopR.ghost (fun k a w => ∃ z pl', L.mu z = k ∧ EnvR pl' (L.inv z).1 a.tmps ∧ Mk r w0 a w ∧ PE A pl pl' ∧ HRel w0 Sx pl' (L.inv z).2 w) ?_ (L.mu z) a w ⟨z, pl2, rfl, hE2, hd, ⟨hnp, fun b hb => (hp2 b hb).trans (hpe.2 b hb)⟩, hR2⟩
          intro k a w ⟨z, pl', hmu, hE, hd, hpe, hR⟩
          refine hall m (by omega) r A body _ _ _ pl' w0 Sx a w _ (hround z) hE hd hrd (hpe.len hq) hR ?_
          intro ex env' h' pl3 a' w' hk hE' hd' hpe' hR'
          have hpe3 := hpe.trans hpe'
          cases ex with
          | normal =>
            obtain ⟨y, hlt, hm⟩ := hk
            rw [MatchTo_eq] at hm
            obtain ⟨pl4, hR4, hE4, hp4⟩ := MatchBy_sound hm hR' hE' (hpe3.len hq)
            exact ⟨L.mu y, by omega, y, pl4, rfl, hE4, hd', ⟨hnp, fun b hb => (hp4 b hb).trans (hpe3.2 b hb)⟩, hR4⟩
          | exit id => exact hQ (.exit id) env' h' pl3 a' w' hk hE' hd' hpe3 hR'
          | ret => exact hQ .ret env' h' pl3 a' w' hk hE' hd' hpe3 hR'
    exact (key (n + 1) (Nat.le_refl _) env h pl a w hx hE hd (PE.refl A pl) hR).wp
  | region id ops draw =>
    unfold exec at hx
    simp only [forceE_eq, forceH_eq] at hx
    cases draw with
    | false =>
      simp only [Bool.false_eq_true, if_false] at hx
      exact wpIn_region_list (hO r A ops ops.toList env h _ pl w0 Sx a w Q hx hE hd hq hR (fun env' h' pl' a' w' hk hE' hd' hpe hR' => hQ .normal env' h' pl' a' w' hk hE' hd' hpe hR'))
    | true =>
      simp only [if_true] at hx
      split at hx
      · rename_i hlex
        rw [Bool.and_eq_true, Bool.and_eq_true] at hlex
        refine regionR_quiet (C := HRel w ⟨aliveAt pl h, Sx.R⟩ pl h) hF.mixed hlex.1.1 hR.base.drew (execQ_sound hF hP ⟨w, hR.base⟩ ops.toList env a hx hE rfl ?_)
        intro env' a' hk hE' hd' w' hR'
        exact hQ .normal env' h pl a' w' hk hE' (hd.over hR hR' hd') (PE.refl A pl) (hR.unbase hR')
      · split at hx
        · rename_i hlex
          rw [Bool.and_eq_true] at hlex
          rw [takeN_eq, dropN_eq] at hx
          refine regionR_quiet_tail (C := HRel w ⟨aliveAt pl h, Sx.R⟩ pl h) _ hF.mixed hlex.1 hR.base.drew (execQ_sound hF hP ⟨w, hR.base⟩ _ env a hx hE rfl ?_)
          intro env' a' hk hE' hd' w' hR'
          exact hO r A ops _ env' h _ pl w0 Sx a' w' Q hk hE' (hd.over hR hR' hd') hq (hR.unbase hR') (fun env' h' pl' a' w' hk hE' hd' hpe hR' => hQ .normal env' h' pl' a' w' hk hE' hd' hpe hR')
        · split at hx
          · rename_i hap
            have hL0 : (Array.replicate ops.size false).size = ops.size := by simp
            have hleft : left ops (Array.replicate ops.size false) ≤ ops.size := Nat.le_trans List.countP_le_length (by simp)
            have hAA := plan_AA hM hap n (Nat.le_refl n) ops.size (Array.replicate ops.size false) env h hx (fun j oj _ hl => by rw [getD_replicate_false] at hl; cases hl) hL0 hleft
            refine wpIn_region_any hF.mixed (AA_sound h1 hap hq (Q := Q) (fun env' h' pl' a' w' hk hE' hd' hpe hR' => hQ .normal env' h' pl' a' w' hk hE' hd' hpe hR') _ _ _ _ _ _ hAA ⟨⟨pl, fun _ => 0, hE, hR.drew, PE.refl A pl, fun i hp => ?_, fun i i' hp => ?_⟩, hd.drew, hL0⟩)
            · simp only [pendOf, getD_replicate_false, Bool.and_false, Bool.false_and, Bool.false_eq_true] at hp
            · simp only [pendOf, getD_replicate_false, Bool.and_false, Bool.false_and, Bool.false_eq_true] at hp
          · exact hx.elim

theorem all_ok [Glob] (hF : Fine P) (hP : PureOk P S) (hS : SpecOk P S) (hM : SpecMono S) : ∀ n, (∀ m, m ≤ n → ExecOk P S m) ∧ OpsOk P S n ∧ OpsSound P S n
  | 0 => by
    refine ⟨fun m hm => ?_, ?_, ?_⟩
    · have : m = 0 := by omega
      subst this
      intro r A c env h K pl w0 Sx a w Q hx
      unfold exec at hx
      exact hx.elim
    · intro r A ops l env h K pl w0 Sx a w Q hx
      unfold execOps at hx
      exact hx.elim
    · intro m hm o env h K pl w0 Sx a w next Q hx
      have : m = 0 := by omega
      subst this
      unfold exec1 at hx
      exact hx.elim
  | n + 1 => by
    obtain ⟨h1, h2, h3⟩ := all_ok hF hP hS hM n
    refine ⟨fun m hm => ?_, ops_ok h2 (h3 n (Nat.le_refl n)), fun m hm => ?_⟩
    · by_cases e : m ≤ n
      · exact h1 m e
      · have : m = n + 1 := by omega
        subst this
        exact exec_ok hF hP hM h1 h2 h3
    · by_cases e : m ≤ n
      · exact h3 m e
      · have : m = n + 1 := by omega
        subst this
        exact op1_ok hF hP hS (h1 n (Nat.le_refl n))

theorem call_sound [Glob] (hF : Fine P) (hP : PureOk P S) (hS : SpecOk P S) (hM : SpecMono S) {f : Nat} {fn : Func} (hf : P.funcs[f]? = some fn) {A : Annos} {n : Nat} {args : List AV} {h : Heap} {K : KV} (hc : call P S A n fn args h K)
    (hq : A.q = h.length ∨ A = noAnn) {w0 : World} {Sx : Marks} {pl : List Pl} {w : World} {vals : List Value} (hR : HRel w0 Sx pl h w) (hargs : ArgsR pl args vals) :
    Calls P f vals.toArray w (fun e w' => ∃ v av h' pl', e = .returned v ∧ av.R pl' v ∧ PExt pl pl' ∧ HRel w0 Sx pl' h' w' ∧ K av h') := by
  unfold call at hc
  split at hc
  · rename_i c hb
    refine enter_ok ((all_ok hF hP hS hM n).1 n (Nat.le_refl n)) hf hb hc (fun ex env' h' hk => ?_) (hq.imp (fun h => by rw [h, hR.len]) id) hR (enter_R hargs fn.ntmps)
    cases ex with
    | normal => exact ⟨.inl rfl, hk⟩
    | ret => exact ⟨.inr rfl, hk⟩
    | exit id => exact hk.elim
  · exact hc.elim

def valsOf : List SV → Option (List Value)
  | [] => some []
  | s :: l => match s.val [], valsOf l with
    | some v, some vs => some (v :: vs)
    | _, _ => none
def PV.valOf : PV → Option Value
  | .one s => s.val []
  | .agg l => match valsOf l with | some vs => some (.agg vs.toArray) | none => none
def pvalsOf : List PV → Option (List Value)
  | [] => some []
  | s :: l => match s.valOf, pvalsOf l with
    | some v, some vs => some (v :: vs)
    | _, _ => none
def AV.valOf : AV → Option Value
  | .v p => p.valOf
  | .tup l => match pvalsOf l with | some vs => some (.tuple vs.toArray) | none => none
theorem SV.valOf_spec {s : SV} {v : Value} (h : s.val [] = some v) : s.R [] v ∧ ∀ u, s.R [] u → u = v := by
  refine ⟨.inr h, fun u hu => ?_⟩
  rcases hu with rfl | hu
  · cases h
  · rw [h] at hu; exact (Option.some.inj hu).symm
theorem valsOf_spec : ∀ {l : List SV} {vs : List Value}, valsOf l = some vs → RL [] l vs ∧ ∀ us, RL [] l us → us = vs
  | [], vs, h => by
    simp [valsOf] at h; subst h
    exact ⟨trivial, fun us hu => by cases us with | nil => rfl | cons _ _ => exact hu.elim⟩
  | s :: l, vs, h => by
    simp only [valsOf] at h
    cases h1 : s.val [] with
    | none => simp [h1] at h
    | some v =>
      cases h2 : valsOf l with
      | none => simp [h1, h2] at h
      | some ws =>
        simp [h1, h2] at h; subst h
        have a1 := SV.valOf_spec h1
        have a2 := valsOf_spec h2
        exact ⟨⟨a1.1, a2.1⟩, fun us hu => by
          cases us with
          | nil => exact hu.elim
          | cons u us => rw [a1.2 u hu.1, a2.2 us hu.2]⟩
theorem PV.valOf_spec {p : PV} {v : Value} (h : p.valOf = some v) : p.R [] v ∧ ∀ u, p.R [] u → u = v := by
  cases p with
  | one s => exact SV.valOf_spec h
  | agg l =>
    simp only [PV.valOf] at h
    cases h1 : valsOf l with
    | none => simp [h1] at h
    | some vs =>
      simp [h1] at h; subst h
      have a1 := valsOf_spec h1
      exact ⟨⟨vs, rfl, a1.1⟩, fun u ⟨us, hu, hr⟩ => by rw [hu, a1.2 us hr]⟩
theorem pvalsOf_spec : ∀ {l : List PV} {vs : List Value}, pvalsOf l = some vs → PL [] l vs ∧ ∀ us, PL [] l us → us = vs
  | [], vs, h => by
    simp [pvalsOf] at h; subst h
    exact ⟨trivial, fun us hu => by cases us with | nil => rfl | cons _ _ => exact hu.elim⟩
  | s :: l, vs, h => by
    simp only [pvalsOf] at h
    cases h1 : s.valOf with
    | none => simp [h1] at h
    | some v =>
      cases h2 : pvalsOf l with
      | none => simp [h1, h2] at h
      | some ws =>
        simp [h1, h2] at h; subst h
        have a1 := PV.valOf_spec h1
        have a2 := pvalsOf_spec h2
        exact ⟨⟨a1.1, a2.1⟩, fun us hu => by
          cases us with
          | nil => exact hu.elim
          | cons u us => rw [a1.2 u hu.1, a2.2 us hu.2]⟩
theorem AV.valOf_spec {p : AV} {v : Value} (h : p.valOf = some v) : p.R [] v ∧ ∀ u, p.R [] u → u = v := by
  cases p with
  | v p => exact PV.valOf_spec h
  | tup l =>
    simp only [AV.valOf] at h
    cases h1 : pvalsOf l with
    | none => simp [h1] at h
    | some vs =>
      simp [h1] at h; subst h
      have a1 := pvalsOf_spec h1
      exact ⟨⟨vs, rfl, a1.1⟩, fun u ⟨us, hu, hr⟩ => by rw [hu, a1.2 us hr]⟩
def noPtrs : List AV → Bool
  | [] => true
  | a :: l => a.below 0 && noPtrs l
theorem noPtrs_R {pl : List Pl} : ∀ {l : List AV} {vs : List Value}, noPtrs l = true → ArgsR pl l vs → ArgsR [] l vs
  | [], [], _, _ => trivial
  | [], _ :: _, _, h => h.elim
  | _ :: _, [], _, h => h.elim
  | _ :: _, _ :: _, hb, h => by
    simp only [noPtrs, Bool.and_eq_true] at hb
    exact ⟨by simpa using AV.R_take (n := 0) hb.1 h.1, noPtrs_R hb.2 h.2⟩

theorem empty_R [Glob] (w : World) (ht : Glob.tab w) : HRel w noMarks [] [] w := ⟨rfl, ⟨rfl, rfl, rfl, Nat.le_refl _, fun _ _ _ => rfl⟩, fun b x p hx => by simp at hx, fun b p x hp => by simp at hp, fun b p x hp => by simp at hp, fun b c p q x y hp => by simp at hp, fun b p x hp => by simp at hp, ⟨fun k hk => hk.elim, ht, fun k _ h => h⟩, fun _ => Nat.le_refl _⟩
theorem pure_sound [Glob] (hF : Fine P) (hP : PureOk P S) (hS : SpecOk P S) (hM : SpecMono S) {f : Nat} {fn : Func} (hf : P.funcs[f]? = some fn) {A : Annos} {n : Nat} {args : List AV} {av : AV} {v : Value} (hb0 : noPtrs args = true) (hk0 : av.valOf = some v)
    (hc : call P S A n fn args [] (fun v' h => v'.valOf = some v ∧ h = [])) (hq : A.q = 0) {w0 : World} {Sx : Marks} {pl : List Pl} {h : Heap} {vals : List Value} (hargs : ArgsR pl args vals) :
    ∀ w, HRel w0 Sx pl h w → av.R pl v ∧ Calls P f vals.toArray w (fun e w' => e = .returned v ∧ HRel w0 Sx pl h w') := by
  have back : ∀ {w w' : World}, HRel w0 Sx pl h w → HRel w noMarks [] [] w' → HRel w0 Sx pl h w' := fun {w w'} h1 h2 => by
    have hblk : ∀ k, k < w.heap.size → w'.heap[k]? = w.heap[k]? := fun k hk => h2.fr.block k hk (fun h => h)
    refine ⟨h1.len, ⟨h2.fr.os.trans h1.fr.os, h2.fr.tape.trans h1.fr.tape, h2.fr.output.trans h1.fr.output, Nat.le_trans h1.fr.size h2.fr.size, fun k hk hs => (hblk k (Nat.lt_of_lt_of_le hk h1.fr.size)).trans (h1.fr.block k hk hs)⟩, ?_, ?_, h1.own, h1.inj, h1.ro, h1.rok, fun d => Nat.le_trans (h1.drw d) (h2.drw d)⟩
    · intro b x p hx hp
      exact (h1.hb b _ p hx hp).mono (PExt.refl pl) (fun ha => hblk _ (h1.lt b p _ hp hx ha)) (fun hd => hblk _ (Nat.lt_of_lt_of_le (h1.rok.1 _ (h1.ro b p _ hp hx hd)).1 h1.fr.size))
    · intro b p x hp hx ha
      exact Nat.lt_of_lt_of_le (h1.lt b p x hp hx ha) h2.fr.size
  intro w hw
  have hs := AV.valOf_spec hk0
  refine ⟨hs.1.ext (fun b p hp => by simp at hp), ?_⟩
  refine (call_sound hF hP hS hM hf hc (.inl (by simpa using hq)) (empty_R w hw.tabw) (noPtrs_R hb0 hargs)).mono ?_
  rintro e w' ⟨v', av', h', pl', rfl, hv', _, hR', hav, rfl⟩
  have hpl : pl' = [] := by have := hR'.len; simpa using this
  subst hpl
  rw [(AV.valOf_spec hav).2 v' hv']
  exact ⟨rfl, back hw hR'⟩

def SV.era : SV → SV
  | .con k n => .sym k n
  | .cb b => .sb b
  | .cstr s => .str s
  | s => s
def SV.lit : SV → SV
  | .sym k n => .con k n
  | .sb b => .cb b
  | .str s => .cstr s
  | s => s
def SV.isLit : SV → Bool
  | .con .. => true
  | .cb _ => true
  | .cstr _ => true
  | _ => false
def mapS (f : SV → SV) : List SV → List SV
  | [] => []
  | s :: l => f s :: mapS f l
def PV.mapS (f : SV → SV) : PV → PV
  | .one s => .one (f s)
  | .agg l => .agg (AM.mapS f l)
def mapP (f : SV → SV) : List PV → List PV
  | [] => []
  | s :: l => s.mapS f :: mapP f l
def AV.mapS (f : SV → SV) : AV → AV
  | .v p => .v (p.mapS f)
  | .tup l => .tup (mapP f l)
def mapA (f : SV → SV) : List AV → List AV
  | [] => []
  | s :: l => s.mapS f :: mapA f l
def allLitS : List SV → Bool
  | [] => true
  | s :: l => s.isLit && allLitS l
def PV.isLit : PV → Bool
  | .one s => s.isLit
  | .agg l => allLitS l
def allLitP : List PV → Bool
  | [] => true
  | s :: l => s.isLit && allLitP l
def AV.isLit : AV → Bool
  | .v p => p.isLit
  | .tup l => allLitP l
def allLitA : List AV → Bool
  | [] => true
  | s :: l => s.isLit && allLitA l
def OR.map (f : AV → AV) : OR → OR
  | .fail => .fail
  | .ok v => .ok (f v)
  | .iff p v => .iff p (f v)
def eraM : List Bool → List AV → List AV
  | _, [] => []
  | true :: m, a :: l => a :: eraM m l
  | false :: m, a :: l => a.mapS SV.era :: eraM m l
  | [], a :: l => a.mapS SV.era :: eraM [] l
def liftQ (m : List Bool) (q : PSpec) : PSpec := fun args => if allLitA args then (q (eraM m args)).map (AV.mapS SV.lit) else q (eraM m args)

section
variable {f : SV → SV} (hf : ∀ pl s, (f s).val pl = s.val pl) (hf0 : ∀ s, f s = .any ↔ s = .any)
include hf hf0
theorem SV.R_map {pl : List Pl} {s : SV} {v : Value} : (f s).R pl v ↔ s.R pl v := by
  unfold SV.R
  rw [hf, hf0]
theorem RL_map {pl : List Pl} : ∀ {l : List SV} {vs : List Value}, RL pl (AM.mapS f l) vs ↔ RL pl l vs
  | [], [] => Iff.rfl
  | [], _ :: _ => Iff.rfl
  | _ :: _, [] => Iff.rfl
  | _ :: _, _ :: _ => by simp only [AM.mapS, RL, SV.R_map hf hf0, RL_map]
theorem PV.R_map {pl : List Pl} {p : PV} {v : Value} : (p.mapS f).R pl v ↔ p.R pl v := by
  cases p with
  | one s => exact SV.R_map hf hf0
  | agg l => simp only [PV.mapS, PV.R, RL_map hf hf0]
theorem PL_map {pl : List Pl} : ∀ {l : List PV} {vs : List Value}, PL pl (mapP f l) vs ↔ PL pl l vs
  | [], [] => Iff.rfl
  | [], _ :: _ => Iff.rfl
  | _ :: _, [] => Iff.rfl
  | _ :: _, _ :: _ => by simp only [AM.mapP, PL, PV.R_map hf hf0, PL_map]
theorem AV.R_map {pl : List Pl} {p : AV} {v : Value} : (p.mapS f).R pl v ↔ p.R pl v := by
  cases p with
  | v s => exact PV.R_map hf hf0
  | tup l => simp only [AV.mapS, AV.R, PL_map hf hf0]
theorem ArgsR_map {pl : List Pl} : ∀ {l : List AV} {vs : List Value}, ArgsR pl (mapA f l) vs ↔ ArgsR pl l vs
  | [], [] => Iff.rfl
  | [], _ :: _ => Iff.rfl
  | _ :: _, [] => Iff.rfl
  | _ :: _, _ :: _ => by simp only [AM.mapA, ArgsR, AV.R_map hf hf0, ArgsR_map]
end
theorem era_ok : (∀ pl s, (SV.era s).val pl = s.val pl) ∧ ∀ s, SV.era s = .any ↔ s = .any := by
  refine ⟨fun pl s => by cases s <;> rfl, fun s => by cases s <;> simp [SV.era]⟩
theorem lit_ok : (∀ pl s, (SV.lit s).val pl = s.val pl) ∧ ∀ s, SV.lit s = .any ↔ s = .any := by
  refine ⟨fun pl s => by cases s <;> rfl, fun s => by cases s <;> simp [SV.lit]⟩
theorem gives_map {r : OR} {g : AV → AV} {av : AV} (h : (r.map g).gives av) : ∃ av', r.gives av' ∧ av = g av' := by
  cases r with
  | fail => exact (gives_fail h).elim
  | ok v => exact ⟨v, .inl rfl, gives_ok h⟩
  | iff p v =>
    rcases h with h | ⟨q, h, hq⟩
    · cases h
    · injection h with h1 h2
      exact ⟨v, .inr ⟨p, rfl, by rw [h1]; exact hq⟩, h2.symm⟩

theorem ArgsR_era {pl : List Pl} : ∀ {m : List Bool} {l : List AV} {vs : List Value}, ArgsR pl l vs → ArgsR pl (eraM m l) vs
  | [], [], [], h => h
  | _ :: _, [], [], h => h
  | [], [], _ :: _, h => h.elim
  | _ :: _, [], _ :: _, h => h.elim
  | [], _ :: _, [], h => h.elim
  | _ :: _, _ :: _, [], h => h.elim
  | [], _ :: _, _ :: _, h => ⟨(AV.R_map era_ok.1 era_ok.2).2 h.1, ArgsR_era (m := []) h.2⟩
  | true :: m, _ :: _, _ :: _, h => ⟨h.1, ArgsR_era (m := m) h.2⟩
  | false :: m, _ :: _, _ :: _, h => ⟨(AV.R_map era_ok.1 era_ok.2).2 h.1, ArgsR_era (m := m) h.2⟩
def Sums.add (S : Sums) (f : Nat) (q : PSpec) (m : List Bool := []) : Sums := { S with pure := fun g => if g = f then some (liftQ m q) else S.pure g }
def Holds (P : Program) (S : Sums) (f : Nat) (q : PSpec) : Prop :=
  ∃ fn, P.funcs[f]? = some fn ∧ fn.body.isSome = true ∧ ∀ args av, (q args).gives av → noPtrs args = true ∧ ∃ v n A, A.q = 0 ∧ av.valOf = some v ∧ call P S A n fn args [] (fun v' h => v'.valOf = some v ∧ h = [])
theorem PureOk.add [Glob] (hF : Fine P) {S0 : Sums} (hP0 : PureOk P S0) (hS : SpecOk P S0) (hM : SpecMono S0) (hP : PureOk P S) {f : Nat} {q : PSpec} (hq : Holds P S0 f q) {m : List Bool} : PureOk P (S.add f q m) := by
  obtain ⟨fn, hf, hfb, hp⟩ := hq
  have core : ∀ args av, (q args).gives av → ∀ w0 Sx pl h vals, ArgsR pl args vals → ∃ v, ∀ w, HRel w0 Sx pl h w → av.R pl v ∧ Calls P f vals.toArray w (fun e w' => e = .returned v ∧ HRel w0 Sx pl h w') := by
    intro args av hg w0 Sx pl h vals hargs
    obtain ⟨h1, v, n, A, hq0, h2, h3⟩ := hp args av hg
    exact ⟨v, pure_sound hF hP0 hS hM hf h1 h2 h3 hq0 hargs⟩
  intro g p hg
  by_cases e : g = f
  · subst e
    simp only [Sums.add, if_true] at hg
    cases hg
    refine ⟨⟨fn, hf, hfb⟩, fun args av hgv w0 Sx pl h vals hargs => ?_⟩
    have hargs' := ArgsR_era (m := m) hargs
    unfold liftQ at hgv
    split at hgv
    · obtain ⟨av', h1, rfl⟩ := gives_map hgv
      obtain ⟨v, hv⟩ := core _ _ h1 w0 Sx pl h vals hargs'
      exact ⟨v, fun w hw => ⟨(AV.R_map lit_ok.1 lit_ok.2).2 (hv w hw).1, (hv w hw).2⟩⟩
    · exact core _ _ hgv w0 Sx pl h vals hargs'
  · simp only [Sums.add, if_neg e] at hg
    exact hP g p hg
theorem SpecOk.add [Glob] (hS : SpecOk P S) (f : Nat) (q : PSpec) (m : List Bool) : SpecOk P (S.add f q m) := hS
theorem SpecMono.add [Glob] (hS : SpecMono S) (f : Nat) (q : PSpec) (m : List Bool) : SpecMono (S.add f q m) := hS
theorem SpecOk.pure [Glob] (hS : SpecOk P S) (f : Nat → Option PSpec) : SpecOk P { S with pure := f } := hS
end
end Go.AM
