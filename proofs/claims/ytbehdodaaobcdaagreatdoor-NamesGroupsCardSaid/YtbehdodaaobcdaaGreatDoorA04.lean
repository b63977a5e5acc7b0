import Derived.Test.YtbehdodaaobcdaaGreatDoorA03
import Derived.ChangeKeysEq
import Derived.Laws.StructEq
set_option maxHeartbeats 4000000
namespace Go.AM
open Go
section
variable {P : Program} {pl : List Pl}

theorem scal_sound {d : TypeDesc} {t : Nat} (hu : P.underlying t = some d) {a b : SV} (ha : tyFit d a = true) (hb : tyFit d b = true) {c r : Bool} (h : scalEq a b = some (c, r)) {v u : Value} (hv : a.R pl v) (hu' : b.R pl u) (n : Nat) (w : World) :
    (Op.equalIn (n + 1) t v u).run P w = .ok r w ∧ ∀ em, (Instr.checkKey em (n + 1) t v).run P w = .ok () w := by
  unfold scalEq at h
  split at h <;> first | (cases h; done) | skip
  all_goals
    rcases hv with hv | hv <;> first | (cases hv; done) | skip
    rcases hu' with hu' | hu' <;> first | (cases hu'; done) | skip
    simp only [SV.val, Option.some.injEq] at hv hu'
    subst hv hu'
    unfold tyFit at ha hb
    split at ha <;> first | (cases ha; done) | (rename_i heq; cases heq; done) | skip
    all_goals (try (split at h <;> first | (cases h; done) | skip))
    all_goals (injection h with h; injection h with h1 h2; subst h2)
    all_goals (refine ⟨?_, fun em => by simp [Instr.checkKey, run_underlying hu]⟩)
    all_goals first
      | (rename_i hk; subst hk; rw [run_equalIn_int w n t _ _ _ _ hu]; rfl)
      | (rw [run_equalIn_bool' w n t _ _ hu])
      | (rw [run_equalIn_string w n t _ _ hu, Lib.toList_data, Lib.toList_data, beqL])

theorem aEqL_fields {f : Nat → PV → PV → Option (Bool × Bool)} {d : Nat} (hf : ∀ t p q c b v u w, f t p q = some (c, b) → p.R pl v → q.R pl u → (Op.equalIn d t v u).run P w = .ok b w ∧ ∀ em, (Instr.checkKey em d t v).run P w = .ok () w)
    {xs ys : List SV} {vs us : List Value} (hv : RL pl xs vs) (hu : RL pl ys us) : ∀ {fs : List Field} {c b : Bool}, aEqL P f xs ys (fieldPl fs) = some (c, b) → ∀ w, (Op.eqFields d vs.toArray us.toArray fs).run P w = .ok b w
  | [], c, b, h, w => by
    simp only [fieldPl, aEqL, Option.some.injEq, Prod.mk.injEq] at h
    rw [← h.2]
    simp [Op.eqFields]
  | fd :: fs, c, b, h, w => by
    unfold fieldPl at h
    unfold Op.eqFields
    by_cases hn : fd.name ≠ "_"
    · rw [if_pos hn] at h ⊢
      simp only [aEqL] at h
      split at h
      · rename_i p q hp hq
        split at h
        · rename_i c1 b1 c2 b2 h1 h2
          injection h with h
          injection h with h3 h4
          obtain ⟨v, g1, g2⟩ := part_run hv hp
          obtain ⟨u, k1, k2⟩ := part_run hu hq
          have := hf _ _ _ _ _ _ _ w h1 g1 k1
          simp only [Sem.run_bind, g2, k2, Result.andThen_ok, this.1]
          have ih := aEqL_fields hf hv hu (fs := fs) h2 w
          subst h4
          cases b1 with
          | false => simp
          | true => simpa using ih
        · cases h
      · cases h
    · rw [if_neg hn] at h ⊢
      exact aEqL_fields hf hv hu h w
theorem aEqL_items {f : Nat → PV → PV → Option (Bool × Bool)} {d e sz : Nat} (hs : size? P e = some sz) (hf : ∀ t p q c b v u w, f t p q = some (c, b) → p.R pl v → q.R pl u → (Op.equalIn d t v u).run P w = .ok b w ∧ ∀ em, (Instr.checkKey em d t v).run P w = .ok () w)
    {xs ys : List SV} {vs us : List Value} (hv : RL pl xs vs) (hu : RL pl ys us) : ∀ {n i : Nat} {c b : Bool}, aEqL P f xs ys (arrPl e sz n i) = some (c, b) → ∀ w, (Op.eqItems d e (P.cellsOf e) vs.toArray us.toArray (List.range' i n)).run P w = .ok b w
  | 0, i, c, b, h, w => by
    simp only [arrPl, aEqL, Option.some.injEq, Prod.mk.injEq] at h
    rw [← h.2]
    simp [Op.eqItems]
  | n + 1, i, c, b, h, w => by
    have hsz : P.cellsOf e = sz := by
      unfold size? at hs
      cases hi : P.info? e with
      | none => simp [hi] at hs
      | some ie => simp [hi] at hs; simp [Program.cellsOf, hi, hs]
    simp only [arrPl, aEqL] at h
    rw [List.range'_succ]
    unfold Op.eqItems
    split at h
    · rename_i p q hp hq
      split at h
      · rename_i c1 b1 c2 b2 h1 h2
        injection h with h
        injection h with h3 h4
        obtain ⟨v, g1, g2⟩ := part_run hv hp
        obtain ⟨u, k1, k2⟩ := part_run hu hq
        have := hf _ _ _ _ _ _ _ w h1 g1 k1
        rw [hsz]
        simp only [Sem.run_bind, g2, k2, Result.andThen_ok, this.1]
        have ih := aEqL_items hs hf hv hu h2 w
        rw [hsz] at ih
        subst h4
        cases b1 with
        | false => simp
        | true => simpa using ih
      · cases h
    · cases h
theorem aEqL_keys {f : Nat → PV → PV → Option (Bool × Bool)} {d : Nat} (hf : ∀ t p q c b v u w, f t p q = some (c, b) → p.R pl v → q.R pl u → (Op.equalIn d t v u).run P w = .ok b w ∧ ∀ em, (Instr.checkKey em d t v).run P w = .ok () w)
    {xs ys : List SV} {vs us : List Value} (hv : RL pl xs vs) (hu : RL pl ys us) {w : World} {em : Bool} : ∀ {l : List (Nat × Nat)} {c b : Bool}, aEqL P f xs ys l = some (c, b) → ∀ x ∈ l, ∃ v, (part x.1 vs.toArray x.2).run P w = .ok v w ∧ (Instr.checkKey em d x.1 v).run P w = .ok () w
  | [], _, _, _, x, hx => by cases hx
  | (t, off) :: l, c, b, h, x, hx => by
    simp only [aEqL] at h
    split at h
    · rename_i p q hp hq
      split at h
      · rename_i c1 b1 c2 b2 h1 h2
        rcases List.mem_cons.1 hx with rfl | hx
        · obtain ⟨v, g1, g2⟩ := part_run hv hp
          obtain ⟨u, k1, k2⟩ := part_run hu hq
          exact ⟨v, g2 w, (hf _ _ _ _ _ _ _ w h1 g1 k1).2 em⟩
        · exact aEqL_keys hf hv hu h2 x hx
      · cases h
    · cases h
theorem fieldPl_mem : ∀ {fs : List Field} {f : Field}, f ∈ fs → f.name ≠ "_" → (f.type, f.offset) ∈ fieldPl fs
  | g :: fs, f, h, hn => by
    unfold fieldPl
    rcases List.mem_cons.1 h with rfl | h
    · rw [if_pos hn]; simp
    · have := fieldPl_mem h hn
      split
      · exact List.mem_cons_of_mem _ this
      · exact this
theorem arrPl_mem {e sz : Nat} : ∀ {n i k : Nat}, i ≤ k → k < i + n → (e, k * sz) ∈ arrPl e sz n i
  | 0, i, k, h1, h2 => by omega
  | n + 1, i, k, h1, h2 => by
    unfold arrPl
    by_cases he : k = i
    · subst he; simp
    · exact List.mem_cons_of_mem _ (arrPl_mem (by omega) (by omega))
theorem forIn_ok {α : Type} {w : World} {g : α → PUnit → Sem (ForInStep PUnit)} : ∀ {l : List α}, (∀ x ∈ l, (g x PUnit.unit).run P w = .ok (.yield PUnit.unit) w) → (forIn l PUnit.unit g).run P w = .ok PUnit.unit w
  | [], _ => by simp
  | x :: l, h => by
    simp only [List.forIn_cons, Sem.run_bind, h x (by simp), Result.andThen_ok]
    exact forIn_ok (fun y hy => h y (by simp [hy]))

theorem aEq_sound : ∀ (m : Nat) (t : Nat) (p q : PV) (c b : Bool) (v u : Value) (d : Nat) (w : World), aEq P m t p q = some (c, b) → p.R pl v → q.R pl u → m ≤ d → (Op.equalIn d t v u).run P w = .ok b w ∧ ∀ em, (Instr.checkKey em d t v).run P w = .ok () w
  | 0, _, _, _, _, _, _, _, _, _, h, _, _, _ => by simp [aEq] at h
  | m + 1, t, p, q, c, b, v, u, 0, w, h, hv, hu, hd => by omega
  | m + 1, t, p, q, c, b, v, u, d + 1, w, h, hv, hu, hd => by
    have ih : ∀ t p q c b v u w, aEq P m t p q = some (c, b) → p.R pl v → q.R pl u → (Op.equalIn d t v u).run P w = .ok b w ∧ ∀ em, (Instr.checkKey em d t v).run P w = .ok () w :=
      fun t p q c b v u w h hv hu => aEq_sound m t p q c b v u d w h hv hu (by omega)
    unfold aEq at h
    split at h
    · rename_i fs xs ys hun
      split at h
      · cases h
      · rename_i hst
        obtain ⟨vs, rfl, hv⟩ := hv
        obtain ⟨us, rfl, hu⟩ := hu
        have hfo : P.fieldsOf t = fs := by simp [Program.fieldsOf, hun]
        refine ⟨?_, fun em => ?_⟩
        · rw [run_equalIn_struct w d t _ _ (by rw [hfo]; exact hun) (by simpa using hst), hfo]
          exact aEqL_fields ih hv hu h w
        · simp only [Instr.checkKey, Sem.run_bind, run_underlying hun, Result.andThen_ok]
          rw [← Array.forIn_toList]
          rw [forIn_ok (l := fs.toList) (fun f hf => ?_)]
          · rfl
          by_cases hn : f.name ≠ "_"
          · obtain ⟨x, h1, h2⟩ := aEqL_keys ih hv hu (w := w) (em := em) h _ (fieldPl_mem hf hn)
            simp only [if_pos hn, Sem.run_bind, h1, Result.andThen_ok, h2, Sem.run_pure]
          · simp only [if_neg hn, Sem.run_pure]
    · rename_i n e xs ys hun
      split at h
      · rename_i sz hsz
        obtain ⟨vs, rfl, hv⟩ := hv
        obtain ⟨us, rfl, hu⟩ := hu
        have hi : ∃ i, P.info? e = some i := by
          unfold size? at hsz
          cases hi : P.info? e with
          | none => simp [hi] at hsz
          | some i => exact ⟨i, rfl⟩
        obtain ⟨i, hi⟩ := hi
        refine ⟨?_, fun em => ?_⟩
        · rw [run_equalIn_array w d _ _ hun hi, List.range_eq_range']
          exact aEqL_items hsz ih hv hu h w
        · simp only [Instr.checkKey, Sem.run_bind, run_underlying hun, Result.andThen_ok]
          simp only [Std.Legacy.Range.forIn_eq_forIn_range', Std.Legacy.Range.size, Nat.sub_zero, Nat.add_one_sub_one, Nat.div_one]
          rw [forIn_ok (l := List.range' 0 n) (fun k hk => ?_)]
          · rfl
          have hk' : k < n := by simpa using hk
          obtain ⟨x, h1, h2⟩ := aEqL_keys ih hv hu (w := w) (em := em) h (e, k * sz) (arrPl_mem (by omega) (by omega))
          simp only [Sem.run_bind, run_size hsz, h1, Result.andThen_ok, h2, Sem.run_pure]
      · cases h
    · rename_i dd a b' hun
      split at h
      · rename_i hfit
        simp only [Bool.and_eq_true] at hfit
        exact scal_sound hun hfit.1 hfit.2 h hv hu d w
      · cases h
    · cases h
theorem cmpV_sound {op : BinOp} {t : Nat} {p q : PV} {av : AV} (h : (cmpV P op t p q).gives av) {v u : Value} (hv : p.R pl v) (hu : q.R pl u) (hk : (∃ a b, v = .bool a ∧ u = .bool b) ∨ (∃ a b, v = .agg a ∧ u = .agg b)) :
    ∃ r, av.R pl r ∧ ∀ w, (binOp op t v u).run P w = .ok r w := by
  unfold cmpV at h
  split at h
  · rename_i c b he
    have hs := fun w => (aEq_sound 20 t p q c b v u Op.maxDepth w he hv hu (by decide)).1
    unfold eqB at h
    split at h
    · rw [gives_ok h]
      refine ⟨_, mkB_R .., fun w => ?_⟩
      rcases hk with ⟨x, y, rfl, rfl⟩ | ⟨x, y, rfl, rfl⟩ <;> simp [binOp, Op.equal, hs w]
    · rw [gives_ok h]
      refine ⟨_, mkB_R .., fun w => ?_⟩
      rcases hk with ⟨x, y, rfl, rfl⟩ | ⟨x, y, rfl, rfl⟩ <;> simp [binOp, Op.equal, hs w]
    · exact (gives_fail h).elim
  · exact (gives_fail h).elim
theorem sameNow_sound {d : TypeDesc} {a b : SV} (ha : tyFit d a = true) (hb : tyFit d b = true) {c r : Bool} (h : scalEq a b = some (c, r)) {v u : Value} (hv : a.R pl v) (hu' : b.R pl u) : Instr.sameNow d v u = some r := by
  unfold scalEq at h
  split at h <;> first | (cases h; done) | skip
  all_goals
    rcases hv with hv | hv <;> first | (cases hv; done) | skip
    rcases hu' with hu' | hu' <;> first | (cases hu'; done) | skip
    simp only [SV.val, Option.some.injEq] at hv hu'
    subst hv hu'
    unfold tyFit at ha hb
    split at ha <;> first | (cases ha; done) | (rename_i heq; cases heq; done) | skip
    all_goals (try (split at h <;> first | (cases h; done) | skip))
    all_goals (injection h with h; injection h with h1 h2; subst h2)
    all_goals first
      | (rename_i hk; subst hk; simp [Instr.sameNow]; rfl)
      | (simp [Instr.sameNow]; done)
      | (simp [Instr.sameNow, beq_toListBytes, Lib.toList_data, beqL])
def found (pl : List Pl) : Option PV → Option (Nat × Value) → Prop
  | none, none => True
  | some v, some (_, x) => v.R pl x
  | _, _ => False
theorem findAsking_sound {kt : Nat} {k : PV} {kv : Value} (hk : k.R pl kv) {w : World} : ∀ {es : List (PV × PV)} {ms : List MapEntry} {i : Nat} {r : Option PV}, aGet P kt k es = some r → EntR pl es ms → ∃ r', (Instr.findAsking kt kv ms i).run P w = .ok r' w ∧ found pl r r'
  | [], [], i, r, h, _ => by simp [aGet] at h; subst h; exact ⟨none, by simp [Instr.findAsking], trivial⟩
  | [], _ :: _, _, _, _, h => h.elim
  | _ :: _, [], _, _, _, h => h.elim
  | (k', v) :: l, e :: ms, i, r, h, hm => by
    simp only [aGet] at h
    split at h
    · rename_i b he
      have hq := (aEq_sound 20 kt k k' true b kv e.key Op.maxDepth w he hk hm.1 (by decide)).1
      cases b with
      | true =>
        simp at h
        subst h
        exact ⟨some (i, e.val), by simp [Instr.findAsking, Op.equal, hq], hm.2.1⟩
      | false =>
        obtain ⟨r', g1, g2⟩ := findAsking_sound hk (w := w) (i := i + 1) (by simpa using h) hm.2.2
        exact ⟨r', by simp [Instr.findAsking, Op.equal, hq, g1], g2⟩
    · cases h
theorem aEq_one {m kt : Nat} {a : SV} {k' : PV} {c b : Bool} {d : TypeDesc} (h : aEq P (m + 1) kt (.one a) k' = some (c, b)) (hd : P.underlying kt = some d) :
    ∃ b', k' = .one b' ∧ tyFit d a = true ∧ tyFit d b' = true ∧ scalEq a b' = some (c, b) := by
  unfold aEq at h
  cases k' with
  | agg l => cases d <;> simp [hd] at h
  | one b' =>
    refine ⟨b', rfl, ?_⟩
    have : (if (tyFit d a && tyFit d b') = true then scalEq a b' else none) = some (c, b) := by
      cases d <;> simpa [hd] using h
    split at this
    · rename_i hf; simp only [Bool.and_eq_true] at hf; exact ⟨hf.1, hf.2, this⟩
    · cases this
theorem findNow_sound {kt : Nat} {a : SV} {kv : Value} (hk : a.R pl kv) {d : TypeDesc} (hd : P.underlying kt = some d) (hfit : tyFit d a = true) : ∀ {es : List (PV × PV)} {ms : List MapEntry} {i : Nat} {r : Option PV}, aGet P kt (.one a) es = some r → EntR pl es ms →
    ∃ r', Instr.findNow d kv ms i = some r' ∧ found pl r r'
  | [], [], i, r, h, _ => by simp [aGet] at h; subst h; exact ⟨none, by simp [Instr.findNow], trivial⟩
  | [], _ :: _, _, _, _, h => h.elim
  | _ :: _, [], _, _, _, h => h.elim
  | (k', v) :: l, e :: ms, i, r, h, hm => by
    simp only [aGet] at h
    split at h
    · rename_i b he
      obtain ⟨b1, rfl, hf1, hf2, he⟩ := aEq_one he hd
      have hs := sameNow_sound hf1 hf2 he hk hm.1
      cases b with
      | true =>
        simp at h
        subst h
        exact ⟨some (i, e.val), by simp [Instr.findNow, hs], hm.2.1⟩
      | false =>
        obtain ⟨r', g1, g2⟩ := findNow_sound hk hd hfit (i := i + 1) (by simpa using h) hm.2.2
        exact ⟨r', by simp [Instr.findNow, hs, g1], g2⟩
    · cases h
theorem findKey_sound {kt : Nat} {k : PV} {kv : Value} (hk : k.R pl kv) (hok : keyOk P kt k = true) {es : List (PV × PV)} {ms : List MapEntry} {r : Option PV} (h : aGet P kt k es = some r) (hm : EntR pl es ms) (w : World) :
    ∃ r', (Instr.findKey kt kv ms).run P w = .ok r' w ∧ found pl r r' := by
  unfold keyOk at hok
  cases he : aEq P 20 kt k k with
  | none => simp [he] at hok
  | some cb =>
    obtain ⟨c, b⟩ := cb
    cases k with
    | one a =>
      cases hd : P.underlying kt with
      | none => unfold aEq at he; simp [hd] at he
      | some d =>
        obtain ⟨_, _, hfit, _, _⟩ := aEq_one he hd
        obtain ⟨r', g1, g2⟩ := findNow_sound hk hd hfit (i := 0) h hm
        exact ⟨r', by simp [Instr.findKey, run_underlying hd, g1], g2⟩
    | agg l =>
      obtain ⟨vs, rfl, hv⟩ := id hk
      cases hd : P.underlying kt with
      | none => unfold aEq at he; simp [hd] at he
      | some d =>
        obtain ⟨r', g1, g2⟩ := findAsking_sound hk (w := w) (i := 0) h hm
        cases ms with
        | nil =>
          refine ⟨none, by simp [Instr.findKey, run_underlying hd, Instr.findNow], ?_⟩
          simp [Instr.findAsking] at g1
          rw [← g1] at g2
          exact g2
        | cons e ms =>
          have : Instr.findNow d (.agg vs.toArray) (e :: ms) 0 = none := by
            unfold Instr.findNow
            have : Instr.sameNow d (.agg vs.toArray) e.key = none := by cases d <;> rfl
            rw [this]
          exact ⟨r', by simp [Instr.findKey, run_underlying hd, this, g1], g2⟩
theorem findO_sound {kt : Nat} {C : Codec} {x : C.τ} {kv : Value} (hK : KeyLaw P kt C) (hk : (PV.agg (C.enc x)).R pl kv) {w : World} : ∀ {es : List (C.τ × Int)} {ms : List MapEntry} {i : Nat}, EntR pl (omE C es) ms →
    (Instr.findAsking kt kv ms i).run P w = .ok ((mix C.deq x es i).map fun z => (z.1, Value.int .i64 z.2)) w
  | [], [], i, _ => by simp [Instr.findAsking, mix]
  | [], _ :: _, _, h => h.elim
  | _ :: _, [], _, h => h.elim
  | (y, n) :: l, e :: ms, i, hm => by
    obtain ⟨h1, h2, h3⟩ := hm
    obtain ⟨c, b, hab, hiff⟩ := hK.1 x y
    have hq := (aEq_sound 20 kt _ _ c b kv e.key Op.maxDepth w hab hk h1 (by decide)).1
    have hv : e.val = .int .i64 n := by
      rcases h2 with h2 | h2
      · cases h2
      · simpa [SV.val] using h2.symm
    simp only [mix]
    split
    · rename_i hxy _
      have hb : b = true := hiff.2 hxy
      subst hb
      simp [Instr.findAsking, Op.equal, hq, hv]
    · rename_i hxy _
      have hb : b = false := by
        cases b with
        | true => exact absurd (hiff.1 rfl) hxy
        | false => rfl
      subst hb
      have ih := findO_sound hK hk (w := w) (i := i + 1) h3
      simp [Instr.findAsking, Op.equal, hq, ih]
theorem findKeyO_sound {kt : Nat} {C : Codec} {x : C.τ} {kv : Value} (hK : KeyLaw P kt C) (hk : (PV.agg (C.enc x)).R pl kv) {es : List (C.τ × Int)} {ms : List MapEntry} (hm : EntR pl (omE C es) ms) (w : World) :
    (Instr.findKey kt kv ms).run P w = .ok ((mix C.deq x es 0).map fun z => (z.1, Value.int .i64 z.2)) w := by
  have g1 := findO_sound hK hk (w := w) (i := 0) hm
  obtain ⟨vs, rfl, hv⟩ := id hk
  obtain ⟨c, b, hab, _⟩ := hK.1 x x
  cases hd : P.underlying kt with
  | none => unfold aEq at hab; simp [hd] at hab
  | some d =>
    cases ms with
    | nil =>
      simp [Instr.findAsking] at g1
      simp [Instr.findKey, run_underlying hd, Instr.findNow, ← g1]
    | cons e ms =>
      have : Instr.findNow d (.agg vs.toArray) (e :: ms) 0 = none := by
        unfold Instr.findNow
        have : Instr.sameNow d (.agg vs.toArray) e.key = none := by cases d <;> rfl
        rw [this]
      simp [Instr.findKey, run_underlying hd, this, g1]
theorem keyLaw_check {kt : Nat} {C : Codec} {x : C.τ} {kv : Value} (hK : KeyLaw P kt C) (hk : (PV.agg (C.enc x)).R pl kv) (w : World) (em : Bool) : (Instr.checkKey em 10000 kt kv).run P w = .ok () w := by
  obtain ⟨c, b, hab, _⟩ := hK.1 x x
  exact (aEq_sound 20 kt _ _ c b kv kv 10000 w hab hk hk (by decide)).2 em
theorem lookV_sound {t : Nat} {m k : AV} {ok : Bool} {h : Heap} {av : AV} (hq : (lookV P t m k ok h).gives av) {mv kv : Value} (hm : m.R pl mv) (hk : k.R pl kv) :
    (∀ v u, av.R pl v → av.R pl u → v = u) ∧ ∀ w, HB pl h w → ∃ v, av.R pl v ∧ (Instr.lookup t mv kv ok).run P w = .ok v w := by
  have uniq1 : ∀ (p : PV), p.known = true → ∀ v u, (AV.v p).R pl v → (AV.v p).R pl u → v = u := fun p hp v u hv hu => PV.known_eq hp hv hu
  have uniq2 : ∀ (p : PV) (b : Bool), p.known = true → ∀ v u, (AV.tup [p, .one (.cb b)]).R pl v → (AV.tup [p, .one (.cb b)]).R pl u → v = u := by
    intro p b hp v u hv hu
    obtain ⟨vs, rfl, h1⟩ := hv
    obtain ⟨us, rfl, h2⟩ := hu
    match vs, us, h1, h2 with
    | [a1, a2], [b1, b2], h1, h2 =>
      have e1 := PV.known_eq hp h1.1 h2.1
      have e2 := PV.known_eq (p := .one (.cb b)) rfl h1.2.1 h2.2.1
      rw [e1, e2]
    | [], _, h1, _ => exact h1.elim
    | [_], _, h1, _ => exact h1.2.elim
    | _ :: _ :: _ :: _, _, h1, _ => exact h1.2.2.elim
    | _, [], _, h2 => exact h2.elim
    | _, [_], _, h2 => exact h2.2.elim
    | _, _ :: _ :: _ :: _, _, h2 => exact h2.2.2.elim
  refine ⟨?_, ?_⟩
  · unfold lookV at hq
    repeat' (split at hq)
    all_goals first
      | exact (gives_fail hq).elim
      | (rw [gives_ok hq]; first | exact uniq1 _ (by assumption) | exact uniq2 _ _ (by assumption))
      | (rcases hq with hq | ⟨q, hq, hK⟩
         · cases hq
         · injection hq with e1 e2
           subst e2
           first
           | exact uniq1 _ rfl
           | (intro v u hv hu
              obtain ⟨vs, rfl, h1⟩ := hv
              obtain ⟨us, rfl, h2⟩ := hu
              match vs, us, h1, h2 with
              | [a1, a2], [b1, b2], h1, h2 =>
                have e1 := PV.known_eq (p := .one (.sym .i64 _)) rfl h1.1 h2.1
                have e2 := PV.known_eq (p := .one (.sb _)) rfl h1.2.1 h2.2.1
                rw [e1, e2]
              | [], _, h1, _ => exact h1.elim
              | [_], _, h1, _ => exact h1.2.elim
              | _ :: _ :: _ :: _, _, h1, _ => exact h1.2.2.elim
              | _, [], _, h2 => exact h2.elim
              | _, [_], _, h2 => exact h2.2.elim
              | _, _ :: _ :: _ :: _, _, h2 => exact h2.2.2.elim))
  intro w hB
  unfold lookV at hq
  split at hq
  · rename_i kt e b k hu
    have hmv : ∃ p, pl[b]? = some p ∧ mv = .map (some p.blk) := by
      rcases hm with hm | hm
      · cases hm
      · simp only [SV.val] at hm
        cases hp : pl[b]? with
        | none => simp [hp] at hm
        | some p => simp [hp] at hm; exact ⟨p, rfl, hm.symm⟩
    obtain ⟨p, hp, rfl⟩ := hmv
    split at hq
    · rename_i es hg
      rw [get?_eq] at hg
      obtain ⟨ms, clock, h1, h2⟩ := hB b _ p hg hp
      have hgo : (getObj p.blk).run P w = .ok (.map ms clock) w := by simp [getObj, Sem.run, h2]
      split at hq
      · rename_i hok
        have hck : ∀ em, (Instr.checkKey em 10000 kt kv).run P w = .ok () w := by
          unfold keyOk at hok
          cases he : aEq P 20 kt k k with
          | none => simp [he] at hok
          | some cb => exact (aEq_sound 20 kt k k cb.1 cb.2 kv kv 10000 w he hk hk (by decide)).2
        split at hq
        · rename_i v hf
          split at hq <;> first | (exact (gives_fail hq).elim) | skip
          rw [gives_ok hq]
          obtain ⟨r', g1, g2⟩ := findKey_sound hk hok hf h1 w
          cases r' with
          | none => exact g2.elim
          | some ix =>
            obtain ⟨i, x⟩ := ix
            cases ok with
            | true => exact ⟨.tuple #[x, .bool true], ⟨[x, .bool true], rfl, g2, .inr rfl, trivial⟩, by simp [Instr.lookup, run_underlying hu, hgo, hck, g1]⟩
            | false => exact ⟨x, g2, by simp [Instr.lookup, run_underlying hu, hgo, hck, g1]⟩
        · rename_i hf
          obtain ⟨r', g1, g2⟩ := findKey_sound hk hok hf h1 w
          cases r' with
          | some ix => exact g2.elim
          | none =>
            split at hq
            · rename_i z hz
              split at hq <;> first | (exact (gives_fail hq).elim) | skip
              rw [gives_ok hq]
              have hz' : ∃ i v, P.info? e = some i ∧ i.zero = some v ∧ z = ofValue v := by
                unfold zeroOf at hz
                cases hi : P.info? e with
                | none => simp [hi] at hz
                | some i =>
                  cases hzz : i.zero with
                  | none => simp [hi, hzz] at hz
                  | some v => simp [hi, hzz] at hz; exact ⟨i, v, rfl, hzz, hz.symm⟩
              obtain ⟨i, zv, hi, hzv, rfl⟩ := hz'
              have hzr : (zeroValue e).run P w = .ok zv w := by simp [zeroValue, typeInfo, hi, hzv]
              cases ok with
              | true => exact ⟨.tuple #[zv, .bool false], ⟨[zv, .bool false], rfl, ofValue_R pl zv, .inr rfl, trivial⟩, by simp [Instr.lookup, run_underlying hu, hgo, hck, g1, hzr]⟩
              | false => exact ⟨zv, ofValue_R pl zv, by simp [Instr.lookup, run_underlying hu, hgo, hck, g1, hzr]⟩
            · exact (gives_fail hq).elim
        · exact (gives_fail hq).elim
      · exact (gives_fail hq).elim
    · rename_i C es hg
      rw [get?_eq] at hg
      obtain ⟨ms, clock, h1, h2⟩ := hB b _ p hg hp
      have hgo : (getObj p.blk).run P w = .ok (.map ms clock) w := by simp [getObj, Sem.run, h2]
      split at hq
      · rename_i l
        split at hq
        · rename_i x hx
          split at hq
          · rename_i hz
            rcases hq with hq | ⟨q, hq, hK⟩
            · cases hq
            injection hq with e1 e2
            rw [← e1] at hK
            subst e2
            have hk' : (PV.agg (C.enc x)).R pl kv := by
              obtain ⟨vs, rfl, hv⟩ := hk
              exact ⟨vs, rfl, C.dec_ok _ _ _ _ hx hv⟩
            have hck := keyLaw_check (P := P) hK hk' w
            have hfk := findKeyO_sound (P := P) hK hk' h1 w
            have hzr : (zeroValue e).run P w = .ok (.int .i64 0) w := by
              unfold zeroI at hz
              split at hz
              · rename_i hz0
                have hz' : ∃ i v, P.info? e = some i ∧ i.zero = some v ∧ PV.one (.con .i64 (.ofNat 0)) = ofValue v := by
                  unfold zeroOf at hz0
                  cases hi : P.info? e with
                  | none => simp [hi] at hz0
                  | some i =>
                    cases hzz : i.zero with
                    | none => simp [hi, hzz] at hz0
                    | some v => simp [hi, hzz] at hz0; exact ⟨i, v, rfl, hzz, hz0.symm⟩
                obtain ⟨i, v, hi, hzv, hv⟩ := hz'
                have : v = .int .i64 0 := by
                  unfold ofValue at hv
                  split at hv
                  · cases hv
                  · unfold ofVal at hv
                    split at hv <;> first | (simp at hv; done) | skip
                    simp at hv
                    obtain ⟨rfl, rfl⟩ := hv
                    rfl
                simp [zeroValue, typeInfo, hi, hzv, this]
              · cases hz
            have hval : mval C es x = (match mix C.deq x es 0 with | some (_, n) => n | none => 0) := by
              unfold mval mget
              cases mix C.deq x es 0 <;> rfl
            have hhas : mhas C es x = (mix C.deq x es 0).isSome := by
              unfold mhas mget
              cases mix C.deq x es 0 <;> rfl
            rw [hval, hhas]
            cases hmx : mix C.deq x es 0 with
            | none =>
              simp only [hmx, Option.map_none] at hfk
              cases ok with
              | true => exact ⟨.tuple #[.int .i64 0, .bool false], ⟨[.int .i64 0, .bool false], rfl, .inr rfl, .inr rfl, trivial⟩, by simp [Instr.lookup, run_underlying hu, hgo, hck, hfk, hzr]⟩
              | false => exact ⟨.int .i64 0, .inr rfl, by simp [Instr.lookup, run_underlying hu, hgo, hck, hfk, hzr]⟩
            | some z =>
              obtain ⟨j, n⟩ := z
              simp only [hmx, Option.map_some] at hfk
              cases ok with
              | true => exact ⟨.tuple #[.int .i64 n, .bool true], ⟨[.int .i64 n, .bool true], rfl, .inr rfl, .inr rfl, trivial⟩, by simp [Instr.lookup, run_underlying hu, hgo, hck, hfk]⟩
              | false => exact ⟨.int .i64 n, .inr rfl, by simp [Instr.lookup, run_underlying hu, hgo, hck, hfk]⟩
          · exact (gives_fail hq).elim
        · exact (gives_fail hq).elim
      · exact (gives_fail hq).elim
    · exact (gives_fail hq).elim
  · exact (gives_fail hq).elim
theorem litS_eq {a b : SV} (h : litS a b = true) {v u : Value} (hv : a.R pl v) (hu : b.R pl u) (n : Nat) : v = u ∧ Instr.sameBits n v u = true := by
  unfold litS at h
  split at h <;> first | (cases h; done) | skip
  all_goals
    rcases hv with hv | hv <;> first | (cases hv; done) | skip
    rcases hu with hu | hu <;> first | (cases hu; done) | skip
    simp only [SV.val, Option.some.injEq] at hv hu
    subst hv hu
  · simp only [Bool.and_eq_true, decide_eq_true_eq] at h
    obtain ⟨rfl, rfl⟩ := h
    exact ⟨rfl, by cases n <;> simp [Instr.sameBits]⟩
  · have : ∀ a b : Bool, (a == b) = true → a = b := by decide
    have := this _ _ h
    subst this
    exact ⟨rfl, by cases n <;> simp [Instr.sameBits]⟩
  · simp only [decide_eq_true_eq] at h
    subst h
    exact ⟨rfl, by cases n <;> simp [Instr.sameBits, beq_toListBytes]⟩
theorem litL_eq {n : Nat} : ∀ {a b : List SV} {vs us : List Value}, litL a b = true → RL pl a vs → RL pl b us → vs.length = us.length ∧ (vs.zip us).all (fun (x, y) => Instr.sameBits n x y) = true
  | [], [], [], [], _, _, _ => ⟨rfl, rfl⟩
  | [], _, _ :: _, _, _, h, _ => h.elim
  | _, [], _, _ :: _, _, _, h => h.elim
  | _ :: _, _, [], _, _, h, _ => h.elim
  | _, _ :: _, _, [], _, _, h => h.elim
  | [], _ :: _, _, _, h, _, _ => by simp [litL] at h
  | _ :: _, [], _, _, h, _, _ => by simp [litL] at h
  | s :: a, t :: b, v :: vs, u :: us, h, hv, hu => by
    simp only [litL, Bool.and_eq_true] at h
    have ih := litL_eq (n := n) h.2 hv.2 hu.2
    have h1 := (litS_eq h.1 hv.1 hu.1 n).2
    refine ⟨by simp [ih.1], ?_⟩
    simp only [List.zip_cons_cons, List.all_cons, Bool.and_eq_true]
    exact ⟨h1, ih.2⟩
theorem litEq_bits {p q : PV} (h : litEq p q = true) {v u : Value} (hv : p.R pl v) (hu : q.R pl u) (n : Nat) : Instr.sameBits (n + 1) v u = true := by
  unfold litEq at h
  split at h
  · exact (litS_eq h hv hu _).2
  · obtain ⟨vs, rfl, h1⟩ := hv
    obtain ⟨us, rfl, h2⟩ := hu
    have := litL_eq (n := n) h h1 h2
    unfold Instr.sameBits
    simp only [List.size_toArray, Bool.and_eq_true, beq_iff_eq]
    exact ⟨this.1, this.2⟩
  · cases h
theorem aPut_sound {kt : Nat} {k v : PV} {kv vv : Value} (hk : k.R pl kv) (hv : v.R pl vv) : ∀ {es es' : List (PV × PV)} {ms : List MapEntry} (i : Nat), aPut P kt k v es = some es' → EntR pl es ms →
    (∃ j e old, aGet P kt k es = some (some old) ∧ ms[j]? = some e ∧ Instr.sameBits 10000 e.key kv = true ∧ (∀ w, ∃ x, (Instr.findAsking kt kv ms i).run P w = .ok (some (i + j, x)) w) ∧ (∀ d a, k = .one a → P.underlying kt = some d → ∃ x, Instr.findNow d kv ms i = some (some (i + j, x))) ∧ EntR pl es' (ms.modify j fun e => { e with key := kv, val := vv })) ∨
    (aGet P kt k es = some none ∧ ∀ b, EntR pl es' (ms ++ [{ key := kv, val := vv, born := b }]))
  | [], es', [], i, h, _ => by simp [aPut] at h; subst h; exact .inr ⟨rfl, fun b => ⟨hk, hv, trivial⟩⟩
  | [], _, _ :: _, _, _, h => h.elim
  | _ :: _, _, [], _, _, h => h.elim
  | (k', v') :: l, es', e :: ms, i, h, hm => by
    simp only [aPut] at h
    split at h
    · rename_i b he
      have hq := fun w => (aEq_sound 20 kt k k' true b kv e.key Op.maxDepth w he hk hm.1 (by decide)).1
      cases b with
      | true =>
        simp only [if_true] at h
        split at h
        · rename_i hl
          simp at h
          subst h
          refine .inl ⟨0, e, v', by simp [aGet, he], rfl, litEq_bits hl hm.1 hk 9999, fun w => ⟨e.val, by simp [Instr.findAsking, Op.equal, hq w]⟩, fun d a ha hd => ?_, ?_⟩
          · subst ha
            obtain ⟨b1, rfl, hf1, hf2, hse⟩ := aEq_one he hd
            exact ⟨e.val, by simp [Instr.findNow, sameNow_sound hf1 hf2 hse hk hm.1]⟩
          simpa [List.modify] using ⟨hk, hv, hm.2.2⟩
        · cases h
      | false =>
        simp only [Bool.false_eq_true, if_false] at h
        split at h
        · rename_i r hr
          simp at h
          subst h
          rcases aPut_sound hk hv (i + 1) hr hm.2.2 with ⟨j, e2, old, g1, g2, g3, g4, g6, g5⟩ | ⟨g1, g2⟩
          · refine .inl ⟨j + 1, e2, old, by simp [aGet, he, g1], by simpa using g2, g3, fun w => ?_, fun d a ha hd => ?_, ?_⟩
            · obtain ⟨x, hx⟩ := g4 w
              refine ⟨x, ?_⟩
              have e3 : i + (j + 1) = i + 1 + j := by omega
              simp [Instr.findAsking, Op.equal, hq w, hx, e3]
            · obtain ⟨x, hx⟩ := g6 d a ha hd
              refine ⟨x, ?_⟩
              have e3 : i + (j + 1) = i + 1 + j := by omega
              subst ha
              obtain ⟨b1, rfl, hf1, hf2, hse⟩ := aEq_one he hd
              simp [Instr.findNow, sameNow_sound hf1 hf2 hse hk hm.1, hx, e3]
            · simpa [List.modify] using ⟨hm.1, hm.2.1, g5⟩
          · exact .inr ⟨by simp [aGet, he, g1], fun b => ⟨hm.1, hm.2.1, g2 b⟩⟩
        · cases h
    · cases h
theorem isB_R {s : SV} (hs : s.isB = true) {v : Value} (h : s.R pl v) : ∃ b, v = .bool b := by
  unfold SV.isB at hs
  split at hs <;> first | (cases hs; done) | skip
  all_goals
    rcases h with h | h <;> first | (cases h; done) | skip
    simp only [SV.val, Option.some.injEq] at h
    exact ⟨_, h.symm⟩
end
end Go.AM
