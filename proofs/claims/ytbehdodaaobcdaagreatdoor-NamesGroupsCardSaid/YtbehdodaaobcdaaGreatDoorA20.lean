import Derived.Test.YtbehdodaaobcdaaGreatDoorA19
import Derived.Test.YtbehdodaaobcdaaGreatDoorA17
import Derived.Test.YtbehdodaaobcdaaGreatDoorA16
import Derived.Shelf.GgSortFunc.InsertionK
set_option maxHeartbeats 4000000
open Go Go.AM Go.Proofs
namespace Go.AM
def qBring : PSpec
  | [.v (.agg [.sym .i64 a, .sym .i64 b, .sym .i64 c]), .v (.one (.sym .i64 m))] => .iff (m ≠ 0) (V (modR a m) (modR b m) (modR c m))
  | _ => .fail
theorem nfbring (a b c m : Int) (K : KV) : call P O10 noAnn 100000 Tryz.f109 [V a b c, I m] [] K = ((m = (0 : Int) → False) ∧ (m = (0 : Int) → False) ∧ (m = (0 : Int) → False) ∧ K (AV.v (PV.agg [SV.sym IntKind.i64 (modR a m), SV.sym IntKind.i64 (modR b m), SV.sym IntKind.i64 (modR c m)])) []) := by kernel_rfl
theorem ohBring : Holds P O10 109 qBring := by
  refine holds_ok (fn := Tryz.f109) (by kernel_rfl) (by kernel_rfl) fun args av h => ?_
  unfold qBring at h
  split at h
  · rename_i a b c m
    rcases h with h | ⟨p, h, hp⟩
    · cases h
    · injection h with h1 h2
      subst h2
      rw [← h1] at hp
      refine ⟨rfl, _, rfl, ?_⟩
      rw [nfbring]
      exact ⟨hp, hp, hp, rfl, rfl⟩
  · exact (gives_fail h).elim
def O11 : Sums := O10.add 109 qBring
end Go.AM
open Go Go.AM Go.Proofs
namespace Go.AM
theorem names_ok : (Tryz.prog.funcs.toList.all fun fn => !(fn.name == "runtime.NumGoroutine")) = true := by kernel_rfl
theorem fine : Fine Tryz.prog := ⟨fun f fn h => by
  have h1 := List.all_eq_true.1 names_ok fn (by
    obtain ⟨hi, e⟩ := Array.getElem?_eq_some_iff.1 h
    rw [← e]
    exact Array.getElem_mem_toList hi)
  simpa using h1, by kernel_rfl⟩
theorem pG0 : OkS P G0 := pX1
end Go.AM
open Go Go.AM Go.Proofs
namespace Go.AM
theorem pO0 : OkS P O0 := (pG0.add1 fine pG0 h19)
theorem pO1 : OkS P O1 := ((pO0.add1 fine pO0 oh65).add1 fine pO0 oh46)
theorem pO2 : OkS P O2 := ((((pO1.add1 fine pO1 oh38).add1 fine pO1 oh29).add1 fine pO1 oh51).add1 fine pO1 oh63)
theorem pO3 : OkS P O3 := (((pO2.add1 fine pO2 oh47).add1 fine pO2 oh33).add1 fine pO2 oh50)
theorem pO4 : OkS P O4 := (((pO3.add1 fine pO3 oh34).add1 fine pO3 oh40).add1 fine pO3 oh49)
theorem pO5 : OkS P O5 := (((pO4.add1 fine pO4 oh41).add1 fine pO4 oh15).add1 fine pO4 oh48)
theorem pO6 : OkS P O6 := (pO5.add1 fine pO5 ohMul)
theorem pO7 : OkS P O7 := ((pO6.add1 fine pO6 ohCmp).add1 fine pO6 ohVcmp)
theorem pO8 : OkS P O8 := (pO7.add1 fine pO7 ohOcmp)
theorem pO9 : OkS P O9 := (((pO8.add1 fine pO8 ohRmod).add1 fine pO8 ohWithin).add1 fine pO8 ohRdet)
theorem pO10 : OkS P O10 := ((((pO9.add1 fine pO9 oh_rcmp3).add1 fine pO9 oh_rcmp9).add1 fine pO9 oh_rcmp12).add1 fine pO9 oh_rmul)
theorem pO11 : OkS P O11 := (pO10.add1 fine pO10 ohBring)
end Go.AM
open Go Go.AM Go.Proofs
namespace Go.AM
structure OpI where
  a : Int
  b : Int
  c : Int
  d : Int
  e : Int
  f : Int
  g : Int
  h : Int
  i : Int
  x : Int
  y : Int
  z : Int

theorem OpI.ext' {o q : OpI} (ha : o.a = q.a) (hb : o.b = q.b) (hc : o.c = q.c) (hd : o.d = q.d) (he : o.e = q.e) (hf : o.f = q.f) (hg : o.g = q.g) (hh : o.h = q.h) (hi : o.i = q.i) (hx : o.x = q.x) (hy : o.y = q.y) (hz : o.z = q.z) : o = q := by
  cases o; cases q
  simp only at *
  subst_vars
  rfl
instance : DecidableEq OpI := fun o q => if h : o.a = q.a ∧ o.b = q.b ∧ o.c = q.c ∧ o.d = q.d ∧ o.e = q.e ∧ o.f = q.f ∧ o.g = q.g ∧ o.h = q.h ∧ o.i = q.i ∧ o.x = q.x ∧ o.y = q.y ∧ o.z = q.z then .isTrue (OpI.ext' h.1 h.2.1 h.2.2.1 h.2.2.2.1 h.2.2.2.2.1 h.2.2.2.2.2.1 h.2.2.2.2.2.2.1 h.2.2.2.2.2.2.2.1 h.2.2.2.2.2.2.2.2.1 h.2.2.2.2.2.2.2.2.2.1 h.2.2.2.2.2.2.2.2.2.2.1 h.2.2.2.2.2.2.2.2.2.2.2) else .isFalse (fun e => h (by subst e; exact ⟨rfl, rfl, rfl, rfl, rfl, rfl, rfl, rfl, rfl, rfl, rfl, rfl⟩))
def i64s : List SV → Option (List Int)
  | [] => some []
  | s :: l => match i64? s, i64s l with
    | some n, some r => some (n :: r)
    | _, _ => none
def symL : List Int → List SV
  | [] => []
  | n :: l => .sym .i64 n :: symL l
theorem i64s_R {pl : List Pl} : ∀ {l : List SV} {ns : List Int} {vs : List Value}, i64s l = some ns → RL pl l vs → RL pl (symL ns) vs
  | [], ns, vs, h, hv => by
    simp [i64s] at h
    subst h
    exact hv
  | s :: l, ns, [], h, hv => hv.elim
  | s :: l, ns, v :: vs, h, hv => by
    simp only [i64s] at h
    split at h
    · rename_i n r h1 h2
      cases h
      exact ⟨.inr (by rw [i64_R h1 hv.1]; rfl), i64s_R h2 hv.2⟩
    · cases h
def opOf : List Int → Option OpI
  | [a, b, c, d, e, f, g, h, i, x, y, z] => some ⟨a, b, c, d, e, f, g, h, i, x, y, z⟩
  | _ => none
def opS (o : OpI) : List SV := [.sym .i64 o.a, .sym .i64 o.b, .sym .i64 o.c, .sym .i64 o.d, .sym .i64 o.e, .sym .i64 o.f, .sym .i64 o.g, .sym .i64 o.h, .sym .i64 o.i, .sym .i64 o.x, .sym .i64 o.y, .sym .i64 o.z]
theorem opOf_symL {ns : List Int} {o : OpI} (h : opOf ns = some o) : symL ns = opS o := by
  unfold opOf at h
  split at h
  · cases h; rfl
  · cases h
abbrev cOp : Codec where
  τ := OpI
  esz := 12
  enc := opS
  dec := fun l => match i64s l with
    | some ns => opOf ns
    | none => none
  d := ⟨0, 0, 0, 0, 0, 0, 0, 0, 0, 0, 0, 0⟩
  len_ok := fun _ => rfl
  known_ok := fun _ => rfl
  dec_ok := fun l t pl vs h hv => by
    split at h
    · rename_i ns hn
      have := i64s_R hn hv
      rwa [opOf_symL h] at this
    · cases h
  low_ok := fun _ _ => rfl
  deq := inferInstance
def oneO : OpI := ⟨1, 0, 0, 0, 1, 0, 0, 0, 1, 0, 0, 0⟩
def zeroO : OpI := ⟨0, 0, 0, 0, 0, 0, 0, 0, 0, 0, 0, 0⟩
def oM (o q : OpI) : Int := mulE o.a o.b o.c o.d o.e o.f o.g o.h o.i o.x o.y o.z q.a q.b q.c q.d q.e q.f q.g q.h q.i q.x q.y q.z
def oC (o q : OpI) : Int := cmp12 o.a o.b o.c o.d o.e o.f o.g o.h o.i o.x o.y o.z q.a q.b q.c q.d q.e q.f q.g q.h q.i q.x q.y q.z
def oP (o q : OpI) : OpI := ⟨pr o.a o.b o.c q.a q.d q.g, pr o.a o.b o.c q.b q.e q.h, pr o.a o.b o.c q.c q.f q.i, pr o.d o.e o.f q.a q.d q.g, pr o.d o.e o.f q.b q.e q.h, pr o.d o.e o.f q.c q.f q.i, pr o.g o.h o.i q.a q.d q.g, pr o.g o.h o.i q.b q.e q.h, pr o.g o.h o.i q.c q.f q.i, tr o.a o.b o.c q.x q.y q.z o.x, tr o.d o.e o.f q.x q.y q.z o.y, tr o.g o.h o.i q.x q.y q.z o.z⟩
def oR (o q : OpI) : OpI := if oM o q = 0 then oP o q else zeroO
def qMulO : PSpec
  | [.v (.agg [.sym .i64 a, .sym .i64 b, .sym .i64 c, .sym .i64 d, .sym .i64 e, .sym .i64 f, .sym .i64 g, .sym .i64 h, .sym .i64 i, .sym .i64 x, .sym .i64 y, .sym .i64 z]), .v (.agg [.sym .i64 p, .sym .i64 q, .sym .i64 r, .sym .i64 s, .sym .i64 t, .sym .i64 u, .sym .i64 v, .sym .i64 w, .sym .i64 k, .sym .i64 l, .sym .i64 m, .sym .i64 n])] => .ok (.tup [.agg (opS (oR ⟨a, b, c, d, e, f, g, h, i, x, y, z⟩ ⟨p, q, r, s, t, u, v, w, k, l, m, n⟩)), .one (.sym .i64 (oM ⟨a, b, c, d, e, f, g, h, i, x, y, z⟩ ⟨p, q, r, s, t, u, v, w, k, l, m, n⟩))])
  | _ => .fail
theorem ohMulO : Holds P O5 39 qMulO := by
  obtain ⟨fn, h1, h2, h3⟩ := ohMul
  refine ⟨fn, h1, h2, fun args av hg => ?_⟩
  unfold qMulO at hg
  split at hg
  · rename_i a b c d e f g h i x y z p q r s t u v w k l m n
    rw [gives_ok hg]
    obtain ⟨k1, v0, n0, A, k2, k3, k4⟩ := h3 _ _ (show (oqMul [.v (.agg [.sym .i64 a, .sym .i64 b, .sym .i64 c, .sym .i64 d, .sym .i64 e, .sym .i64 f, .sym .i64 g, .sym .i64 h, .sym .i64 i, .sym .i64 x, .sym .i64 y, .sym .i64 z]), .v (.agg [.sym .i64 p, .sym .i64 q, .sym .i64 r, .sym .i64 s, .sym .i64 t, .sym .i64 u, .sym .i64 v, .sym .i64 w, .sym .i64 k, .sym .i64 l, .sym .i64 m, .sym .i64 n])]).gives _ from .inl rfl)
    refine ⟨k1, v0, n0, A, k2, ?_, k4⟩
    rw [← k3]
    by_cases he : mulE a b c d e f g h i x y z p q r s t u v w k l m n = 0
    · simp only [oR, oM, he, if_true]; rfl
    · simp only [oR, oM, he, if_false]; rfl
  · exact (gives_fail hg).elim
def qCmpO : PSpec
  | [.v (.agg [.sym .i64 a, .sym .i64 b, .sym .i64 c, .sym .i64 d, .sym .i64 e, .sym .i64 f, .sym .i64 g, .sym .i64 h, .sym .i64 i, .sym .i64 x, .sym .i64 y, .sym .i64 z]), .v (.agg [.sym .i64 p, .sym .i64 q, .sym .i64 r, .sym .i64 s, .sym .i64 t, .sym .i64 u, .sym .i64 v, .sym .i64 w, .sym .i64 k, .sym .i64 l, .sym .i64 m, .sym .i64 n])] => .ok (.v (.one (.sym .i64 (oC ⟨a, b, c, d, e, f, g, h, i, x, y, z⟩ ⟨p, q, r, s, t, u, v, w, k, l, m, n⟩))))
  | _ => .fail
theorem ohCmpO : Holds P O7 41 qCmpO := ohOcmp
end Go.AM
namespace Go.AM
open Go Go.Sort Go.Proofs
@[reducible] def globD : Glob where
  tab _ := True
  blk _ := False
  keep _ _ _ _ := trivial
  lt _ _ _ h := h.elim
  dr := True
theorem arr_split {α : Type} {a b : Array α} (h : a.size ≤ b.size) (he : ∀ k, k < a.size → b[k]? = a[k]?) : b = a ++ b.extract a.size b.size := by
  apply Array.ext_getElem?
  intro i
  by_cases hi : i < a.size
  · rw [Array.getElem?_append_left hi]
    exact he i hi
  · rw [Array.getElem?_append_right (by omega), Array.getElem?_extract]
    by_cases hb : i < b.size
    · rw [if_pos (by omega)]
      congr 1
      omega
    · rw [if_neg (by omega), Array.getElem?_eq_none (by omega)]
theorem grow_of {W w' : World} (hf : Fr W (fun _ => False) w') (hd : W.drawn ≤ w'.drawn) : ∃ q os, w' = grow (W.drewN q) os := by
  refine ⟨w'.drawn - W.drawn, w'.heap.extract W.heap.size w'.heap.size, ?_⟩
  have h1 := arr_split hf.size (fun k hk => hf.block k hk (fun h => h))
  have h2 := hf.os
  have h3 := hf.tape
  have h4 := hf.output
  obtain ⟨hp, tp, dr, os, ou⟩ := w'
  simp only at h1 h2 h3 h4 hd
  subst h2 h3 h4
  unfold grow World.drewN
  simp only [World.mk.injEq]
  refine ⟨h1, trivial, ?_, trivial, trivial⟩
  show dr = W.drawn + (dr - W.drawn)
  omega
section
variable {P : Program}
theorem pure_grow (hF : Fine P) {S : Sums} (hS : @OkS globD P S) {g : Nat} {p : PSpec} (hg : S.pure g = some p) {args : List AV} {av : AV} {v : Value} (hgv : (p args).gives av) (hv : av.valOf = some v) {vals : List Value} (hargs : ArgsR [] args vals) (W : World) :
    Calls P g vals.toArray W fun e w' => e = .returned v ∧ ∃ q os, w' = grow (W.drewN q) os := by
  letI := globD
  obtain ⟨u, hu⟩ := (hS.pure g p hg).2 args av hgv W noMarks [] [] vals hargs
  have h := hu W (empty_R W trivial)
  have e : u = v := (AV.valOf_spec hv).2 u h.1
  subst e
  refine h.2.mono fun e w' ⟨he, hR⟩ => ⟨he, ?_⟩
  exact grow_of hR.fr (hR.drw trivial)
end
def evl (C : Codec) (t : C.τ) : List Value := (valsOf (C.enc t)).getD []
def sortSpec (T : Nat) (C : Codec) (g : Nat) (srt : List C.τ → List C.τ) : ASpec := fun args h K => match args with
  | [.v (.one (.ow b z 0 n false)), .v (.one (.fn g' []))] => if decide (g' = g) && decide (z = C.esz) then (match get? h b with
    | some (.own T' C' xs) => if decide (T' = T) && decide (C'.esz = C.esz) then ∃ ys : List C.τ, SameRows C ys C' xs ∧ (n = xs.length ∧ 0 < n ∧ n < 4611686018427387904) ∧ K AV.undef (set h b (.own T C (srt ys))) else False
    | _ => False) else False
  | _ => False
theorem sortSpec_mono {T : Nat} {C : Codec} {g : Nat} {srt : List C.τ → List C.τ} {args : List AV} {h : Heap} {K K' : KV} (hK : ∀ v h, K v h → K' v h) (hk : sortSpec T C g srt args h K) : sortSpec T C g srt args h K' := by
  unfold sortSpec at hk ⊢
  split at hk
  · split at hk
    · rename_i h1
      rw [if_pos h1]
      split at hk
      · split at hk
        · rename_i h2
          rw [if_pos h2]
          obtain ⟨ys, h3, h4, h5⟩ := hk
          exact ⟨ys, h3, h4, hK _ _ h5⟩
        · exact hk.elim
      · exact hk.elim
    · exact hk.elim
  · exact hk.elim
section
variable {P : Program} {C : Codec}
theorem evl_uni (hv : ∀ t, (valsOf (C.enc t)).isSome = true) {pl : List Pl} : ∀ {ys : List C.τ} {us : List Value}, RL pl (flatC C ys) us → us = ys.flatMap (evl C)
  | [], us, h => by
    cases us with
    | nil => rfl
    | cons _ _ => exact h.elim
  | t :: ys, us, h => by
    have h1 := (RL.split (a := C.enc t) h).1
    have h2 := (RL.split (a := C.enc t) h).2
    obtain ⟨ws, hw⟩ := Option.isSome_iff_exists.1 (hv t)
    have h3 : RL [] (C.enc t) (us.take (C.enc t).length) := RL_of_low (C.low_ok t 0) h1
    have e1 := (valsOf_spec hw).2 _ h3
    have e2 := evl_uni hv h2
    have e : us = us.take (C.enc t).length ++ us.drop (C.enc t).length := (List.take_append_drop _ _).symm
    rw [e, e1, e2]
    simp only [List.flatMap_cons, evl, hw, Option.getD_some]
theorem evl_len (hv : ∀ t, (valsOf (C.enc t)).isSome = true) (t : C.τ) : (evl C t).length = C.esz := by
  obtain ⟨ws, hw⟩ := Option.isSome_iff_exists.1 (hv t)
  have h := (valsOf_spec hw).1
  unfold evl
  rw [hw, Option.getD_some, ← RL.length h, C.len_ok]
theorem RL_evl (hv : ∀ t, (valsOf (C.enc t)).isSome = true) {pl : List Pl} : ∀ ys : List C.τ, RL pl (flatC C ys) (ys.flatMap (evl C))
  | [] => trivial
  | t :: ys => by
    obtain ⟨ws, hw⟩ := Option.isSome_iff_exists.1 (hv t)
    have h := (valsOf_spec hw).1
    have e : evl C t = ws := by unfold evl; rw [hw]; rfl
    rw [List.flatMap_cons, e]
    exact RL.append (RL_of_low (C.low_ok t 0) h) (RL_evl hv ys)
theorem flatM_len {α β : Type _} {f : α → List β} {k : Nat} (hf : ∀ x, (f x).length = k) : ∀ ys : List α, (ys.flatMap f).length = ys.length * k
  | [] => by simp
  | t :: ys => by rw [List.flatMap_cons, List.length_append, hf, flatM_len hf ys, List.length_cons, Nat.add_mul, Nat.one_mul, Nat.add_comm]
theorem flat_at {α : Type _} [Inhabited α] {f : α → List Value} {k : Nat} (hf : ∀ x, (f x).length = k) (hk : 0 < k) : ∀ (ys : List α) (j : Nat), j < ys.length * k → (ys.flatMap f)[j]? = some ((f (ys.toArray[j / k]!))[j % k]!)
  | [], j, hj => by simp at hj
  | t :: ys, j, hj => by
    rw [List.flatMap_cons]
    by_cases h : j < k
    · rw [List.getElem?_append_left (by rw [hf]; exact h), Nat.div_eq_of_lt h, Nat.mod_eq_of_lt h]
      have h2 : j < (f t).length := by rw [hf]; exact h
      rw [List.getElem?_eq_getElem h2]
      simp [h2]
    · have hj2 : j - k < ys.length * k := by rw [List.length_cons, Nat.add_mul, Nat.one_mul] at hj; omega
      have ih := flat_at hf hk ys (j - k) hj2
      rw [List.getElem?_append_right (by rw [hf]; omega), hf, ih]
      have e : j = (j - k) + k := by omega
      have e1 : j / k = (j - k) / k + 1 := by
        conv => lhs; rw [e]
        exact Nat.add_div_right _ hk
      have e2 : j % k = (j - k) % k := by
        conv => lhs; rw [e]
        exact Nat.add_mod_right _ _
      rw [e1, e2]
      simp
instance (C : Codec) : Inhabited C.τ := ⟨C.d⟩
theorem flatK_at (hv : ∀ t, (valsOf (C.enc t)).isSome = true) (hz : 0 < C.esz) (ys : List C.τ) {j : Nat} (hj : j < ys.length * C.esz) : (ys.flatMap (evl C))[j]? = some ((flatK (evl C) C.esz ys.toArray)[j]!) := by
  rw [get_flatK _ _ _ _ (by simpa using hj)]
  exact flat_at (evl_len hv) hz ys j hj
theorem OkS.addSort [Glob] {S : Sums} (h : OkS P S) {f g T : Nat} {srt : List C.τ → List C.τ} (hb : ∃ fn, P.funcs[f]? = some fn ∧ fn.body.isSome = true) (hv : ∀ t, (valsOf (C.enc t)).isSome = true) (hz : 0 < C.esz)
    (hsort : ∀ (blk cap : Nat) (d : List C.τ) (w : World), HoldsK (evl C) C.esz w blk 0 d.toArray → blk < w.heap.size → d.length < 4611686018427387904 →
      Calls P f #[.slice (some ⟨blk, 0, none⟩) d.length cap, .func (.func g) #[] #[]] w fun e w' => e = .returned (.tuple #[]) ∧ ∃ n os, w' = sortWorldK (evl C) C.esz w blk 0 n (srt d).toArray os)
    (hl : ∀ d, (srt d).length = d.length) : OkS P (S.addSp f (sortSpec T C g srt)) := by
  refine ⟨h.pure, ⟨fun g' sp hg => ?_, h.spec.2⟩, fun g' sp hg => ?_⟩
  · by_cases e : g' = f
    · subst e
      simp only [Sums.addSp, if_true] at hg
      cases hg
      refine ⟨hb, fun args hh K hsp w0 Sx pl w vals hR hargs => ?_⟩
      unfold sortSpec at hsp
      split at hsp
      · rename_i b z n g2
        split at hsp
        · rename_i hc
          simp only [Bool.and_eq_true, decide_eq_true_eq] at hc
          obtain ⟨rfl, rfl⟩ := hc
          split at hsp
          · rename_i T' C' xs hg
            rw [get?_eq] at hg
            split at hsp
            · rename_i hc
              simp only [Bool.and_eq_true, decide_eq_true_eq] at hc
              obtain ⟨rfl, hce⟩ := hc
              obtain ⟨ys, hsr, ⟨hn, hn0, hn62⟩, hK⟩ := hsp
              match vals, hargs with
              | [], hargs => exact hargs.elim
              | [_], hargs => exact hargs.2.elim
              | _ :: _ :: _ :: _, hargs => exact hargs.2.2.elim
              | [v0, v1], hargs =>
                have hlt : b < pl.length := by rw [hR.len]; exact (List.getElem?_eq_some_iff.1 hg).1
                obtain ⟨p, hp⟩ : ∃ p, pl[b]? = some p := ⟨_, List.getElem?_eq_getElem hlt⟩
                obtain ⟨us, hus, how⟩ := hR.hb b _ p hg hp
                have hus2 : RL pl (flatC C ys) us := by rw [hsr.hf']; exact hus
                have hu := evl_uni hv hus2
                have hyl : ys.length = xs.length := hsr.hl'
                have hul : us.length = xs.length * C.esz := by rw [← hce]; exact how.1
                have hnil : p.nil = false := own_nonnil how (by rw [hul]; exact Nat.mul_pos (by omega) hz)
                have hal : Blk.alive (.own T' C' xs) p = true := by simp [Blk.alive, hnil]
                rcases how.2 with ⟨h1, _⟩ | ⟨g1, cap, cur, h1, _, ⟨fz, h2, hfz⟩, h3, h4, h5, h6⟩
                · simp [Pl.sv, hnil] at h1
                simp only [Pl.sv, hnil, Bool.false_eq_true, if_false, Value.slice.injEq, Option.some.injEq, Addr.mk.injEq] at h1
                obtain ⟨⟨rfl, _⟩, _, rfl⟩ := h1
                have hv0 : v0 = .slice (some ⟨p.blk, 0, none⟩) ys.length p.cap := by
                  have := hargs.1.resolve_left (by intro h; cases h)
                  simp only [SV.val, owVal, hp, hnil, Bool.false_eq_true, if_false, Nat.zero_mul, Nat.sub_zero, ite_self, Option.some.injEq] at this
                  rw [← this, hn, hyl]
                have hv1 : v1 = .func (.func g2) #[] #[] := by
                  have := hargs.2.1.resolve_left (by intro h; cases h)
                  simpa [SV.val, capVals] using this.symm
                subst hv0 hv1
                have hblk : p.blk < w.heap.size := (Array.getElem?_eq_some_iff.1 h2).1
                rw [hce] at h5 h6
                have hcur : ∀ j, j < ys.length * C.esz → cur[j]? = (ys.flatMap (evl C))[j]? := fun j hj => by
                  rw [← hu, ← h6, List.getElem?_take, if_pos (by rw [← hyl]; exact hj)]
                  simp
                have hle : ys.length * C.esz ≤ cur.size := by rw [h5, hyl]; exact Nat.mul_le_mul_right _ h3
                have hH : HoldsK (evl C) C.esz w p.blk 0 ys.toArray := fun j hj => by
                  rw [size_flatK] at hj
                  have hj : j < ys.length * C.esz := by simpa using hj
                  refine ⟨?_, ?_⟩
                  · unfold World.cell?
                    simp only [h2, Option.isSome_none, Bool.false_eq_true, if_false, Nat.zero_add]
                    rw [hcur j hj, flatK_at hv hz ys hj]
                    rfl
                  · unfold World.frozen?
                    simp only [h2, Nat.zero_add]
                    obtain ⟨lo, hi⟩ := fz
                    simp only [Bool.and_eq_false_iff, decide_eq_false_iff_not]
                    rcases hfz with e | e
                    · simp only at e; omega
                    · simp only at e; omega
                have hlen : ys.length < 4611686018427387904 := by omega
                refine (hsort p.blk p.cap ys w hH hblk hlen).mono ?_
                rintro e w' ⟨rfl, n', os, rfl⟩
                have hd : (sortWorldK (evl C) C.esz w p.blk 0 n' (srt ys).toArray os).heap = (w.heap.modify p.blk (onCells (putCells id 0 (flatK (evl C) C.esz (srt ys).toArray)))) ++ os := rfl
                have hother : ∀ k, k < w.heap.size → k ≠ p.blk → (sortWorldK (evl C) C.esz w p.blk 0 n' (srt ys).toArray os).heap[k]? = w.heap[k]? := fun k hk hne => by
                  rw [hd, Array.getElem?_append_left (by simpa using hk), Array.getElem?_modify, if_neg (fun e => hne e.symm)]
                have hat : (sortWorldK (evl C) C.esz w p.blk 0 n' (srt ys).toArray os).heap[p.blk]? = some (.cells (putCells id 0 (flatK (evl C) C.esz (srt ys).toArray) cur) T' fz) := by
                  rw [hd, Array.getElem?_append_left (by simpa using hblk), Array.getElem?_modify, if_pos rfl, h2]
                  rfl
                have hgr : w.grownBy (sortWorldK (evl C) C.esz w p.blk 0 n' (srt ys).toArray os) (some p.blk) := ⟨rfl, rfl, rfl, by rw [hd]; simp, fun k hk hne => hother k hk (fun e => hne (by rw [e]))⟩
                have hsl : (srt ys).length = xs.length := by rw [hl, hyl]
                have hX : BlkR pl (sortWorldK (evl C) C.esz w p.blk 0 n' (srt ys).toArray os) (.own T' C (srt ys)) p := by
                  refine ⟨(srt ys).flatMap (evl C), RL_evl hv _, ?_, .inr ⟨p.blk, p.cap, _, by simp [Pl.sv, hnil], Nat.zero_le _, ⟨fz, hat, by simpa [putCells] using hfz⟩, by rw [hsl]; exact h3, h4, by simpa [putCells] using h5, ?_⟩⟩
                  · exact flatM_len (evl_len hv) _
                  · apply List.ext_getElem?
                    intro j
                    by_cases hj : j < (srt ys).length * C.esz
                    · rw [List.getElem?_take, if_pos hj, flatK_at hv hz _ hj]
                      have hjc : j < cur.size := by rw [hsl, ← hyl] at hj; omega
                      unfold putCells
                      simp only [Array.getElem?_toList, Array.getElem?_mapIdx, Array.getElem?_eq_getElem hjc, Option.map_some, size_flatK, List.size_toArray, Nat.zero_add, Nat.zero_le, true_and, id, Nat.sub_zero]
                      rw [if_pos hj]
                    · rw [List.getElem?_eq_none (by rw [List.length_take]; omega), List.getElem?_eq_none (by rw [flatM_len (evl_len hv)]; omega)]
                refine ⟨_, AV.undef, _, pl, rfl, ⟨[], rfl, trivial⟩, PExt.refl pl, hR.updG hp hg hal hgr hX (hdr := fun _ => ?_), hK⟩
                show w.drawn ≤ w.drawn + n'
                omega
            · exact hsp.elim
          · exact hsp.elim
        · exact hsp.elim
      · exact hsp.elim
    · simp only [Sums.addSp, if_neg e] at hg
      exact h.spec.1 g' sp hg
  · by_cases e : g' = f
    · subst e
      simp only [Sums.addSp, if_true] at hg
      cases hg
      intro args hh K K' hK hx
      exact sortSpec_mono hK hx
    · simp only [Sums.addSp, if_neg e] at hg
      exact h.mono g' sp hg
end
end Go.AM
open Go Go.AM Go.Proofs
namespace Go.AM
open Dist
def Z0 : Sums := { pure := fun _ => none, spec := fun _ => none }
theorem pZ0 : @OkS globD P Z0 := by
  letI := globD
  refine ⟨fun f p h => ?_, ⟨fun f p h => ?_, fun f p h => ?_, fun f g h => ?_⟩, fun f p h => ?_⟩
  · exact nomatch (show (none : Option PSpec) = some p from h)
  · exact nomatch (show (none : Option ASpec) = some p from h)
  · exact nomatch (show (none : Option PSpec) = some p from h)
  · exact nomatch (show (none : Option Nat) = some g from h)
  · exact nomatch (show (none : Option ASpec) = some p from h)
theorem nfcmpZ (a b : Int) (K : KV) : call P Z0 noAnn 100000 Tryz.f65 [I a, I b] [] K = (((!decide (a=a))=true->((!decide (b=b))=true->K (.v (.one (.con .i64 0))) [])/\((!decide (b=b))=false->K (.v (.one (.con .i64 (-1:Int)))) []))/\((!decide (a=a))=false->((!decide (b=b))=true->K (.v (.one (.con .i64 1))) [])/\((!decide (b=b))=false->(decide (a<b)=true->K (.v (.one (.con .i64 (-1:Int)))) [])/\(decide (a<b)=false->(decide (b<a)=true->K (.v (.one (.con .i64 1))) [])/\(decide (b<a)=false->K (.v (.one (.con .i64 0))) []))))) := by kernel_rfl
theorem ohCmpZ : Holds P Z0 65 qCmp := by
  refine holds_ok (fn := Tryz.f65) (by kernel_rfl) (by kernel_rfl) fun args av hg => ?_
  unfold qCmp at hg
  split at hg
  · rename_i a b
    rw [gives_ok hg]
    refine ⟨rfl, .int .i64 (icmp a b), rfl, ?_⟩
    rw [nfcmpZ]
    clear hg
    repeat' (first | apply And.intro | intro _)
    all_goals first
      | rfl
      | refine leafCon ?_
    all_goals simp only [decide_eq_true_eq, decide_eq_false_iff_not, Bool.not_eq_true', not_true_eq_false] at *
    all_goals (unfold icmp; simp only [*, if_true, if_false])
  · exact (gives_fail hg).elim
theorem nfvcmpZ (a b c d e f g h i p q r s t u v w k : Int) (K : KV) : call P Z0 noAnn 100000 Tryz.f47 [.v (.agg [.sym .i64 a, .sym .i64 b, .sym .i64 c, .sym .i64 d, .sym .i64 e, .sym .i64 f, .sym .i64 g, .sym .i64 h, .sym .i64 i]), .v (.agg [.sym .i64 p, .sym .i64 q, .sym .i64 r, .sym .i64 s, .sym .i64 t, .sym .i64 u, .sym .i64 v, .sym .i64 w, .sym .i64 k])] [] K = ((decide (a<p)=true->K (.v (.one (.con .i64 (-1:Int)))) [])/\(decide (a<p)=false->(decide (p<a)=true->K (.v (.one (.con .i64 1))) [])/\(decide (p<a)=false->(decide (b<q)=true->K (.v (.one (.con .i64 (-1:Int)))) [])/\(decide (b<q)=false->(decide (q<b)=true->K (.v (.one (.con .i64 1))) [])/\(decide (q<b)=false->(decide (c<r)=true->K (.v (.one (.con .i64 (-1:Int)))) [])/\(decide (c<r)=false->(decide (r<c)=true->K (.v (.one (.con .i64 1))) [])/\(decide (r<c)=false->(decide (d<s)=true->K (.v (.one (.con .i64 (-1:Int)))) [])/\(decide (d<s)=false->(decide (s<d)=true->K (.v (.one (.con .i64 1))) [])/\(decide (s<d)=false->(decide (e<t)=true->K (.v (.one (.con .i64 (-1:Int)))) [])/\(decide (e<t)=false->(decide (t<e)=true->K (.v (.one (.con .i64 1))) [])/\(decide (t<e)=false->(decide (f<u)=true->K (.v (.one (.con .i64 (-1:Int)))) [])/\(decide (f<u)=false->(decide (u<f)=true->K (.v (.one (.con .i64 1))) [])/\(decide (u<f)=false->(decide (g<v)=true->K (.v (.one (.con .i64 (-1:Int)))) [])/\(decide (g<v)=false->(decide (v<g)=true->K (.v (.one (.con .i64 1))) [])/\(decide (v<g)=false->(decide (h<w)=true->K (.v (.one (.con .i64 (-1:Int)))) [])/\(decide (h<w)=false->(decide (w<h)=true->K (.v (.one (.con .i64 1))) [])/\(decide (w<h)=false->(decide (i<k)=true->K (.v (.one (.con .i64 (-1:Int)))) [])/\(decide (i<k)=false->(decide (k<i)=true->K (.v (.one (.con .i64 1))) [])/\(decide (k<i)=false->K (.v (.one (.con .i64 0))) []))))))))))))))))))) := by kernel_rfl
theorem ohVcmpZ : Holds P Z0 47 qVcmp := by
  refine holds_ok (fn := Tryz.f47) (by kernel_rfl) (by kernel_rfl) fun args av hg => ?_
  unfold qVcmp at hg
  split at hg
  · rename_i a b c d e f g h i p q r s t u v w k
    rw [gives_ok hg]
    refine ⟨rfl, .int .i64 (cmp9 a b c d e f g h i p q r s t u v w k), rfl, ?_⟩
    rw [nfvcmpZ]
    clear hg
    repeat' (first | apply And.intro | intro _)
    all_goals first
      | rfl
      | refine leafCon ?_
    all_goals simp only [decide_eq_true_eq, decide_eq_false_iff_not] at *
    all_goals (unfold cmp9 thenC icmp; simp only [*, if_true, if_false]; try rfl)
  · exact (gives_fail hg).elim
def ZC1 : Sums := (Z0.add 65 qCmp).add 47 qVcmp
theorem nfocmpZ (a b c d e f g h i x y z p q r s t u v w k l m n : Int) (K : KV) : call P ZC1 noAnn 100000 Tryz.f41 [.v (.agg [.sym .i64 a, .sym .i64 b, .sym .i64 c, .sym .i64 d, .sym .i64 e, .sym .i64 f, .sym .i64 g, .sym .i64 h, .sym .i64 i, .sym .i64 x, .sym .i64 y, .sym .i64 z]), .v (.agg [.sym .i64 p, .sym .i64 q, .sym .i64 r, .sym .i64 s, .sym .i64 t, .sym .i64 u, .sym .i64 v, .sym .i64 w, .sym .i64 k, .sym .i64 l, .sym .i64 m, .sym .i64 n])] [] K = (((!decide (cmp9 a b c d e f g h i p q r s t u v w k=0))=true->K (.v (.one (.sym .i64 (cmp9 a b c d e f g h i p q r s t u v w k)))) [])/\((!decide (cmp9 a b c d e f g h i p q r s t u v w k=0))=false->((!decide (icmp x l=0))=true->K (.v (.one (.sym .i64 (icmp x l)))) [])/\((!decide (icmp x l=0))=false->((!decide (icmp y m=0))=true->K (.v (.one (.sym .i64 (icmp y m)))) [])/\((!decide (icmp y m=0))=false->((!decide (icmp z n=0))=true->K (.v (.one (.sym .i64 (icmp z n)))) [])/\((!decide (icmp z n=0))=false->K (.v (.one (.con .i64 0))) []))))) := by kernel_rfl
theorem ohOcmpZ : Holds P ZC1 41 qOcmp := by
  refine holds_ok (fn := Tryz.f41) (by kernel_rfl) (by kernel_rfl) fun args av hg => ?_
  unfold qOcmp at hg
  split at hg
  · rename_i a b c d e f g h i x y z p q r s t u v w k l m n
    rw [gives_ok hg]
    refine ⟨rfl, .int .i64 (cmp12 a b c d e f g h i x y z p q r s t u v w k l m n), rfl, ?_⟩
    rw [nfocmpZ]
    clear hg
    unfold cmp12
    generalize cmp9 a b c d e f g h i p q r s t u v w k = c0
    generalize icmp x l = c1
    generalize icmp y m = c2
    generalize icmp z n = c3
    repeat' (first | apply And.intro | intro _)
    all_goals first
      | rfl
      | refine leafCon ?_
      | refine leafSym ?_
    all_goals simp only [decide_eq_true_eq, decide_eq_false_iff_not, Bool.not_eq_true', Bool.not_eq_false', Bool.not_eq_true, Bool.not_eq_false] at *
    all_goals (unfold thenC; simp only [*, if_true, if_false])
  · exact (gives_fail hg).elim
def ZC2 : Sums := ZC1.add 41 qOcmp
theorem pZC1 : @OkS globD P ZC1 := @OkS.add1 P globD fine _ _ (@OkS.add1 P globD fine _ _ pZ0 pZ0 _ _ ohCmpZ _) pZ0 _ _ ohVcmpZ _
theorem pZC2 : @OkS globD P ZC2 := @OkS.add1 P globD fine _ _ pZC1 pZC1 _ _ ohOcmpZ _
end Go.AM
open Go Go.AM Go.Proofs
namespace Go.AM
def keepS (keep : List Nat) : Nat → Env → Env
  | _, [] => []
  | i, a :: l => (if keep.contains i then a else AV.any) :: keepS keep (i + 1) l
def headH (n : Nat) (h : Heap) : Heap := takeN n h
def I' (n : Int) : AV := .v (.one (.sym .i64 n))
def gt (xs : List OpI) (k : Nat) : OpI := xs.getD k zeroO
def mapsL : List OpI → Int → Int
  | [], w => w
  | o :: l, w => if oM oneO o = 3 then 3 else mapsL l (if oM oneO o = 4 then 4 else w)
def mapsE (l : List OpI) : Int := if 192 < (l.length : Int) then 2 else mapsL l 0
def annMaps (xs : List OpI) : Annos := ⟨1, fun id env h => if id = 5 then forceE (keepS [0, 3, 11, 12, 13] 0 env) fun env => some ⟨{ p : Nat × Int // p.1 ≤ xs.length ∧ mapsL xs 0 = mapsL (xs.drop p.1) p.2 }, fun p => (set (set env 13 (I' (p.1.1 : Int))) 3 (I' p.1.2), headH 1 h), fun p => xs.length - p.1.1⟩ else none, fun _ _ _ => []⟩
def R0 : Sums := (O11.add 39 qMulO).add 41 qCmpO
theorem pR0 : OkS P R0 := (pO11.add1 fine pO5 ohMulO).add1 fine pO7 ohCmpO
end Go.AM
