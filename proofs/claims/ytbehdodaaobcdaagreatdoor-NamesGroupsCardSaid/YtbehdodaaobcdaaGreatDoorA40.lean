import Derived.Test.YtbehdodaaobcdaaGreatDoorA17
import Derived.Test.YtbehdodaaobcdaaGreatDoorA39
import Derived.Test.YtbehdodaaobcdaaGreatDoorA22
import Derived.Shelf.Strings.Fields
import Derived.Test.YtbehdodaaobcdaaGreatDoorA36
import Derived.Test.YtbehdodaaobcdaaGreatDoorA33
import Derived.Test.YtbehdodaaobcdaaGreatDoorA19
import Derived.Lib.Join
set_option maxHeartbeats 4000000
namespace Go.AM
open Go
section
variable {P : Program}
def HoldsFc [Glob] (P : Program) (f : Nat) (q : FSpec) : Prop :=
  ∃ fn, P.funcs[f]? = some fn ∧ fn.body.isSome = true ∧ ∀ args p v hs, q args = some (p, v, hs) → p → noPtrs args = true ∧ noRo hs = true ∧ ∀ (w : World) (vals : List Value), Glob.tab w → ArgsR [] args vals → Calls P f vals.toArray w (fun e w' => ∃ u pl', e = .returned u ∧ v.R pl' u ∧ HRel w noMarks pl' hs w')
theorem OkS.addFc [Glob] {S : Sums} (h : OkS P S) {f : Nat} {q : FSpec} (hq : HoldsFc P f q) : OkS P (S.addF f q) := by
  refine ⟨h.pure, ⟨fun g sp hg => ?_, h.spec.2⟩, fun g sp hg => ?_⟩
  · by_cases e : g = f
    · subst e
      simp only [Sums.addF, if_true] at hg
      cases hg
      obtain ⟨fn, hf, hfb, hp⟩ := hq
      refine ⟨⟨fn, hf, hfb⟩, fun args hh K hsp w0 Sx pl w vals hR hargs => ?_⟩
      unfold freshSpec at hsp
      split at hsp
      · rename_i p v hs hqa
        obtain ⟨hp0, hK⟩ := hsp
        obtain ⟨hb0, hnr, hc⟩ := hp args p v hs hqa hp0
        refine (hc w vals hR.tabw (noPtrs_R hb0 hargs)).mono ?_
        rintro e w' ⟨v', pl', rfl, hv', hR'⟩
        obtain ⟨j1, j2, j3⟩ := hR.join hR' (fun _ h => h) (fun c q y hq hy => noRo_get hnr hy)
        rw [app_eq, len'_eq, ← hR.len] at hK
        exact ⟨v', _, _, _, rfl, AV.sh_R j3 hv', j2, j1, hK⟩
      · exact hsp.elim
    · simp only [Sums.addF, if_neg e] at hg
      exact h.spec.1 g sp hg
  · by_cases e : g = f
    · subst e
      simp only [Sums.addF, if_true] at hg
      cases hg
      intro args hh K K' hK hx
      unfold freshSpec at hx ⊢
      split at hx
      · exact ⟨hx.1, hK _ _ hx.2⟩
      · exact hx.elim
    · simp only [Sums.addF, if_neg e] at hg
      exact h.mono g sp hg
def strsC : List (List UInt8) → List SV
  | [] => []
  | s :: l => .cstr s :: strsC l
theorem strsC_R (pl : List Pl) : ∀ l : List (List UInt8), RL pl (strsC l) (l.map fun s => Value.string ⟨s.toArray⟩)
  | [] => trivial
  | s :: l => ⟨.inr rfl, strsC_R pl l⟩
theorem strs_new [Glob] {w : World} (ht : Glob.tab w) {T : Nat} {l : List (List UInt8)} (hl : l.length ≤ 1000) :
    HRel w noMarks [⟨w.heap.size, false, l.length⟩] [.ownL T 1 l.length (strsC l)] (w.alloc (.cells (l.map fun s => Value.string ⟨s.toArray⟩).toArray T)) ∧
      (AV.v (.one (.ow 0 1 0 l.length true))).R [⟨w.heap.size, false, l.length⟩] (.slice (some ⟨w.heap.size, 0, none⟩) l.length l.length) := by
  have hg := World.grownBy_alloc w (.cells (l.map fun s => Value.string ⟨s.toArray⟩).toArray T) none
  refine ⟨((empty_R w ht).fresh (x' := .ownL T 1 l.length (strsC l)) (p' := ⟨w.heap.size, false, l.length⟩) ((empty_R w ht).fr.grown hg (by simp)) hg.size (fun b p x hp => by simp at hp) ⟨_, strsC_R _ l, ?_, .inr ⟨w.heap.size, l.length, _, rfl, Nat.zero_le _, ⟨(0, 0), heap_alloc_new w _, offEnd0 _⟩, Nat.le_refl _, by simp only [maxLen]; omega, by simp, by simp only [Nat.mul_one]; exact List.take_of_length_le (by simp)⟩⟩ (fun _ => ⟨?_, .inl (Nat.le_refl _), fun b p x hp => by simp at hp⟩)).1, .inr ?_⟩
  · simp
  · show w.heap.size < (w.heap.push _).size
    simp
  · simp [SV.val, owVal]
def forceBB {β : Type _} : List (List UInt8) → (List (List UInt8) → β) → β
  | [], K => K []
  | s :: l, K => forceB s (fun s => forceBB l (fun r => K (s :: r)))
theorem forceBB_eq {β : Type _} : ∀ (l : List (List UInt8)) (K : List (List UInt8) → β), forceBB l K = K l
  | [], _ => rfl
  | s :: l, K => by simp only [forceBB, forceB_eq]; rw [forceBB_eq l]
end
end Go.AM
open Go Go.AM Go.Proofs
namespace Go.AM
open Dist
def asciiB : List UInt8 → Bool
  | [] => true
  | b :: l => decide (b.toNat < 128) && asciiB l
theorem asciiB_at : ∀ {s : List UInt8}, asciiB s = true → ∀ (j : Nat) b, s[j]? = some b → b.toNat < 128
  | [], _, _, _, h => by simp at h
  | b :: l, hs, 0, c, h => by
    simp only [asciiB, Bool.and_eq_true, decide_eq_true_eq] at hs
    simp at h
    subst h
    exact hs.1
  | b :: l, hs, j + 1, c, h => by
    simp only [asciiB, Bool.and_eq_true] at hs
    exact asciiB_at hs.2 j c (by simpa using h)
def qFields : FSpec := fun args => match args with
  | [.v (.one (.cstr s))] => if decide (len' s ≤ 1000) && asciiB s then forceBB (Lib.fields s) (fun l => forceN (len' l) (fun n => if decide (n ≤ 1000) then some (True, .v (.one (.ow 0 1 0 n true)), [.ownL 9 1 n (strsC l)]) else none)) else none
  | _ => none
theorem hFields : HoldsFc P 28 qFields := by
  refine ⟨_, Tryz.func28, by kernel_rfl, fun args p v hs hq hp => ?_⟩
  unfold qFields at hq
  split at hq
  · rename_i s
    simp only [forceBB_eq, forceN_eq, len'_eq] at hq
    split at hq
    · rename_i hc
      simp only [Bool.and_eq_true, decide_eq_true_eq] at hc
      split at hq
      · rename_i hn
        have hn : (Lib.fields s).length ≤ 1000 := of_decide_eq_true hn
        cases hq
        refine ⟨rfl, rfl, fun w vals ht hA => ?_⟩
        obtain ⟨v1, rfl⟩ : ∃ v1, vals = [v1] := by
          match vals, hA.length with
          | [a], _ => exact ⟨a, rfl⟩
        have e1 := cstr_R hA.1
        rw [e1]
        refine (Any.strings_Fields Tryz.lays157 (by kernel_rfl) (by kernel_rfl) ⟨s.toArray⟩ w (by simp [ByteArray.size]; omega) (fun j b hj => asciiB_at hc.2 j b hj) (tabAt_is ht (g := 0) (by kernel_rfl))).mono ?_
        rintro e w' ⟨rfl, rfl⟩
        obtain ⟨h1, h2⟩ := strs_new (w := w) ht (T := 9) hn
        exact ⟨_, _, rfl, h2, h1⟩
      · cases hq
    · cases hq
  · cases hq
def p41L : List OpI := [⟨-1, 0, 0, 0, -1, 0, 0, 0, 1, 0, 0, 12⟩, ⟨0, -1, 0, 1, 0, 0, 0, 0, 1, 0, 0, 6⟩, ⟨0, 1, 0, -1, 0, 0, 0, 0, 1, 0, 0, 18⟩, ⟨1, 0, 0, 0, 1, 0, 0, 0, 1, 0, 0, 0⟩]
instance : DecidableRel leO := fun x y => inferInstanceAs (Decidable (¬ oC y x < 0))
theorem p41_sorted : p41L.Pairwise leO := of_decide_eq_true (by kernel_rfl)
theorem p41_perm : p41L.isPerm cl19 = true := by kernel_rfl
theorem p41_R : grpR [80, 52, 49] = p41L := by
  have h : lookK [80, 52, 49] knownL = some km19 := by kernel_rfl
  unfold grpR
  rw [h]
  show closeR km19 = _
  rw [closeR_of cl19_eq km19_ok]
  exact (sorted_one p41_sorted (sortO_ok cl19).1 ((List.isPerm_iff.1 p41_perm).trans (sortO_ok cl19).2.symm)).symm
def conL : List OpI → List SV
  | [] => []
  | o :: l => .con .i64 o.a :: .con .i64 o.b :: .con .i64 o.c :: .con .i64 o.d :: .con .i64 o.e :: .con .i64 o.f :: .con .i64 o.g :: .con .i64 o.h :: .con .i64 o.i :: .con .i64 o.x :: .con .i64 o.y :: .con .i64 o.z :: conL l
theorem conL_R {pl : List Pl} : ∀ {l : List OpI} {vs : List Value}, RL pl (flatC cOp l) vs → RL pl (conL l) vs
  | [], vs, h => h
  | o :: l, vs, h => by
    have e : flatC cOp (o :: l) = opS o ++ flatC cOp l := rfl
    rw [e] at h
    match vs, h with
    | _ :: _ :: _ :: _ :: _ :: _ :: _ :: _ :: _ :: _ :: _ :: _ :: vs, ⟨h1, h2, h3, h4, h5, hx6, h7, h8, h9, hx10, h11, h12, h⟩ => 
      have c : ∀ {n : Int} {v : Value}, (SV.sym .i64 n).R pl v → (SV.con .i64 n).R pl v := fun hv => hv.imp (fun h => by cases h) (fun h => h)
      exact ⟨c h1, c h2, c h3, c h4, c h5, c hx6, c h7, c h8, c h9, c hx10, c h11, c h12, conL_R h⟩
def qGroupP : FSpec := fun args => match args with
  | [.v (.one (.cstr s))] => if decide (s = [80, 52, 49]) then some (True, .tup [.one (.ow 0 12 0 4 true), .one (.con .i64 0)], [.ownL 45 12 4 (conL p41L)]) else qGroupL args
  | _ => qGroupL args
theorem OkS.addP {S : Sums} (h0 : OkS P S) (h : OkS P (S.addF 11 qGroupL)) : OkS P (S.addF 11 qGroupP) := by
  refine ⟨h.pure, ⟨fun g sp hg => ?_, h.spec.2⟩, fun g sp hg => ?_⟩
  · by_cases e : g = 11
    · subst e
      simp only [Sums.addF, if_true] at hg
      cases hg
      obtain ⟨hfn, hh⟩ := h.spec.1 11 (freshSpec qGroupL) (by simp [Sums.addF])
      refine ⟨hfn, fun args hh' K hsp w0 Sx pl w vals hR hargs => ?_⟩
      by_cases hP : args = [.v (.one (.cstr [80, 52, 49]))]
      · subst hP
        have hsp : True ∧ K ((AV.tup [.one (.ow 0 12 0 4 true), .one (.con .i64 0)]).sh (len' hh')) (app hh' (shH (len' hh') [.ownL 45 12 4 (conL p41L)])) := hsp
        refine (hh [.v (.one (.cstr [80, 52, 49]))] hh' (fun a k => a = (AV.tup [.one (.ow 0 12 0 (grpR [80, 52, 49]).length false), .one (.con .i64 (grpT [80, 52, 49]))]).sh (len' hh') ∧ k = app hh' (shH (len' hh') [.own 45 cOp (grpR [80, 52, 49])])) ⟨trivial, rfl, rfl⟩ w0 Sx pl w vals hR hargs).mono ?_
        rintro e w' ⟨u, av, h', pl', he, hav, hpx, hR', rfl, rfl⟩
        rw [p41_R] at hav hR'
        have e4 : p41L.length = 4 := rfl
        have eT : grpT [80, 52, 49] = 0 := by kernel_rfl
        rw [e4, eT] at hav
        refine ⟨u, _, _, pl', he, ?_, hpx, ?_, hsp.2⟩
        · obtain ⟨us, rfl, hu⟩ := hav
          match us, hu with
          | [a, b], ⟨k1, k2, _⟩ => exact ⟨[a, b], rfl, k1.imp (fun h => by cases h) (fun h => h), k2, trivial⟩
        · have eb : AM.set (app hh' (shH (len' hh') [.own 45 cOp p41L])) hh'.length (.ownL 45 12 4 (conL p41L)) = app hh' (shH (len' hh') [.ownL 45 12 4 (conL p41L)]) := by
            rw [app_eq, app_eq, set_eq]
            simp [shH, Blk.sh]
            rfl
          rw [← eb]
          refine hR'.recode (x := .own 45 cOp p41L) ?_ (fun p _ hb => ?_) (fun p h => h) (fun p => rfl)
          · rw [app_eq]
            simp [shH, Blk.sh]
          · obtain ⟨vs, k1, k2⟩ := hb
            exact ⟨vs, conL_R k1, k2⟩
      · have e2 : qGroupP args = qGroupL args := by
          unfold qGroupP
          split
          · rename_i s
            split
            · rename_i hs
              exact absurd (by rw [of_decide_eq_true hs]) hP
            · rfl
          · rfl
        refine hh args hh' K ?_ w0 Sx pl w vals hR hargs
        unfold freshSpec at hsp ⊢
        rw [e2] at hsp
        exact hsp
    · simp only [Sums.addF, if_neg e] at hg
      exact h0.spec.1 g sp hg
  · by_cases e : g = 11
    · subst e
      simp only [Sums.addF, if_true] at hg
      cases hg
      intro args hh K K' hK hx
      unfold freshSpec at hx ⊢
      split at hx
      · exact ⟨hx.1, hK _ _ hx.2⟩
      · exact hx.elim
    · simp only [Sums.addF, if_neg e] at hg
      exact h0.mono g sp hg
end Go.AM
open Go Go.AM Go.Proofs
namespace Go.AM
open Dist
theorem OkS.grpL {S : Sums} (h : OkS P S) : OkS P (S.addF 11 qGroupL) := by
  refine h.addFq (h.addFm fine hGroup) fun args p v hs hq => ?_
  unfold qGroupL at hq
  split at hq
  · rename_i s
    cases hq
    refine ⟨_, rfl, fun n pl u hu => ?_⟩
    rw [← grpE_T]
    obtain ⟨us, rfl, hu⟩ := hu
    match us, hu with
    | [a, b], ⟨k1, k2, _⟩ => exact ⟨[a, b], rfl, k1, k2.imp (fun h => by cases h) (fun h => h), trivial⟩
  · rename_i s
    cases hq
    refine ⟨_, rfl, fun n pl u hu => ?_⟩
    rw [← grpE_T]
    exact hu
  · cases hq
def NS0 : Sums := RK.addF 11 qGroupP
theorem pNS0 : OkS P NS0 := pRK.addP pRK.grpL
def NS : Sums := NS0.addF 28 qFields
theorem pNS : OkS P NS := pNS0.addFc hFields
end Go.AM
open Go Go.AM Go.Proofs
namespace Go.AM
end Go.AM
open Go Go.AM Go.Proofs
namespace Go.AM
set_option maxRecDepth 100000
end Go.AM
open Go Go.AM Go.Proofs
namespace Go.AM
open Dist
set_option maxRecDepth 100000
end Go.AM
open Go Go.AM Go.Proofs
namespace Go.AM
open Dist
set_option maxRecDepth 100000
inductive Sg
  | no
  | plus
  | minus
def Sg.w : Sg → List (List UInt8)
  | .no => []
  | .plus => [[43]]
  | .minus => [[45]]
def Sg.v : Sg → Int
  | .minus => -1
  | _ => 1
inductive Trm
  | lt (s : Sg) (k : Option Int) (l : UInt8)
  | fr (s : Sg) (n : Int) (d : Option Int)
def numW : Option Int → List (List UInt8)
  | none => []
  | some n => [Lib.itoa n]
def denW : Option Int → List (List UInt8)
  | none => []
  | some n => [[47], Lib.itoa n]
def Trm.sg : Trm → Sg
  | .lt s _ _ => s
  | .fr s _ _ => s
def Trm.w : Trm → List (List UInt8)
  | .lt s k l => s.w ++ (numW k ++ [[l]])
  | .fr s n d => s.w ++ (Lib.itoa n :: denW d)
def Trm.ok (x : RS) : Trm → Prop
  | .lt s k l => (x.first = true ∨ s ≠ .no) ∧ (∀ n, k = some n → 1 ≤ n ∧ n ≤ 1000) ∧ ((l = 120 ∧ x.s0 = false) ∨ (l = 121 ∧ x.s1 = false) ∨ (l = 122 ∧ x.s2 = false))
  | .fr s n d => (x.first = true ∨ s ≠ .no) ∧ 0 ≤ n ∧ n ≤ 999 ∧ x.again = false ∧ (∀ m, d = some m → 1 ≤ m ∧ m ≤ 999 ∧ (24 * n).tmod m = 0)
def RS.app (x : RS) : Trm → RS
  | .lt s k l => if l = 120 then ⟨x.st + (Trm.lt s k l).w.length, s.v * k.getD 1, x.e1, x.e2, x.parts, true, x.s1, x.s2, x.again, false⟩
    else if l = 121 then ⟨x.st + (Trm.lt s k l).w.length, x.e0, s.v * k.getD 1, x.e2, x.parts, x.s0, true, x.s2, x.again, false⟩
    else ⟨x.st + (Trm.lt s k l).w.length, x.e0, x.e1, s.v * k.getD 1, x.parts, x.s0, x.s1, true, x.again, false⟩
  | .fr s n d => ⟨x.st + (Trm.fr s n d).w.length, x.e0, x.e1, x.e2, s.v * (24 * n).tdiv (d.getD 1), x.s0, x.s1, x.s2, true, false⟩
end Go.AM
open Go Go.AM Go.Proofs
namespace Go.AM
open Dist
set_option maxRecDepth 100000
end Go.AM
open Go Go.AM Go.Proofs
namespace Go.AM
open Dist
set_option maxRecDepth 100000
end Go.AM
open Go Go.AM Go.Proofs
namespace Go.AM
open Dist
set_option maxRecDepth 100000
end Go.AM
namespace Go.AM
set_option maxRecDepth 100000
structure M9 where
  a : Int
  b : Int
  c : Int
  d : Int
  e : Int
  f : Int
  g : Int
  h : Int
  i : Int
def m1 : M9 := ⟨1, 0, 0, 0, 1, 0, 0, 0, 1⟩
def mZ (m n : M9) : M9 := ⟨m.a * n.a + m.b * n.d + m.c * n.g, m.a * n.b + m.b * n.e + m.c * n.h, m.a * n.c + m.b * n.f + m.c * n.i, m.d * n.a + m.e * n.d + m.f * n.g, m.d * n.b + m.e * n.e + m.f * n.h, m.d * n.c + m.e * n.f + m.f * n.i, m.g * n.a + m.h * n.d + m.i * n.g, m.g * n.b + m.h * n.e + m.i * n.h, m.g * n.c + m.h * n.f + m.i * n.i⟩
def eqM (m n : M9) : Bool := decide (m.a = n.a) && (decide (m.b = n.b) && (decide (m.c = n.c) && (decide (m.d = n.d) && (decide (m.e = n.e) && (decide (m.f = n.f) && (decide (m.g = n.g) && (decide (m.h = n.h) && decide (m.i = n.i))))))))
theorem eqM_iff {m n : M9} : eqM m n = true ↔ m = n := by
  unfold eqM
  simp only [Bool.and_eq_true, decide_eq_true_eq]
  constructor
  · rintro ⟨h1, h2, h3, h4, h5, h6', h7, h8, h9⟩
    cases m; cases n
    simp only at h1 h2 h3 h4 h5 h6' h7 h8 h9
    subst h1 h2 h3 h4 h5 h6' h7 h8 h9
    rfl
  · rintro rfl
    exact ⟨rfl, rfl, rfl, rfl, rfl, rfl, rfl, rfl, rfl⟩
def memM (l : List M9) (m : M9) : Bool := l.any (eqM m)
theorem memM_iff {l : List M9} {m : M9} : memM l m = true ↔ m ∈ l := by
  unfold memM
  rw [List.any_eq_true]
  constructor
  · rintro ⟨x, hx, he⟩
    rw [eqM_iff.1 he]
    exact hx
  · exact fun h => ⟨m, h, eqM_iff.2 rfl⟩
def G48 : List M9 := [
  ⟨1, 0, 0, 0, 1, 0, 0, 0, 1⟩,
  ⟨-1, 0, 0, 0, 1, 0, 0, 0, 1⟩,
  ⟨1, 0, 0, 0, -1, 0, 0, 0, 1⟩,
  ⟨-1, 0, 0, 0, -1, 0, 0, 0, 1⟩,
  ⟨1, 0, 0, 0, 1, 0, 0, 0, -1⟩,
  ⟨-1, 0, 0, 0, 1, 0, 0, 0, -1⟩,
  ⟨1, 0, 0, 0, -1, 0, 0, 0, -1⟩,
  ⟨-1, 0, 0, 0, -1, 0, 0, 0, -1⟩,
  ⟨1, 0, 0, 0, 0, 1, 0, 1, 0⟩,
  ⟨-1, 0, 0, 0, 0, 1, 0, 1, 0⟩,
  ⟨1, 0, 0, 0, 0, -1, 0, 1, 0⟩,
  ⟨-1, 0, 0, 0, 0, -1, 0, 1, 0⟩,
  ⟨1, 0, 0, 0, 0, 1, 0, -1, 0⟩,
  ⟨-1, 0, 0, 0, 0, 1, 0, -1, 0⟩,
  ⟨1, 0, 0, 0, 0, -1, 0, -1, 0⟩,
  ⟨-1, 0, 0, 0, 0, -1, 0, -1, 0⟩,
  ⟨0, 1, 0, 1, 0, 0, 0, 0, 1⟩,
  ⟨0, -1, 0, 1, 0, 0, 0, 0, 1⟩,
  ⟨0, 1, 0, -1, 0, 0, 0, 0, 1⟩,
  ⟨0, -1, 0, -1, 0, 0, 0, 0, 1⟩,
  ⟨0, 1, 0, 1, 0, 0, 0, 0, -1⟩,
  ⟨0, -1, 0, 1, 0, 0, 0, 0, -1⟩,
  ⟨0, 1, 0, -1, 0, 0, 0, 0, -1⟩,
  ⟨0, -1, 0, -1, 0, 0, 0, 0, -1⟩,
  ⟨0, 1, 0, 0, 0, 1, 1, 0, 0⟩,
  ⟨0, -1, 0, 0, 0, 1, 1, 0, 0⟩,
  ⟨0, 1, 0, 0, 0, -1, 1, 0, 0⟩,
  ⟨0, -1, 0, 0, 0, -1, 1, 0, 0⟩,
  ⟨0, 1, 0, 0, 0, 1, -1, 0, 0⟩,
  ⟨0, -1, 0, 0, 0, 1, -1, 0, 0⟩,
  ⟨0, 1, 0, 0, 0, -1, -1, 0, 0⟩,
  ⟨0, -1, 0, 0, 0, -1, -1, 0, 0⟩,
  ⟨0, 0, 1, 1, 0, 0, 0, 1, 0⟩,
  ⟨0, 0, -1, 1, 0, 0, 0, 1, 0⟩,
  ⟨0, 0, 1, -1, 0, 0, 0, 1, 0⟩,
  ⟨0, 0, -1, -1, 0, 0, 0, 1, 0⟩,
  ⟨0, 0, 1, 1, 0, 0, 0, -1, 0⟩,
  ⟨0, 0, -1, 1, 0, 0, 0, -1, 0⟩,
  ⟨0, 0, 1, -1, 0, 0, 0, -1, 0⟩,
  ⟨0, 0, -1, -1, 0, 0, 0, -1, 0⟩,
  ⟨0, 0, 1, 0, 1, 0, 1, 0, 0⟩,
  ⟨0, 0, -1, 0, 1, 0, 1, 0, 0⟩,
  ⟨0, 0, 1, 0, -1, 0, 1, 0, 0⟩,
  ⟨0, 0, -1, 0, -1, 0, 1, 0, 0⟩,
  ⟨0, 0, 1, 0, 1, 0, -1, 0, 0⟩,
  ⟨0, 0, -1, 0, 1, 0, -1, 0, 0⟩,
  ⟨0, 0, 1, 0, -1, 0, -1, 0, 0⟩,
  ⟨0, 0, -1, 0, -1, 0, -1, 0, 0⟩]
def G24 : List M9 := [
  ⟨1, 0, 0, 0, 1, 0, 0, 0, 1⟩,
  ⟨1, -1, 0, 1, 0, 0, 0, 0, 1⟩,
  ⟨0, -1, 0, 1, -1, 0, 0, 0, 1⟩,
  ⟨-1, 0, 0, 0, -1, 0, 0, 0, 1⟩,
  ⟨-1, 1, 0, -1, 0, 0, 0, 0, 1⟩,
  ⟨0, 1, 0, -1, 1, 0, 0, 0, 1⟩,
  ⟨0, 1, 0, 1, 0, 0, 0, 0, -1⟩,
  ⟨-1, 1, 0, 0, 1, 0, 0, 0, -1⟩,
  ⟨-1, 0, 0, -1, 1, 0, 0, 0, -1⟩,
  ⟨0, -1, 0, -1, 0, 0, 0, 0, -1⟩,
  ⟨1, -1, 0, 0, -1, 0, 0, 0, -1⟩,
  ⟨1, 0, 0, 1, -1, 0, 0, 0, -1⟩,
  ⟨-1, 0, 0, 0, -1, 0, 0, 0, -1⟩,
  ⟨-1, 1, 0, -1, 0, 0, 0, 0, -1⟩,
  ⟨0, 1, 0, -1, 1, 0, 0, 0, -1⟩,
  ⟨1, 0, 0, 0, 1, 0, 0, 0, -1⟩,
  ⟨1, -1, 0, 1, 0, 0, 0, 0, -1⟩,
  ⟨0, -1, 0, 1, -1, 0, 0, 0, -1⟩,
  ⟨0, -1, 0, -1, 0, 0, 0, 0, 1⟩,
  ⟨1, -1, 0, 0, -1, 0, 0, 0, 1⟩,
  ⟨1, 0, 0, 1, -1, 0, 0, 0, 1⟩,
  ⟨0, 1, 0, 1, 0, 0, 0, 0, 1⟩,
  ⟨-1, 1, 0, 0, 1, 0, 0, 0, 1⟩,
  ⟨-1, 0, 0, -1, 1, 0, 0, 0, 1⟩]
def powM (m : M9) : Nat → M9
  | 0 => m1
  | n + 1 => mZ (powM m n) m
def ordM (m : M9) : Nat := if eqM (powM m 1) m1 then 1 else if eqM (powM m 2) m1 then 2 else if eqM (powM m 3) m1 then 3 else if eqM (powM m 4) m1 then 4 else 6
end Go.AM
open Go Go.AM Go.Proofs
namespace Go.AM
open Dist
set_option maxRecDepth 100000
def rowS (m : M9) : List SV := [.sym .i64 m.a, .sym .i64 m.b, .sym .i64 m.c, .sym .i64 m.d, .sym .i64 m.e, .sym .i64 m.f, .sym .i64 m.g, .sym .i64 m.h, .sym .i64 m.i]
def setRow (h : Heap) (b : Nat) (cs : List SV) : Heap := match get? h b with
  | some (.row T _) => set h b (.row T cs)
  | _ => h
def pM (x p : Int) : Int := (IntKind.i64.wrap (x.tmod p + p)).tmod p
def pS (s c x p : Int) : Int := (IntKind.i64.wrap (s + IntKind.i64.wrap (c * pM x p))).tmod p
def p3 (c1 c2 c3 x1 x2 x3 p : Int) : Int := pS (pS (pS 0 c1 x1 p) c2 x2 p) c3 x3 p
def mP (p : Int) (c m : M9) : M9 := ⟨p3 c.a c.b c.c m.a m.d m.g p, p3 c.a c.b c.c m.b m.e m.h p, p3 c.a c.b c.c m.c m.f m.i p, p3 c.d c.e c.f m.a m.d m.g p, p3 c.d c.e c.f m.b m.e m.h p, p3 c.d c.e c.f m.c m.f m.i p, p3 c.g c.h c.i m.a m.d m.g p, p3 c.g c.h c.i m.b m.e m.h p, p3 c.g c.h c.i m.c m.f m.i p⟩
def pwP (p : Int) (m : M9) : Nat → M9
  | 0 => m1
  | n + 1 => mP p (pwP p m n) m
def annPw (m : M9) : Annos := ⟨0, fun id env h => if id = 6 then (match getD env 6 AV.any, getD env 20 AV.any, getD env 7 AV.any with
  | .v (.one (.con _ p)), .v (.one (.sym _ n)), .v (.one (.ptr b7 0)) => forceH (keepBs (app (blkOf (getD env 2 AV.any)) (app (blkOf (getD env 13 AV.any)) [b7])) 0 h) fun h => forceE (keepT [1, 2, 6, 7, 13, 14, 15, 20] 0 env) fun env => some ⟨{ j : Nat // (j : Int) ≤ n }, fun x => (set env 21 (.v (.one (.sym .i64 x.1))), setRow h b7 (rowS (pwP p m x.1))), fun x => n.toNat - x.1⟩
  | _, _, _ => none) else none, fun _ _ _ => []⟩
end Go.AM
open Go Go.AM Go.Proofs
namespace Go.AM
open Dist
set_option maxRecDepth 100000
end Go.AM
