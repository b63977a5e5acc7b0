import Derived.Test.YtppbbabmlammpaaDoorPG1
import Derived.Test.YtppbbabmlammpaaDoorPI2
set_option linter.unusedVariables false
set_option linter.unusedSimpArgs false
open Go Go.AM Go.Proofs
namespace Go.AM
open Dist
structure DR where
  i : Int
  p : Int
  e0 : Int
  e1 : Int
  e2 : Int
  part : Int
  s0 : Bool
  s1 : Bool
  s2 : Bool
  s3 : Bool
def DR.err (x : DR) (j p : Int) : DR := ⟨j, p, x.e0, x.e1, x.e2, x.part, x.s0, x.s1, x.s2, x.s3⟩
def dLetP (ys : List DTok) (x : DR) (sk j : Int) : DR :=
  if (dk ys j).kind = 120 then (if x.s0 = true then x.err j (dk ys j).pos else ⟨dSkip ys j, -1, sk, x.e1, x.e2, x.part, true, x.s1, x.s2, x.s3⟩)
  else if (dk ys j).kind = 121 then (if x.s1 = true then x.err j (dk ys j).pos else ⟨dSkip ys j, -1, x.e0, sk, x.e2, x.part, x.s0, true, x.s2, x.s3⟩)
  else if (dk ys j).kind = 122 then (if x.s2 = true then x.err j (dk ys j).pos else ⟨dSkip ys j, -1, x.e0, x.e1, sk, x.part, x.s0, x.s1, true, x.s3⟩)
  else x.err j (dk ys j).pos
def isLet (k : Int) : Prop := k = 120 ∨ k = 121 ∨ k = 122
instance (k : Int) : Decidable (isLet k) := inferInstanceAs (Decidable (k = 120 ∨ k = 121 ∨ k = 122))
def dTerm (s : List UInt8) (ys : List DTok) (x : DR) (sg i : Int) : DR :=
  if (dk ys i).kind = 48 then
    (if isLet (dk ys (dSkip ys i)).kind then
      (if dNum s (dk ys i).pos (dk ys i).next 4 < 1 ∨ 1000 < dNum s (dk ys i).pos (dk ys i).next 4 then x.err (dSkip ys i) (dk ys i).pos
      else dLetP ys x (sg * dNum s (dk ys i).pos (dk ys i).next 4) (dSkip ys i))
    else ⟨(dFr s ys (dSkip ys i) (dk ys i).pos (dk ys i).next x.s3).2.1, (dFr s ys (dSkip ys i) (dk ys i).pos (dk ys i).next x.s3).2.2, x.e0, x.e1, x.e2, sg * (dFr s ys (dSkip ys i) (dk ys i).pos (dk ys i).next x.s3).1, x.s0, x.s1, x.s2, true⟩)
  else dLetP ys x sg i
def dStep (s : List UInt8) (ys : List DTok) (x : DR) : DR := dTerm s ys x (dSv ys x.i) (dSi ys x.i)
def dGo (ys : List DTok) (x : DR) : Prop := x.p < 0 ∧ ((dk ys x.i).kind = 43 ∨ (dk ys x.i).kind = 45)
instance (ys : List DTok) (x : DR) : Decidable (dGo ys x) := inferInstanceAs (Decidable (_ ∧ _))
def dRowR (s : List UInt8) (ys : List DTok) : Nat → DR → DR
  | 0, x => x
  | n + 1, x => if dGo ys x then dRowR s ys n (dStep s ys x) else x
def dr0 (i : Int) : DR := ⟨i, -1, 0, 0, 0, 0, false, false, false, false⟩
def dRowF (s : List UInt8) (ys : List DTok) (i : Int) : DR := dRowR s ys (@List.length DTok ys + 1) (dStep s ys (dr0 i))
end Go.AM
open Go Go.AM Go.Proofs
namespace Go.AM
open Dist
end Go.AM
open Go Go.AM Go.Proofs
namespace Go.AM
open Dist
set_option maxRecDepth 100000
end Go.AM
open Go Go.AM Go.Proofs
namespace Go.AM
open Dist
set_option maxRecDepth 100000
theorem HRel.reread [Glob] {w0 : World} {Sx : Marks} {pl : List Pl} {h : Heap} {w : World} (hR : HRel w0 Sx pl h w) {b T : Nat} {cs cs' : List SV} (hg : h[b]? = some (.row T cs)) (hc : ∀ vs, RL pl cs vs → RL pl cs' vs) : HRel w0 Sx pl (AM.set h b (.row T cs')) w := by
  have hset : ∀ (c : Nat) x, (AM.set h b (.row T cs'))[c]? = some x → (c = b ∧ x = .row T cs') ∨ (c ≠ b ∧ h[c]? = some x) := fun c x hx => by
    by_cases e : b = c
    · subst e
      rw [get_set_same hg] at hx
      exact .inl ⟨rfl, (Option.some.inj hx).symm⟩
    · rw [get_set_other e] at hx
      exact .inr ⟨fun h => e h.symm, hx⟩
  have old : ∀ (c : Nat) x, (AM.set h b (.row T cs'))[c]? = some x → ∃ y, h[c]? = some y ∧ (∀ p, x.alive p = y.alive p) ∧ ∀ p, x.rd p = y.rd p := fun c x hx => by
    rcases hset c x hx with ⟨rfl, rfl⟩ | ⟨_, hx⟩
    · exact ⟨_, hg, fun _ => rfl, fun _ => rfl⟩
    · exact ⟨x, hx, fun _ => rfl, fun _ => rfl⟩
  refine ⟨by rw [set_eq, List.length_set]; exact hR.len, hR.fr, ?_, ?_, ?_, ?_, ?_, hR.rok⟩
  · intro c x q hx hq
    rcases hset c x hx with ⟨rfl, rfl⟩ | ⟨_, hx⟩
    · obtain ⟨vs, h1, h2⟩ := hR.hb c _ q hg hq
      exact ⟨vs, hc vs h1, h2⟩
    · exact hR.hb c x q hx hq
  · intro c q x hq hx ha
    obtain ⟨y, h1, h2, _⟩ := old c x hx
    exact hR.lt c q y hq h1 (by rw [← h2]; exact ha)
  · intro c q x hq hx ha
    obtain ⟨y, h1, h2, _⟩ := old c x hx
    exact hR.own c q y hq h1 (by rw [← h2]; exact ha)
  · intro c d q r x y hq hr hx hy ha hb
    obtain ⟨x', h1, h2, _⟩ := old c x hx
    obtain ⟨y', h3, h4, _⟩ := old d y hy
    exact hR.inj c d q r x' y' hq hr h1 h3 (by rw [← h2]; exact ha) (by rw [← h4]; exact hb)
  · intro c q x hq hx hd
    obtain ⟨y, h1, _, h2⟩ := old c x hx
    exact hR.ro c q y hq h1 (by rw [← h2]; exact hd)
def splitSpec (sp : ASpec) : ASpec := fun args h K => match args with
  | .v (.one (.ptr rb 0)) :: _ => sp args h (fun v h' => match get? h' rb with
    | some (.row T [a, b, c, .sym .i64 p]) => (p < 0 → p = -1 ∧ K v (set h' rb (.row T [a, b, c, .con .i64 (-1)]))) ∧ (0 ≤ p → K v (set h' rb (.row T [a, b, c, .sym .i64 (Int.ofNat p.toNat)])))
    | _ => False)
  | _ => False
theorem OkS.split [Glob] {P : Program} {S : Sums} (h : OkS P S) {f : Nat} {sp : ASpec} (hf : S.spec f = some sp) : OkS P (S.addSp f (splitSpec sp)) := by
  refine ⟨h.pure, ⟨fun g sp' hg => ?_, h.spec.2⟩, fun g sp' hg => ?_⟩
  · by_cases e : g = f
    · subst e
      simp only [Sums.addSp, if_true] at hg
      cases hg
      obtain ⟨hfn, hrun⟩ := h.spec.1 g sp hf
      refine ⟨hfn, fun args hh K hsp w0 Sx pl w vals hR hargs => ?_⟩
      unfold splitSpec at hsp
      split at hsp
      · rename_i rb os
        refine (hrun _ _ _ hsp w0 Sx pl w vals hR hargs).mono ?_
        rintro e w' ⟨v, av, h', pl', rfl, hv, hpe, hR', hK⟩
        split at hK
        · rename_i T a b c p hg
          rw [get?_eq] at hg
          by_cases hp : p < 0
          · obtain ⟨e, hk⟩ := hK.1 hp
            refine ⟨v, av, _, pl', rfl, hv, hpe, hR'.reread hg (fun vs hvs => ?_), hk⟩
            match vs, hvs with
            | [_, _, _, _], hvs => exact ⟨hvs.1, hvs.2.1, hvs.2.2.1, hvs.2.2.2.1.imp (fun h => by cases h) (fun h => by subst e; exact h), trivial⟩
          · have hp : 0 ≤ p := by omega
            refine ⟨v, av, _, pl', rfl, hv, hpe, hR'.reread hg (fun vs hvs => ?_), hK.2 hp⟩
            have e : p = Int.ofNat p.toNat := (Int.toNat_of_nonneg hp).symm
            rw [← e]
            exact hvs
        · exact hK.elim
      · exact hsp.elim
    · simp only [Sums.addSp, if_neg e] at hg
      exact h.spec.1 g sp' hg
  · by_cases e : g = f
    · subst e
      simp only [Sums.addSp, if_true] at hg
      cases hg
      intro args hh K K' hK hx
      unfold splitSpec at hx ⊢
      split at hx
      · refine h.mono g sp hf _ _ _ _ (fun v h' hk => ?_) hx
        split at hk
        · exact ⟨fun hp => ⟨(hk.1 hp).1, hK _ _ (hk.1 hp).2⟩, fun hp => hK _ _ (hk.2 hp)⟩
        · exact hk.elim
      · exact hx.elim
    · simp only [Sums.addSp, if_neg e] at hg
      exact h.mono g sp' hg
end Go.AM
