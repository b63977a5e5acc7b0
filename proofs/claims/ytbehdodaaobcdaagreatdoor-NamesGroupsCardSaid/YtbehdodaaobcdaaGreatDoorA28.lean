import Derived.Test.YtbehdodaaobcdaaGreatDoorA17
import Derived.Test.YtbehdodaaobcdaaGreatDoorA22
import Derived.Test.YtbehdodaaobcdaaGreatDoorA27
import Derived.Test.YtbehdodaaobcdaaGreatDoorA21
set_option maxHeartbeats 4000000
namespace Go.AM
open Go
section
variable {P : Program} {w0 w : World} {Sx : Marks} {pl : List Pl} {h : Heap}
theorem HRel.recode [Glob] (hR : HRel w0 Sx pl h w) {b : Nat} {x x' : Blk} (hg : h[b]? = some x) (hx : ∀ p, pl[b]? = some p → BlkR pl w x p → BlkR pl w x' p) (ha : ∀ p, x'.alive p = true → x.alive p = true) (hd : ∀ p, x'.rd p = false) : HRel w0 Sx pl (AM.set h b x') w := by
  have key : ∀ (c : Nat) q y, pl[c]? = some q → (AM.set h b x')[c]? = some y → (b = c ∧ y = x') ∨ h[c]? = some y := fun c q y hq hy => by
    by_cases e : b = c
    · subst e
      rw [get_set_same hg] at hy
      exact .inl ⟨rfl, (Option.some.inj hy).symm⟩
    · rw [get_set_other e] at hy; exact .inr hy
  have al : ∀ (c : Nat) q y, pl[c]? = some q → (AM.set h b x')[c]? = some y → y.alive q = true → ∃ z, h[c]? = some z ∧ z.alive q = true := fun c q y hq hy hya => by
    rcases key c q y hq hy with ⟨rfl, rfl⟩ | h1
    · exact ⟨x, hg, ha q hya⟩
    · exact ⟨y, h1, hya⟩
  refine ⟨by simp [set_eq, hR.len], hR.fr, fun c y q hy hq => ?_, fun c q y hq hy hya => ?_, fun c q y hq hy hya => ?_, fun c d q r y z hq hr hy hz hya hza e => ?_, fun c q y hq hy hyd => ?_, hR.rok, hR.drw⟩
  · rcases key c q y hq hy with ⟨rfl, rfl⟩ | h1
    · exact hx q hq (hR.hb _ x q hg hq)
    · exact hR.hb c y q h1 hq
  · obtain ⟨z, h1, h2⟩ := al c q y hq hy hya
    exact hR.lt c q z hq h1 h2
  · obtain ⟨z, h1, h2⟩ := al c q y hq hy hya
    exact hR.own c q z hq h1 h2
  · obtain ⟨y', h1, h2⟩ := al c q y hq hy hya
    obtain ⟨z', h3, h4⟩ := al d r z hr hz hza
    exact hR.inj c d q r y' z' hq hr h1 h3 h2 h4 e
  · rcases key c q y hq hy with ⟨rfl, rfl⟩ | h1
    · rw [hd q] at hyd; cases hyd
    · exact hR.ro c q y hq h1 hyd
theorem HRel.decoded [Glob] (hR : HRel w0 Sx pl h w) {b T z n : Nat} {cs : List SV} {C : Codec} {zs : List C.τ} (hg : h[b]? = some (.ownL T z n cs)) (hz : z = C.esz) (hdc : decAll C n cs = some zs) : HRel w0 Sx pl (AM.set h b (.own T C zs)) w ∧ (w0 = w0 → (∃ p, pl[b]? = some p) → zs.length = n) := by
  have core : ∀ p, BlkR pl w (.ownL T z n cs) p → BlkR pl w (.own T C zs) p ∧ zs.length = n := fun p hb => by
    obtain ⟨vs, h1, h2⟩ := hb
    obtain ⟨h3, h4⟩ := decAll_R hdc h1 (by rw [h2.1, hz])
    exact ⟨⟨vs, h3, by rw [h4, ← hz]; exact h2⟩, h4⟩
  exact ⟨hR.recode hg (fun p _ hb => (core p hb).1) (fun _ h => h) (fun _ => rfl), fun _ ⟨p, hp⟩ => (core p (hR.hb b _ p hg hp)).2⟩
def numB : List SV → List SV → Bool
  | [], [] => true
  | .sym k' n' :: l', .con k n :: l => decide (k' = k) && decide (n' = n) && numB l' l
  | .sym k' n' :: l', .sym k n :: l => decide (k' = k) && decide (n' = n) && numB l' l
  | _, _ => false
theorem numB_R : ∀ {l' l : List SV} {vs : List Value}, numB l' l = true → RL pl l' vs → RL pl l vs
  | [], [], [], _, _ => trivial
  | [], [], _ :: _, _, h => h.elim
  | .sym k' n' :: l', .con k n :: l, v :: vs, he, h => by
    simp only [numB, Bool.and_eq_true, decide_eq_true_eq] at he
    obtain ⟨⟨rfl, rfl⟩, he⟩ := he
    exact ⟨h.1.imp (fun h => by cases h) id, numB_R he h.2⟩
  | .sym k' n' :: l', .sym k n :: l, v :: vs, he, h => by
    simp only [numB, Bool.and_eq_true, decide_eq_true_eq] at he
    obtain ⟨⟨rfl, rfl⟩, he⟩ := he
    exact ⟨h.1, numB_R he h.2⟩
  | .sym _ _ :: _, .con _ _ :: _, [], _, h => h.elim
  | .sym _ _ :: _, .sym _ _ :: _, [], _, h => h.elim
def rowSpecL (i : Nat) (C : Codec) (q : RSpec C) : ASpec := fun args h K => match get? args i with
  | some (.v (.one (.ow b z 0 n true))) => (match get? h b with
    | some (.ownL T z2 n2 cs) => if decide (z = C.esz) && decide (z2 = C.esz) && decide (n2 = n) && noPtrs (del args i) then (match decAll C n cs with
      | some zs => (match numB (flatC C zs) cs with
        | true => (match q (del args i) zs with
          | some (p, v, hs) => rowK h p v hs K
          | none => False)
        | false => False)
      | none => False) else False
    | _ => False)
  | _ => rowSpec i C q args h K
theorem get_set_arg {α : Type _} : ∀ {l : List α} {i : Nat} {a x : α}, get? l i = some a → get? (set l i x) i = some x
  | [], _, _, _, h => by simp [get?] at h
  | _ :: _, 0, _, _, _ => rfl
  | _ :: l, i + 1, _, _, h => get_set_arg (l := l) h
theorem del_set {α : Type _} : ∀ {l : List α} {i : Nat} {x : α}, del (set l i x) i = del l i
  | [], _, _ => rfl
  | _ :: _, 0, _ => rfl
  | _ :: l, i + 1, _ => by simp only [AM.set, del]; rw [del_set]
theorem ArgsR_set {pl : List Pl} : ∀ {l : List AV} {vs : List Value} {i : Nat} {a x : AV}, ArgsR pl l vs → get? l i = some a → (∀ v, a.R pl v → x.R pl v) → ArgsR pl (set l i x) vs
  | [], [], _, _, _, _, h, _ => by simp [get?] at h
  | [], _ :: _, _, _, _, h, _, _ => h.elim
  | _ :: _, [], _, _, _, h, _, _ => h.elim
  | _ :: _, _ :: _, 0, _, _, h, hg, hx => by
    simp only [get?, Option.some.injEq] at hg
    subst hg
    exact ⟨hx _ h.1, h.2⟩
  | _ :: _, _ :: _, i + 1, _, _, h, hg, hx => ⟨h.1, ArgsR_set h.2 hg hx⟩
theorem set_app {h l : Heap} {b : Nat} {x y : Blk} (hg : h[b]? = some y) : AM.set (app (AM.set h b x) l) b y = app h l := by
  have hlt := (List.getElem?_eq_some_iff.1 hg).1
  rw [app_eq, app_eq, set_eq, set_eq, List.set_append_left _ _ (by simpa using hlt), List.set_set]
  congr 1
  apply List.ext_getElem?
  intro k
  rw [List.getElem?_set]
  split
  · rename_i e
    subst e
    simp [hlt, hg.symm]
  · rfl
theorem rowSpecL_pre [Glob] {i : Nat} {C : Codec} {q : RSpec C} {args : List AV} {K : KV} {vals : List Value} (hsp : rowSpecL i C q args h K) (hR : HRel w0 Sx pl h w) (hargs : ArgsR pl args vals) :
    rowSpec i C q args h K ∨ ∃ args' h' b T n cs zs, rowSpec i C q args' h' (fun v hh => hh[b]? = some (.own T C zs) ∧ K v (AM.set hh b (.ownL T C.esz n cs))) ∧ HRel w0 Sx pl h' w ∧ ArgsR pl args' vals ∧ numB (flatC C zs) cs = true ∧ zs.length = n := by
  unfold rowSpecL at hsp
  split at hsp
  · rename_i b z n hga
    split at hsp
    · rename_i T z2 n2 cs hg
      split at hsp
      · rename_i hc
        simp only [Bool.and_eq_true, decide_eq_true_eq] at hc
        obtain ⟨⟨⟨rfl, rfl⟩, rfl⟩, hno⟩ := hc
        split at hsp
        · rename_i zs hdc
          split at hsp
          · rename_i hnb
            split at hsp
            · rename_i p v hs hqq
              rw [get?_eq] at hg
              obtain ⟨u, hu, _⟩ := args_del hargs hga hno
              obtain ⟨pb, hpb, _⟩ := ow_R' hu
              obtain ⟨hR', hlen⟩ := hR.decoded hg rfl hdc
              have hlen := hlen rfl ⟨pb, hpb⟩
              have hlt := (List.getElem?_eq_some_iff.1 hg).1
              refine .inr ⟨AM.set args i (.v (.one (.ow b C.esz 0 n2 false))), AM.set h b (.own T C zs), b, T, n2, cs, zs, ?_, hR', ArgsR_set hargs hga (fun v hv => hv.imp (fun h => by cases h) (fun h => h)), hnb, hlen⟩
              unfold rowSpec
              rw [get_set_arg hga]
              simp only [srcV, get?_eq, get_set_same hg, if_true, del_set, hno, decide_true, Bool.and_self]
              refine ⟨zs, ⟨by simp [hlen], by rw [List.take_of_length_le (by simp [hlen])]; rfl⟩, ?_⟩
              rw [hqq]
              simp only
              have e1 : ∀ l : Heap, (app (AM.set h b (.own T C zs)) l)[b]? = some (.own T C zs) := fun l => by
                rw [app_eq, List.getElem?_append_left (by simpa [set_eq] using hlt)]
                exact get_set_same hg
              have e0 : AM.set (AM.set h b (.own T C zs)) b (.ownL T C.esz n2 cs) = h := by
                have := set_app (l := []) (x := .own T C zs) hg
                simpa [app_eq] using this
              have el : len' (AM.set h b (.own T C zs)) = len' h := by simp [len'_eq, set_eq]
              unfold rowK at hsp ⊢
              split at hsp
              · split at hsp
                · rename_i hl
                  rw [if_pos hl]
                  refine ⟨⟨by omega, hsp.1⟩, get_set_same hg, ?_⟩
                  rw [e0]
                  exact hsp.2
                · exact hsp.elim
              · split at hsp
                · rename_i hl
                  rw [if_pos hl]
                  refine ⟨⟨by omega, hsp.1⟩, e1 _, ?_⟩
                  rw [el, set_app hg]
                  exact hsp.2
                · exact hsp.elim
            · exact hsp.elim
          · exact hsp.elim
        · exact hsp.elim
      · exact hsp.elim
    · exact hsp.elim
  · exact .inl hsp
theorem rowSpecL_mono {i : Nat} {C : Codec} {q : RSpec C} {args : List AV} {h : Heap} {K K' : KV} (hK : ∀ v h, K v h → K' v h) (hk : rowSpecL i C q args h K) : rowSpecL i C q args h K' := by
  unfold rowSpecL at hk ⊢
  split at hk
  · split at hk
    · split at hk
      · rename_i hc
        rw [if_pos hc]
        split at hk
        · split at hk
          · split at hk
            · exact rowK_mono hK hk
            · exact hk.elim
          · exact hk.elim
        · exact hk.elim
      · exact hk.elim
    · exact hk.elim
  · exact rowSpec_mono hK hk
theorem OkS.addRowL [Glob] (hF : Fine P) {S : Sums} (h : OkS P S) {f i : Nat} {C : Codec} {q : RSpec C} (hq : HoldsR P f i C q) : OkS P (S.addSp f (rowSpecL i C q)) := by
  have h1 := h.addRow hF hq
  refine ⟨h.pure, ⟨fun g sp hg => ?_, h.spec.2⟩, fun g sp hg => ?_⟩
  · by_cases e : g = f
    · subst e
      simp only [Sums.addSp, if_true] at hg
      cases hg
      obtain ⟨hfn, hh⟩ := h1.spec.1 g (rowSpec i C q) (by simp [Sums.addSp])
      refine ⟨hfn, fun args hh' K hsp w0 Sx pl w vals hR hargs => ?_⟩
      rcases rowSpecL_pre hsp hR hargs with hsp | ⟨args', h', b, T, n, cs, zs, k1, k2, k3, k4, k5⟩
      · exact hh args hh' K hsp w0 Sx pl w vals hR hargs
      · refine (hh args' h' _ k1 w0 Sx pl w vals k2 k3).mono ?_
        rintro e w' ⟨u, av, h2, pl2, he, hav, hpx, hR2, hg2, hK⟩
        refine ⟨u, av, _, pl2, he, hav, hpx, hR2.recode (x' := .ownL T C.esz n cs) hg2 (fun p _ hb => ?_) (fun p h => h) (fun p => rfl), hK⟩
        obtain ⟨vs, j1, j2⟩ := hb
        exact ⟨vs, numB_R k4 j1, by rw [← k5]; exact j2⟩
    · simp only [Sums.addSp, if_neg e] at hg
      exact h.spec.1 g sp hg
  · by_cases e : g = f
    · subst e
      simp only [Sums.addSp, if_true] at hg
      cases hg
      intro args hh K K' hK hx
      exact rowSpecL_mono hK hx
    · simp only [Sums.addSp, if_neg e] at hg
      exact h.mono g sp hg
end
end Go.AM
namespace Go.AM
open Go Go.Proofs
def RE0 : Sums := RC.addSp 23 (rowSpecL 0 cOp qClose)
theorem pRE0 : OkS P RE0 := pRC.addRowL fine hrClose
def RE1 : Sums := RE0.add 54 idxQ
theorem pRE1 : OkS P RE1 := pRE0.addC hIdx
def RE : Sums := RE1.add 22 qRead
theorem pRE : OkS P RE := ⟨PureOk.add fine (pY6 stdOn).pure (pY6 stdOn).spec (pY6 stdOn).mono pRE1.pure hRead, pRE1.spec, pRE1.mono⟩
end Go.AM
namespace Go.AM
open Dist
def kn0 : List UInt8 := [67, 50]
def km0 : List OpI := [⟨1,0,0,0,1,0,0,0,1,12,12,0⟩,⟨-1,0,0,0,1,0,0,0,-1,0,0,0⟩]
def kn1 : List UInt8 := [67, 50, 47, 99]
def km1 : List OpI := [⟨1,0,0,0,1,0,0,0,1,12,12,0⟩,⟨-1,0,0,0,1,0,0,0,-1,0,0,12⟩,⟨-1,0,0,0,-1,0,0,0,-1,0,0,0⟩]
def kn2 : List UInt8 := [70, 100, 45, 51, 109]
def km2 : List OpI := [⟨1,0,0,0,1,0,0,0,1,0,12,12⟩,⟨1,0,0,0,1,0,0,0,1,12,0,12⟩,⟨-1,0,0,0,-1,0,0,0,1,18,6,12⟩,⟨-1,0,0,0,1,0,0,0,-1,6,12,18⟩,⟨0,0,1,1,0,0,0,1,0,0,0,0⟩,⟨0,1,0,1,0,0,0,0,-1,18,6,12⟩,⟨-1,0,0,0,-1,0,0,0,-1,0,0,0⟩]
def kn3 : List UInt8 := [70, 100, 100, 100]
def km3 : List OpI := [⟨1,0,0,0,1,0,0,0,1,0,12,12⟩,⟨1,0,0,0,1,0,0,0,1,12,0,12⟩,⟨-1,0,0,0,-1,0,0,0,1,18,18,0⟩,⟨-1,0,0,0,1,0,0,0,-1,18,0,18⟩,⟨-1,0,0,0,-1,0,0,0,-1,0,0,0⟩]
def kn4 : List UInt8 := [70, 109, 45, 51, 109]
def km4 : List OpI := [⟨1,0,0,0,1,0,0,0,1,0,12,12⟩,⟨1,0,0,0,1,0,0,0,1,12,0,12⟩,⟨-1,0,0,0,-1,0,0,0,1,0,0,0⟩,⟨-1,0,0,0,1,0,0,0,-1,0,0,0⟩,⟨0,0,1,1,0,0,0,1,0,0,0,0⟩,⟨0,1,0,1,0,0,0,0,-1,0,0,0⟩,⟨-1,0,0,0,-1,0,0,0,-1,0,0,0⟩]
def kn5 : List UInt8 := [73, 97, 45, 51, 100]
def km5 : List OpI := [⟨1,0,0,0,1,0,0,0,1,12,12,12⟩,⟨-1,0,0,0,-1,0,0,0,1,12,0,12⟩,⟨-1,0,0,0,1,0,0,0,-1,0,12,12⟩,⟨0,0,1,1,0,0,0,1,0,0,0,0⟩,⟨0,1,0,1,0,0,0,0,-1,18,6,6⟩,⟨-1,0,0,0,-1,0,0,0,-1,0,0,0⟩]
def kn6 : List UInt8 := [80, 45, 49]
def km6 : List OpI := [⟨-1,0,0,0,-1,0,0,0,-1,0,0,0⟩]
def kn7 : List UInt8 := [80, 49]
def km7 : List OpI := []
def kn8 : List UInt8 := [80, 50]
def km8 : List OpI := [⟨-1,0,0,0,1,0,0,0,-1,0,0,0⟩]
def kn9 : List UInt8 := [80, 50, 47, 109]
def km9 : List OpI := [⟨-1,0,0,0,1,0,0,0,-1,0,0,0⟩,⟨-1,0,0,0,-1,0,0,0,-1,0,0,0⟩]
def kn10 : List UInt8 := [80, 50, 49]
def km10 : List OpI := [⟨-1,0,0,0,1,0,0,0,-1,0,12,0⟩]
def kn11 : List UInt8 := [80, 50, 49, 47, 99]
def km11 : List OpI := [⟨-1,0,0,0,1,0,0,0,-1,0,12,12⟩,⟨-1,0,0,0,-1,0,0,0,-1,0,0,0⟩]
def kn12 : List UInt8 := [80, 50, 49, 50, 49, 50, 49]
def km12 : List OpI := [⟨-1,0,0,0,-1,0,0,0,1,12,0,12⟩,⟨-1,0,0,0,1,0,0,0,-1,0,12,12⟩]
def kn13 : List UInt8 := [80, 50, 50, 50]
def km13 : List OpI := [⟨-1,0,0,0,-1,0,0,0,1,0,0,0⟩,⟨-1,0,0,0,1,0,0,0,-1,0,0,0⟩]
def kn14 : List UInt8 := [80, 50, 51]
def km14 : List OpI := [⟨-1,0,0,0,-1,0,0,0,1,0,0,0⟩,⟨-1,0,0,0,1,0,0,0,-1,0,0,0⟩,⟨0,0,1,1,0,0,0,1,0,0,0,0⟩]
def kn15 : List UInt8 := [80, 51]
def km15 : List OpI := [⟨0,-1,0,1,-1,0,0,0,1,0,0,0⟩]
def kn16 : List UInt8 := [80, 51, 49]
def km16 : List OpI := [⟨0,-1,0,1,-1,0,0,0,1,0,0,8⟩]
def kn17 : List UInt8 := [80, 52]
def km17 : List OpI := [⟨0,-1,0,1,0,0,0,0,1,0,0,0⟩]
def kn18 : List UInt8 := [80, 52, 47, 109, 109, 109]
def km18 : List OpI := [⟨0,-1,0,1,0,0,0,0,1,0,0,0⟩,⟨-1,0,0,0,1,0,0,0,-1,0,0,0⟩,⟨-1,0,0,0,-1,0,0,0,-1,0,0,0⟩]
def kn19 : List UInt8 := [80, 52, 49]
def km19 : List OpI := [⟨0,-1,0,1,0,0,0,0,1,0,0,6⟩]
def kn20 : List UInt8 := [80, 54]
def km20 : List OpI := [⟨1,-1,0,1,0,0,0,0,1,0,0,0⟩]
def kn21 : List UInt8 := [80, 54, 51, 47, 109, 109, 99]
def km21 : List OpI := [⟨1,-1,0,1,0,0,0,0,1,0,0,12⟩,⟨0,1,0,1,0,0,0,0,-1,0,0,0⟩,⟨-1,0,0,0,-1,0,0,0,-1,0,0,0⟩]
def kn22 : List UInt8 := [80, 99]
def km22 : List OpI := [⟨1,0,0,0,-1,0,0,0,1,0,0,12⟩]
def kn23 : List UInt8 := [80, 109]
def km23 : List OpI := [⟨1,0,0,0,-1,0,0,0,1,0,0,0⟩]
def kn24 : List UInt8 := [80, 109, 45, 51, 109]
def km24 : List OpI := [⟨-1,0,0,0,-1,0,0,0,1,0,0,0⟩,⟨-1,0,0,0,1,0,0,0,-1,0,0,0⟩,⟨0,0,1,1,0,0,0,1,0,0,0,0⟩,⟨0,1,0,1,0,0,0,0,-1,0,0,0⟩,⟨-1,0,0,0,-1,0,0,0,-1,0,0,0⟩]
def kn25 : List UInt8 := [80, 110, 109, 97]
def km25 : List OpI := [⟨-1,0,0,0,-1,0,0,0,1,12,0,12⟩,⟨-1,0,0,0,1,0,0,0,-1,0,12,0⟩,⟨-1,0,0,0,-1,0,0,0,-1,0,0,0⟩]
def kn26 : List UInt8 := [82, 51]
def km26 : List OpI := [⟨1,0,0,0,1,0,0,0,1,16,8,8⟩,⟨0,-1,0,1,-1,0,0,0,1,0,0,0⟩]
def knownL : List (List UInt8 × List OpI) := [(kn0, km0), (kn1, km1), (kn2, km2), (kn3, km3), (kn4, km4), (kn5, km5), (kn6, km6), (kn7, km7), (kn8, km8), (kn9, km9), (kn10, km10), (kn11, km11), (kn12, km12), (kn13, km13), (kn14, km14), (kn15, km15), (kn16, km16), (kn17, km17), (kn18, km18), (kn19, km19), (kn20, km20), (kn21, km21), (kn22, km22), (kn23, km23), (kn24, km24), (kn25, km25), (kn26, km26)]
end Go.AM
namespace Go.AM
open Go Go.Proofs Dist
def lookK (s : List UInt8) : List (List UInt8 × List OpI) → Option (List OpI)
  | [] => none
  | (n, m) :: l => if n = s then some m else lookK s l
def grpR (s : List UInt8) : List OpI := match lookK s knownL with
  | some m => closeR m
  | none => []
def grpE (s : List UInt8) : Int := match lookK s knownL with
  | some m => closeE m
  | none => 13
end Go.AM
open Go Go.AM Go.Proofs
namespace Go.AM
open Dist
set_option maxRecDepth 100000
def leafG (rs : List OpI) (e : Int) (m : List OpI) : Prop := True ∧ (((((0 : Nat) = 0 ∧ rs.length = (closeR m).length) ∧ e = closeE m ∧ True) ∧ True) ∧ SameRows cOp rs cOp (closeR m) ∧ True)
def grpNF (rs : List OpI) (e : Int) (s : List UInt8) : List (List UInt8 × List OpI) → Prop
  | [] => ((((0 : Nat) = 0 ∧ rs.length = 0) ∧ e = 13 ∧ True) ∧ True) ∧ rs.length = 0 ∧ True
  | (n, m) :: l => ((!decide (n = s)) = true → grpNF rs e s l) ∧ ((!decide (n = s)) = false → leafG rs e m)
theorem nfgroup (s : List UInt8) : call P RE noAnn 100000 Tryz.f11 [.v (.one (.str s))] [] (fun v h => MatchTo 0 [v] h ([.tup [.one (.ow 0 12 0 (grpR s).length false), .one (.sym .i64 (grpE s))]], [.own 45 cOp (grpR s)])) = grpNF (grpR s) (grpE s) s knownL := by kernel_rfl
theorem grp_nf {s : List UInt8} : ∀ l, grpNF (match lookK s l with | some m => closeR m | none => []) (match lookK s l with | some m => closeE m | none => 13) s l
  | [] => ⟨⟨⟨⟨rfl, rfl⟩, rfl, trivial⟩, trivial⟩, rfl, trivial⟩
  | (n, m) :: l => by
    unfold lookK grpNF
    by_cases h : n = s
    · rw [if_pos h]
      refine ⟨fun hn => by simp [h] at hn, fun _ => ?_⟩
      exact ⟨trivial, ⟨⟨⟨rfl, rfl⟩, rfl, trivial⟩, trivial⟩, sameR _ _, trivial⟩
    · rw [if_neg h]
      exact ⟨fun _ => grp_nf l, fun hn => by simp [h] at hn⟩
theorem grp_all (s : List UInt8) : grpNF (grpR s) (grpE s) s knownL := by
  unfold grpR grpE
  exact grp_nf knownL
end Go.AM
open Go Go.AM Go.Proofs
namespace Go.AM
open Dist
set_option maxRecDepth 100000
theorem OkS.addFe {S : Sums} {f : Nat} {q : FSpec} {m : List Bool} (h0 : OkS P S) (h : OkS P (S.addF f q)) : OkS P (S.addF f (fun args => q (eraM m args))) := by
  refine ⟨h.pure, ⟨fun g sp hg => ?_, h.spec.2⟩, fun g sp hg => ?_⟩
  · by_cases e : g = f
    · subst e
      simp only [Sums.addF, if_true] at hg
      cases hg
      obtain ⟨hfn, hh⟩ := h.spec.1 g (freshSpec q) (by simp [Sums.addF])
      exact ⟨hfn, fun args hh' K hsp w0 Sx pl w vals hR hargs => hh (eraM m args) hh' K hsp w0 Sx pl w vals hR (ArgsR_era hargs)⟩
    · simp only [Sums.addF, if_neg e] at hg
      exact h0.spec.1 g sp hg
  · by_cases e : g = f
    · subst e
      simp only [Sums.addF, if_true] at hg
      cases hg
      intro args hh K K' hK hx
      exact h.mono g (freshSpec q) (by simp [Sums.addF]) (eraM m args) hh K K' hK hx
    · simp only [Sums.addF, if_neg e] at hg
      exact h0.mono g sp hg
theorem callGroup (s : List UInt8) : CallR P RE noAnn 100000 Tryz.f11 [.v (.one (.str s))] [] (fun v h => MatchTo 0 [v] h ([.tup [.one (.ow 0 12 0 (grpR s).length false), .one (.sym .i64 (grpE s))]], [.own 45 cOp (grpR s)])) := by
  refine ⟨?_⟩
  rw [nfgroup]
  exact grp_all s
def qGroup : FSpec
  | [.v (.one (.str s))] => some (True, .tup [.one (.ow 0 12 0 (grpR s).length false), .one (.sym .i64 (grpE s))], [.own 45 cOp (grpR s)])
  | _ => none
theorem hGroup : HoldsFm P 11 qGroup := by
  refine ⟨_, Tryz.func11, by kernel_rfl, fun args p v hs hq hp => ?_⟩
  unfold qGroup at hq
  split at hq
  · rename_i s
    cases hq
    exact ⟨rfl, rfl, 100000, noAnn, RE, rfl, pRE, callGroup s⟩
  · cases hq
def namesL : List (List UInt8) := knownL.map (·.1)
def strsV : List (List UInt8) → List SV
  | [] => []
  | s :: l => .cstr s :: strsV l
def qKnown : FSpec
  | [] => some (True, .v (.one (.ow 0 1 0 27 true)), [.ownL 9 1 27 (strsV (knownL.map (·.1)))])
  | _ => none
set_option maxHeartbeats 0 in
theorem nfknown : call P RE noAnn 100000 Tryz.f8 [] [] (fun v h => MatchTo 0 [v] h ([.v (.one (.ow 0 1 0 27 true))], [.ownL 9 1 27 (strsV (knownL.map (·.1)))])) = (((0=0/\27=27)/\True)/\(27=27/\True/\True/\True/\True/\True/\True/\True/\True/\True/\True/\True/\True/\True/\True/\True/\True/\True/\True/\True/\True/\True/\True/\True/\True/\True/\True/\True/\True)/\True) := by kernel_rfl
theorem callKnown : CallR P RE noAnn 100000 Tryz.f8 [] [] (fun v h => MatchTo 0 [v] h ([.v (.one (.ow 0 1 0 27 true))], [.ownL 9 1 27 (strsV (knownL.map (·.1)))])) := by
  refine ⟨?_⟩
  rw [nfknown]
  simp only [and_self]
theorem hKnown : HoldsFm P 8 qKnown := by
  refine ⟨_, Tryz.func8, by kernel_rfl, fun args p v hs hq hp => ?_⟩
  unfold qKnown at hq
  split at hq
  · cases hq
    exact ⟨rfl, rfl, 100000, noAnn, RE, rfl, pRE, callKnown⟩
  · cases hq
def RF0 : Sums := RE.addF 11 (fun args => qGroup (eraM [] args))
theorem pRF0 : OkS P RF0 := pRE.addFe (pRE.addFm fine hGroup)
def RF : Sums := RF0.addF 8 qKnown
theorem pRF : OkS P RF := pRF0.addFm fine hKnown
end Go.AM
open Go Go.AM Go.Proofs
namespace Go.AM
open Dist
open IntKind in
theorem nfCheck (xs : List OpI) (c : Nat) (K : KV) : call P R2 (annCheck xs) 100000 Tryz.f25 [.v (.one (.rs 0 12 xs.length c))] [.ro 0 cOp xs] K = (∃ (z:List cOp.τ),SameRows cOp z cOp xs/\(xs.length=xs.length/\True)/\((!decide (mapsE z=0))=true->K (.v (.one (.sym .i64 (mapsE z)))) [Blk.ro 0 cOp xs])/\((!decide (mapsE z=0))=false->(∃ (z : { i:Nat//1<=i/\i<=max 1 xs.length/\sortedB xs=sortedB (List.drop (i-1) xs) }),((xs.length=xs.length/\c=c)/\(↑z.1:Int)=1/\True)/\SameRows cOp xs cOp xs/\True)/\∀ (x : { i:Nat//1<=i/\i<=max 1 xs.length/\sortedB xs=sortedB (List.drop (i-1) xs) }),(decide ((↑x.1:Int)<(↑xs.length:Int))=true->((0:Int)<=i64.wrap ((↑x.1:Int)-1)/\i64.wrap ((↑x.1:Int)-1)<(↑xs.length:Int))/\(i64.wrap ((↑x.1:Int)-1)).toNat.succ.le xs.length/\((0:Int)<=(↑x.1:Int)/\(↑x.1:Int)<(↑xs.length:Int))/\(↑x.1:Int).toNat.succ.le xs.length/\(decide ((0:Int)<=oC (xs.getD (i64.wrap ((↑x.1:Int)-1)).toNat cOp.d) (gt xs x.1))=true->K (.v (.one (.con .i64 5))) [Blk.ro 0 cOp xs])/\(decide ((0:Int)<=oC (xs.getD (i64.wrap ((↑x.1:Int)-1)).toNat cOp.d) (gt xs x.1))=false->∃ (z : { i:Nat//1<=i/\i<=max 1 xs.length/\sortedB xs=sortedB (List.drop (i-1) xs) }),(xs.length-z.1).succ.le (xs.length-x.1)/\((xs.length=xs.length/\c=c)/\(↑z.1:Int)=i64.wrap ((↑x.1:Int)+1)/\True)/\SameRows cOp xs cOp xs/\True))/\(decide ((↑x.1:Int)<(↑xs.length:Int))=false->∃ (z:List cOp.τ),SameRows cOp z cOp xs/\(xs.length=xs.length/\z.length.le 4611686018427387904)/\KeyLaw P 45 cOp/\((!mhas cOp (placesL z) oneO)=true->K (.v (.one (.con .i64 5))) [Blk.ro 0 cOp xs])/\((!mhas cOp (placesL z) oneO)=false->(∃ (z_1 : { i:Nat//i<=xs.length/\closedB xs=(List.drop i xs).all (rowB xs) }),((xs.length=xs.length/\c=c)/\(xs.length=xs.length/\c=c)/\(↑xs.length:Int)=(↑xs.length:Int)/\(↑z_1.1:Int)=0/\True)/\SameRows cOp xs cOp xs/\True/\SameEnts cOp (placesL z) cOp (placesL z)/\True)/\∀ (x : { i:Nat//i<=xs.length/\closedB xs=(List.drop i xs).all (rowB xs) }),(decide ((↑x.1:Int)<(↑xs.length:Int))=true->((0:Int)<=(↑x.1:Int)/\(↑x.1:Int)<(↑xs.length:Int))/\(↑x.1:Int).toNat.succ.le xs.length/\(∃ (z_1 : { j:Nat//j<=xs.length/\rowB xs (gt xs (↑x.1:Int).toNat)=(List.drop j xs).all (pairB xs (gt xs (↑x.1:Int).toNat)) }),((xs.length=xs.length/\c=c)/\(xs.length=xs.length/\c=c)/\(↑xs.length:Int)=(↑xs.length:Int)/\(↑x.1:Int)=(↑x.1:Int)/\(xs.length=xs.length/\c=c)/\(↑xs.length:Int)=(↑xs.length:Int)/\(↑z_1.1:Int)=0/\True)/\SameRows cOp xs cOp xs/\True/\SameEnts cOp (placesL z) cOp (placesL z)/\((gt xs x.1).a=(gt xs x.1).a/\(gt xs x.1).b=(gt xs x.1).b/\(gt xs x.1).c=(gt xs x.1).c/\(gt xs x.1).d=(gt xs x.1).d/\(gt xs x.1).e=(gt xs x.1).e/\(gt xs x.1).f=(gt xs x.1).f/\(gt xs x.1).g=(gt xs x.1).g/\(gt xs x.1).h=(gt xs x.1).h/\(gt xs x.1).i=(gt xs x.1).i/\(gt xs x.1).x=(gt xs x.1).x/\(gt xs x.1).y=(gt xs x.1).y/\(gt xs x.1).z=(gt xs x.1).z/\True)/\True)/\∀ (x_1 : { j:Nat//j<=xs.length/\rowB xs (gt xs (↑x.1:Int).toNat)=(List.drop j xs).all (pairB xs (gt xs (↑x.1:Int).toNat)) }),(decide ((↑x_1.1:Int)<(↑xs.length:Int))=true->((0:Int)<=(↑x_1.1:Int)/\(↑x_1.1:Int)<(↑xs.length:Int))/\(↑x_1.1:Int).toNat.succ.le xs.length/\KeyLaw P 45 cOp/\((!decide (oM (gt xs x.1) (gt xs x_1.1)=0))=true->K (.v (.one (.con .i64 5))) [Blk.ro 0 cOp xs])/\((!decide (oM (gt xs x.1) (gt xs x_1.1)=0))=false->((!mhas cOp (placesL z) (oR (gt xs x.1) (gt xs x_1.1)))=true->K (.v (.one (.con .i64 5))) [Blk.ro 0 cOp xs])/\((!mhas cOp (placesL z) (oR (gt xs x.1) (gt xs x_1.1)))=false->∃ (z_1 : { j:Nat//j<=xs.length/\rowB xs (gt xs (↑x.1:Int).toNat)=(List.drop j xs).all (pairB xs (gt xs (↑x.1:Int).toNat)) }),(xs.length-z_1.1).succ.le (xs.length-x_1.1)/\((xs.length=xs.length/\c=c)/\(xs.length=xs.length/\c=c)/\(↑xs.length:Int)=(↑xs.length:Int)/\(↑x.1:Int)=(↑x.1:Int)/\(xs.length=xs.length/\c=c)/\(↑xs.length:Int)=(↑xs.length:Int)/\(↑z_1.1:Int)=i64.wrap ((↑x_1.1:Int)+1)/\True)/\SameRows cOp xs cOp xs/\True/\SameEnts cOp (placesL z) cOp (placesL z)/\((gt xs x.1).a=(gt xs x.1).a/\(gt xs x.1).b=(gt xs x.1).b/\(gt xs x.1).c=(gt xs x.1).c/\(gt xs x.1).d=(gt xs x.1).d/\(gt xs x.1).e=(gt xs x.1).e/\(gt xs x.1).f=(gt xs x.1).f/\(gt xs x.1).g=(gt xs x.1).g/\(gt xs x.1).h=(gt xs x.1).h/\(gt xs x.1).i=(gt xs x.1).i/\(gt xs x.1).x=(gt xs x.1).x/\(gt xs x.1).y=(gt xs x.1).y/\(gt xs x.1).z=(gt xs x.1).z/\True)/\True)))/\(decide ((↑x_1.1:Int)<(↑xs.length:Int))=false->∃ (z_1 : { i:Nat//i<=xs.length/\closedB xs=(List.drop i xs).all (rowB xs) }),(xs.length-z_1.1).succ.le (xs.length-x.1)/\((xs.length=xs.length/\c=c)/\(xs.length=xs.length/\c=c)/\(↑xs.length:Int)=(↑xs.length:Int)/\(↑z_1.1:Int)=i64.wrap ((↑x.1:Int)+1)/\True)/\SameRows cOp xs cOp xs/\True/\SameEnts cOp (placesL z) cOp (placesL z)/\True))/\(decide ((↑x.1:Int)<(↑xs.length:Int))=false->K (.v (.one (.con .i64 0))) [Blk.ro 0 cOp xs]))))) := by kernel_rfl
theorem sameE (C : Codec) (es : List (C.τ × Int)) : SameEnts C es C es := ⟨rfl⟩
theorem sorted1 : ∀ {l : List OpI}, l.length ≤ 1 → sortedB l = true
  | [], _ => rfl
  | [_], _ => rfl
  | _ :: _ :: l, h => by rw [List.length_cons, List.length_cons] at h; omega
theorem sortedB_end {xs : List OpI} {i : Nat} (h : xs.length ≤ i) (h1 : 1 ≤ i) : sortedB (xs.drop (i - 1)) = true := by
  have hl : (xs.drop (i - 1)).length ≤ 1 := by rw [List.length_drop]; omega
  exact sorted1 hl
theorem sortedB_step {xs : List OpI} {i : Nat} (h : i < xs.length) (h1 : 1 ≤ i) : sortedB (xs.drop (i - 1)) = (decide (oC (gt xs (i - 1)) (gt xs i) < 0) && sortedB (xs.drop i)) := by
  have e1 := drop_gt (xs := xs) (k := i - 1) (by omega)
  have e2 := drop_gt h
  rw [Nat.sub_add_cancel h1] at e1
  rw [e1, e2]
  rfl
theorem all_step {xs : List OpI} {i : Nat} {f : OpI → Bool} (h : i < xs.length) : (xs.drop i).all f = (f (gt xs i) && (xs.drop (i + 1)).all f) := by
  rw [drop_gt h]
  rfl
theorem callCheck (xs : List OpI) (c : Nat) : CallR P R2 (annCheck xs) 100000 Tryz.f25 [.v (.one (.rs 0 12 xs.length c))] [.ro 0 cOp xs] (fun v' h' => MatchTo 1 [v'] h' ([(I' (checkP xs)).sh 1], .ro 0 cOp xs :: shH 1 [])) := by
  refine ⟨?_⟩
  rw [nfCheck]
  refine ⟨xs, sameR _ _, ⟨rfl, trivial⟩, fun h => leafRS ?_, fun h => ?_⟩
  · have h : ¬ mapsE xs = 0 := by simpa using h
    simp [checkP, h]
  have h : mapsE xs = 0 := by simpa using h
  have h192 : xs.length ≤ 192 := by
    unfold mapsE at h
    split at h
    · cases h
    · omega
  have five : (sortedB xs = false ∨ oneO ∉ xs ∨ closedB xs = false) → checkP xs = 5 := fun h5 => by
    rw [checkP, if_neg (by simpa using h), if_neg]
    simp only [Bool.and_eq_true, decide_eq_true_eq]
    rintro ⟨h1, h2, h3⟩
    rcases h5 with h5 | h5 | h5
    · rw [h1] at h5; cases h5
    · exact h5 h2
    · rw [h3] at h5; cases h5
  refine ⟨⟨⟨1, Nat.le_refl _, by omega, rfl⟩, ⟨⟨rfl, rfl⟩, rfl, trivial⟩, sameR _ _, trivial⟩, fun x => ⟨fun hk => ?_, fun hk => ?_⟩⟩
  · obtain ⟨i, h1, h2, h3⟩ := x
    have hk : (i : Int) < xs.length := of_decide_eq_true hk
    have hk' : i < xs.length := by omega
    have w1 := wr_id (n := (i : Int) - 1) (by omega) (by omega)
    have w2 := wr_id (n := (i : Int) + 1) (by omega) (by omega)
    have hst := sortedB_step hk' h1
    show ((0 : Int) ≤ IntKind.i64.wrap ((i : Int) - (1 : Int)) ∧ IntKind.i64.wrap ((i : Int) - (1 : Int)) < (xs.length : Int)) ∧ (IntKind.i64.wrap ((i : Int) - (1 : Int))).toNat < xs.length ∧ _ ∧ i < xs.length ∧ (decide ((0 : Int) ≤ oC (gt xs (IntKind.i64.wrap ((i : Int) - (1 : Int))).toNat) (gt xs i)) = true → _) ∧ (decide ((0 : Int) ≤ oC (gt xs (IntKind.i64.wrap ((i : Int) - (1 : Int))).toNat) (gt xs i)) = false → _)
    rw [w1, show ((i : Int) - 1).toNat = i - 1 by omega]
    refine ⟨⟨by omega, by omega⟩, by omega, ⟨by show (0 : Int) ≤ (i : Int); omega, hk⟩, hk', fun h4 => leafRC (five (.inl ?_)), fun h4 => ⟨⟨i + 1, by omega, by omega, ?_⟩, show xs.length - (i + 1) < xs.length - i by omega, ⟨⟨rfl, rfl⟩, w2.symm, trivial⟩, sameR _ _, trivial⟩⟩
    · have h4 : ¬ oC (gt xs (i - 1)) (gt xs i) < 0 := by have := of_decide_eq_true h4; omega
      rw [h3, hst, decide_eq_false h4]
      rfl
    · have h4 : oC (gt xs (i - 1)) (gt xs i) < 0 := by have := of_decide_eq_false h4; omega
      rw [h3, hst, decide_eq_true h4]
      rfl
  · obtain ⟨i, h1, h2, h3⟩ := x
    have hk : ¬ (i : Int) < xs.length := of_decide_eq_false hk
    have hso : sortedB xs = true := by rw [h3]; exact sortedB_end (by omega) h1
    refine ⟨xs, sameR _ _, ⟨rfl, by show xs.length ≤ _; omega⟩, keyOp, fun h4 => leafRC (five (.inr (.inl ?_))), fun h4 => ?_⟩
    · rw [mhas_places] at h4
      simpa using h4
    rw [mhas_places] at h4
    have hone : oneO ∈ xs := by simpa using h4
    refine ⟨⟨⟨0, Nat.zero_le _, rfl⟩, ⟨⟨rfl, rfl⟩, ⟨rfl, rfl⟩, rfl, rfl, trivial⟩, sameR _ _, trivial, sameE _ _, trivial⟩, fun x => ⟨fun hk => ?_, fun hk => ?_⟩⟩
    · obtain ⟨i, hi1, hi2⟩ := x
      have hk : (i : Int) < xs.length := of_decide_eq_true hk
      have hk' : i < xs.length := by omega
      have w2 := wr_id (n := (i : Int) + 1) (by omega) (by omega)
      have hst := all_step (f := rowB xs) hk'
      refine ⟨⟨by show (0 : Int) ≤ (i : Int); omega, hk⟩, hk', ⟨⟨0, Nat.zero_le _, rfl⟩, ⟨⟨rfl, rfl⟩, ⟨rfl, rfl⟩, rfl, rfl, ⟨rfl, rfl⟩, rfl, rfl, trivial⟩, sameR _ _, trivial, sameE _ _, ⟨rfl, rfl, rfl, rfl, rfl, rfl, rfl, rfl, rfl, rfl, rfl, rfl, trivial⟩, trivial⟩, fun y => ⟨fun hm => ?_, fun hm => ?_⟩⟩
      · obtain ⟨j, hj1, hj2⟩ := y
        have hm : (j : Int) < xs.length := of_decide_eq_true hm
        have hm' : j < xs.length := by omega
        have w3 := wr_id (n := (j : Int) + 1) (by omega) (by omega)
        have hst2 := all_step (f := pairB xs (gt xs i)) hm'
        have hj2 : rowB xs (gt xs i) = (xs.drop j).all (pairB xs (gt xs i)) := hj2
        have bad : pairB xs (gt xs i) (gt xs j) = false → checkP xs = 5 := fun hp => five (.inr (.inr (by rw [hi2, hst, hj2, hst2, hp]; rfl)))
        refine ⟨⟨by show (0 : Int) ≤ (j : Int); omega, hm⟩, hm', keyOp, fun h5 => leafRC (bad ?_), fun h5 => ⟨fun hh6 => leafRC (bad ?_), fun hh6 => ⟨⟨j + 1, by omega, ?_⟩, show xs.length - (j + 1) < xs.length - j by omega, ⟨⟨rfl, rfl⟩, ⟨rfl, rfl⟩, rfl, rfl, ⟨rfl, rfl⟩, rfl, w3.symm, trivial⟩, sameR _ _, trivial, sameE _ _, ⟨rfl, rfl, rfl, rfl, rfl, rfl, rfl, rfl, rfl, rfl, rfl, rfl, trivial⟩, trivial⟩⟩⟩
        · have h5 : (!decide (oM (gt xs i) (gt xs j) = 0)) = true := h5
          have h5 : ¬ oM (gt xs i) (gt xs j) = 0 := by simpa using h5
          simp [pairB, h5]
        · have hh6 : (!mhas cOp (placesL xs) (oR (gt xs i) (gt xs j))) = true := hh6
          rw [mhas_places] at hh6
          have hh6 : oR (gt xs i) (gt xs j) ∉ xs := by simpa using hh6
          simp [pairB, hh6]
        · have h5 : (!decide (oM (gt xs i) (gt xs j) = 0)) = false := h5
          have hh6 : (!mhas cOp (placesL xs) (oR (gt xs i) (gt xs j))) = false := hh6
          rw [mhas_places] at hh6
          have h5 : oM (gt xs i) (gt xs j) = 0 := by simpa using h5
          have hh6 : oR (gt xs i) (gt xs j) ∈ xs := by simpa using hh6
          show rowB xs (gt xs i) = (xs.drop (j + 1)).all (pairB xs (gt xs i))
          rw [hj2, hst2]
          simp [pairB, h5, hh6]
      · obtain ⟨j, hj1, hj2⟩ := y
        have hm : ¬ (j : Int) < xs.length := of_decide_eq_false hm
        have hj2 : rowB xs (gt xs i) = (xs.drop j).all (pairB xs (gt xs i)) := hj2
        refine ⟨⟨i + 1, by omega, ?_⟩, show xs.length - (i + 1) < xs.length - i by omega, ⟨⟨rfl, rfl⟩, ⟨rfl, rfl⟩, rfl, w2.symm, trivial⟩, sameR _ _, trivial, sameE _ _, trivial⟩
        have hj : j = xs.length := by omega
        rw [hj, List.drop_length] at hj2
        rw [hi2, hst, hj2]
        rfl
    · obtain ⟨i, hi1, hi2⟩ := x
      have hk : ¬ (i : Int) < xs.length := of_decide_eq_false hk
      have hj : i = xs.length := by omega
      rw [hj, List.drop_length] at hi2
      have hcl : closedB xs = true := hi2
      refine leafRC ?_
      rw [checkP, if_neg (by simpa using h), hso, hcl, decide_eq_true hone]
      rfl
def qCheck : RSpec cOp := fun os xs => match os with
  | [] => some (True, I' (checkP xs), [])
  | _ => none
theorem hrCheck : HoldsR P 25 0 cOp qCheck := by
  refine ⟨Tryz.f25, by kernel_rfl, by kernel_rfl, fun os (xs : List OpI) p v hs hq hp hno c => ?_⟩
  match os, hq with
  | [], hq =>
    have := Option.some.inj hq
    simp only [Prod.mk.injEq] at this
    obtain ⟨rfl, rfl, rfl⟩ := this
    exact ⟨100000, annCheck xs, R2, rfl, pR2, callCheck xs c⟩
def R3 : Sums := R2.addSp 25 (rowSpec 0 cOp qCheck)
theorem pR3 : OkS P R3 := pR2.addRow fine hrCheck
end Go.AM
