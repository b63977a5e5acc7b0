import Derived.Test.YtbehdodaaobcdaaGreatDoorA27
import Derived.Test.YtbehdodaaobcdaaGreatDoorA19
import Derived.Test.YtbehdodaaobcdaaGreatDoorA35
import Derived.Test.YtbehdodaaobcdaaGreatDoorA33
import Derived.Lib.ItoaLen
set_option maxHeartbeats 4000000
open Go Go.AM Go.Proofs
namespace Go.AM
open Dist
set_option maxRecDepth 100000
def qFormD : PSpec
  | [.v (.agg [.sym .i64 a, .sym .i64 b, .sym .i64 c, .sym .i64 d, .sym .i64 e, .sym .i64 f, .sym .i64 g, .sym .i64 h, .sym .i64 i])] => .ok (.v (.one (.sym .i64 (matE a b c d e f g h i))))
  | _ => .fail
open IntKind in
theorem nfdform (a b c d e f g h i : Int) (K : KV) : call P (Y6 stdOn) noAnn 10000 Tryz.f69 [.v (.agg [.sym .i64 a, .sym .i64 b, .sym .i64 c, .sym .i64 d, .sym .i64 e, .sym .i64 f, .sym .i64 g, .sym .i64 h, .sym .i64 i])] [] K = ((decide (a<(-1000:Int))=true->K (.v (.one (.con .i64 4))) [])/\(decide (a<(-1000:Int))=false->(decide ((1000:Int)<a)=true->K (.v (.one (.con .i64 4))) [])/\(decide ((1000:Int)<a)=false->(decide (b<(-1000:Int))=true->K (.v (.one (.con .i64 4))) [])/\(decide (b<(-1000:Int))=false->(decide ((1000:Int)<b)=true->K (.v (.one (.con .i64 4))) [])/\(decide ((1000:Int)<b)=false->(decide (c<(-1000:Int))=true->K (.v (.one (.con .i64 4))) [])/\(decide (c<(-1000:Int))=false->(decide ((1000:Int)<c)=true->K (.v (.one (.con .i64 4))) [])/\(decide ((1000:Int)<c)=false->(decide (d<(-1000:Int))=true->K (.v (.one (.con .i64 4))) [])/\(decide (d<(-1000:Int))=false->(decide ((1000:Int)<d)=true->K (.v (.one (.con .i64 4))) [])/\(decide ((1000:Int)<d)=false->(decide (e<(-1000:Int))=true->K (.v (.one (.con .i64 4))) [])/\(decide (e<(-1000:Int))=false->(decide ((1000:Int)<e)=true->K (.v (.one (.con .i64 4))) [])/\(decide ((1000:Int)<e)=false->(decide (f<(-1000:Int))=true->K (.v (.one (.con .i64 4))) [])/\(decide (f<(-1000:Int))=false->(decide ((1000:Int)<f)=true->K (.v (.one (.con .i64 4))) [])/\(decide ((1000:Int)<f)=false->(decide (g<(-1000:Int))=true->K (.v (.one (.con .i64 4))) [])/\(decide (g<(-1000:Int))=false->(decide ((1000:Int)<g)=true->K (.v (.one (.con .i64 4))) [])/\(decide ((1000:Int)<g)=false->(decide (h<(-1000:Int))=true->K (.v (.one (.con .i64 4))) [])/\(decide (h<(-1000:Int))=false->(decide ((1000:Int)<h)=true->K (.v (.one (.con .i64 4))) [])/\(decide ((1000:Int)<h)=false->(decide (i<(-1000:Int))=true->K (.v (.one (.con .i64 4))) [])/\(decide (i<(-1000:Int))=false->(decide ((1000:Int)<i)=true->K (.v (.one (.con .i64 4))) [])/\(decide ((1000:Int)<i)=false->((!decide (i64.wrap (i64.wrap (i64.wrap ((0:Int)+i64.wrap (i64.wrap (i64.wrap (a*e)*i)-i64.wrap (i64.wrap (a*f)*h)))+i64.wrap (i64.wrap (i64.wrap (b*f)*g)-i64.wrap (i64.wrap (b*d)*i)))+i64.wrap (i64.wrap (i64.wrap (c*d)*h)-i64.wrap (i64.wrap (c*e)*g)))=1))=true->((!decide (i64.wrap (i64.wrap (i64.wrap ((0:Int)+i64.wrap (i64.wrap (i64.wrap (a*e)*i)-i64.wrap (i64.wrap (a*f)*h)))+i64.wrap (i64.wrap (i64.wrap (b*f)*g)-i64.wrap (i64.wrap (b*d)*i)))+i64.wrap (i64.wrap (i64.wrap (c*d)*h)-i64.wrap (i64.wrap (c*e)*g)))=(-1:Int)))=true->K (.v (.one (.con .i64 3))) [])/\((!decide (i64.wrap (i64.wrap (i64.wrap ((0:Int)+i64.wrap (i64.wrap (i64.wrap (a*e)*i)-i64.wrap (i64.wrap (a*f)*h)))+i64.wrap (i64.wrap (i64.wrap (b*f)*g)-i64.wrap (i64.wrap (b*d)*i)))+i64.wrap (i64.wrap (i64.wrap (c*d)*h)-i64.wrap (i64.wrap (c*e)*g)))=(-1:Int)))=false->K (.v (.one (.con .i64 0))) []))/\((!decide (i64.wrap (i64.wrap (i64.wrap ((0:Int)+i64.wrap (i64.wrap (i64.wrap (a*e)*i)-i64.wrap (i64.wrap (a*f)*h)))+i64.wrap (i64.wrap (i64.wrap (b*f)*g)-i64.wrap (i64.wrap (b*d)*i)))+i64.wrap (i64.wrap (i64.wrap (c*d)*h)-i64.wrap (i64.wrap (c*e)*g)))=1))=false->K (.v (.one (.con .i64 0))) [])))))))))))))))))))) := by kernel_rfl
def ddet (a b c d e f g h i : Int) : Int := IntKind.i64.wrap (IntKind.i64.wrap (IntKind.i64.wrap ((0 : Int) + IntKind.i64.wrap (IntKind.i64.wrap (IntKind.i64.wrap (a * e) * i) - IntKind.i64.wrap (IntKind.i64.wrap (a * f) * h))) + IntKind.i64.wrap (IntKind.i64.wrap (IntKind.i64.wrap (b * f) * g) - IntKind.i64.wrap (IntKind.i64.wrap (b * d) * i))) + IntKind.i64.wrap (IntKind.i64.wrap (IntKind.i64.wrap (c * d) * h) - IntKind.i64.wrap (IntKind.i64.wrap (c * e) * g)))
theorem ddet_eq {a b c d e f g h i : Int} (ho : over9 a b c d e f g h i = false) : ddet a b c d e f g h i = det9 a b c d e f g h i := by
  rw [det9_id ho]
  obtain ⟨ha, hb, hc, hd, he, hf, hg, hh, hi⟩ := over9_false.1 ho
  have a1 := mul_bd ha he
  have a2 := mul_bd a1 hi
  have a3 := mul_bd ha hf
  have a4 := mul_bd a3 hh
  have b1 := mul_bd hb hf
  have b2 := mul_bd b1 hg
  have b3 := mul_bd hb hd
  have b4 := mul_bd b3 hi
  have c1 := mul_bd hc hd
  have c2 := mul_bd c1 hh
  have c3 := mul_bd hc he
  have c4 := mul_bd c3 hg
  unfold ddet
  rw [wr_id (n := a * e) (by omega) (by omega), wr_id (n := a * e * i) (by omega) (by omega), wr_id (n := a * f) (by omega) (by omega), wr_id (n := a * f * h) (by omega) (by omega), wr_id (n := a * e * i - a * f * h) (by omega) (by omega), wr_id (n := 0 + (a * e * i - a * f * h)) (by omega) (by omega)]
  rw [wr_id (n := b * f) (by omega) (by omega), wr_id (n := b * f * g) (by omega) (by omega), wr_id (n := b * d) (by omega) (by omega), wr_id (n := b * d * i) (by omega) (by omega), wr_id (n := b * f * g - b * d * i) (by omega) (by omega), wr_id (n := 0 + (a * e * i - a * f * h) + (b * f * g - b * d * i)) (by omega) (by omega)]
  rw [wr_id (n := c * d) (by omega) (by omega), wr_id (n := c * d * h) (by omega) (by omega), wr_id (n := c * e) (by omega) (by omega), wr_id (n := c * e * g) (by omega) (by omega), wr_id (n := c * d * h - c * e * g) (by omega) (by omega), wr_id (by omega) (by omega)]
  unfold detI
  grind
theorem hFormD : Holds P (Y6 stdOn) 69 qFormD := by
  refine holdsA (fn := Tryz.f69) noAnn 10000 rfl (by kernel_rfl) (by kernel_rfl) fun args av hg => ?_
  unfold qFormD at hg
  split at hg
  · rename_i a b c d e f g h i
    rw [gives_ok hg]
    refine ⟨rfl, .int .i64 (matE a b c d e f g h i), rfl, ?_⟩
    rw [nfdform]
    have ov : ¬ (B1 a ∧ B1 b ∧ B1 c ∧ B1 d ∧ B1 e ∧ B1 f ∧ B1 g ∧ B1 h ∧ B1 i) → (4 : Int) = matE a b c d e f g h i := fun hn => by
      cases ho : over9 a b c d e f g h i with
      | false => exact absurd (over9_false.1 ho) hn
      | true => rw [matE, if_pos ho]
    have nov : (B1 a ∧ B1 b ∧ B1 c ∧ B1 d ∧ B1 e ∧ B1 f ∧ B1 g ∧ B1 h ∧ B1 i) → matE a b c d e f g h i = (if ddet a b c d e f g h i = 1 then 0 else if ddet a b c d e f g h i = -1 then 0 else 3) := fun hn => by
      have ho := over9_false.2 hn
      rw [ddet_eq ho, matE, if_neg (by rw [ho]; decide)]
    change _ ∧ _
    rw [show IntKind.i64.wrap (IntKind.i64.wrap (IntKind.i64.wrap ((0 : Int) + IntKind.i64.wrap (IntKind.i64.wrap (IntKind.i64.wrap (a * e) * i) - IntKind.i64.wrap (IntKind.i64.wrap (a * f) * h))) + IntKind.i64.wrap (IntKind.i64.wrap (IntKind.i64.wrap (b * f) * g) - IntKind.i64.wrap (IntKind.i64.wrap (b * d) * i))) + IntKind.i64.wrap (IntKind.i64.wrap (IntKind.i64.wrap (c * d) * h) - IntKind.i64.wrap (IntKind.i64.wrap (c * e) * g))) = ddet a b c d e f g h i from rfl]
    generalize matE a b c d e f g h i = m at *
    generalize ddet a b c d e f g h i = q at *
    unfold B1 at ov nov
    repeat' (first | intro _ | apply And.intro)
    all_goals simp only [decide_eq_true_eq, decide_eq_false_iff_not, Bool.not_eq_true', Bool.not_eq_false'] at *
    all_goals first
      | rfl
      | (refine (leafC (n := 4) (m := m) (ov (by omega))).1)
      | (refine (leafC (n := 0) (m := m) (by rw [nov (by omega)]; first | rw [if_pos (by assumption)] | rw [if_neg (by assumption), if_pos (by assumption)])).1)
      | (refine (leafC (n := 3) (m := m) (by rw [nov (by omega), if_neg (by assumption), if_neg (by assumption)])).1)
  · exact (gives_fail hg).elim
end Go.AM
open Go Go.AM Go.Proofs
namespace Go.AM
open Dist
set_option maxRecDepth 100000
theorem HRel.reread [Glob] {w0 : World} {Sx : Marks} {pl : List Pl} {h : Heap} {w : World} (hR : HRel w0 Sx pl h w) {b T : Nat} {cs cs' : List SV} (hg : h[b]? = some (.row T cs)) (hc : ∀ vs, RL pl cs vs → RL pl cs' vs) : HRel w0 Sx pl (AM.set h b (.row T cs')) w := by
  have hset : ∀ (c : Nat) x, (AM.set h b (.row T cs'))[c]? = some x → (c = b ∧ x = .row T cs') ∨ (c ≠ b ∧ h[c]? = some x) := fun c x hx => by
    by_cases e : b = c
    · subst e
      rw [get_set_same hg] at hx
      exact .inl ⟨rfl, (Option.some.inj hx).symm⟩
    · rw [get_set_other e] at hx
      exact .inr ⟨fun h => e h.symm, hx⟩
  have old : ∀ (c : Nat) x, (AM.set h b (.row T cs'))[c]? = some x → ∃ y, h[c]? = some y ∧ (∀ p, x.alive p = y.alive p) ∧ ∀ p, x.rd p = y.rd p := fun c x hx => by
    rcases hset c x hx with ⟨rfl, rfl⟩ | ⟨_, hx⟩
    · exact ⟨_, hg, fun _ => rfl, fun _ => rfl⟩
    · exact ⟨x, hx, fun _ => rfl, fun _ => rfl⟩
  refine ⟨by rw [set_eq, List.length_set]; exact hR.len, hR.fr, ?_, ?_, ?_, ?_, ?_, hR.rok, hR.drw⟩
  · intro c x q hx hq
    rcases hset c x hx with ⟨rfl, rfl⟩ | ⟨_, hx⟩
    · obtain ⟨vs, h1, h2⟩ := hR.hb c _ q hg hq
      exact ⟨vs, hc vs h1, h2⟩
    · exact hR.hb c x q hx hq
  · intro c q x hq hx ha
    obtain ⟨y, h1, h2, _⟩ := old c x hx
    exact hR.lt c q y hq h1 (by rw [← h2]; exact ha)
  · intro c q x hq hx ha
    obtain ⟨y, h1, h2, _⟩ := old c x hx
    exact hR.own c q y hq h1 (by rw [← h2]; exact ha)
  · intro c d q r x y hq hr hx hy ha hb
    obtain ⟨x', h1, h2, _⟩ := old c x hx
    obtain ⟨y', h3, h4, _⟩ := old d y hy
    exact hR.inj c d q r x' y' hq hr h1 h3 (by rw [← h2]; exact ha) (by rw [← h4]; exact hb)
  · intro c q x hq hx hd
    obtain ⟨y, h1, _, h2⟩ := old c x hx
    exact hR.ro c q y hq h1 (by rw [← h2]; exact hd)
def splitSpec (sp : ASpec) : ASpec := fun args h K => match args with
  | .v (.one (.ptr rb 0)) :: _ => sp args h (fun v h' => match get? h' rb with
    | some (.row T [a, b, c, .sym .i64 p]) => (p < 0 → p = -1 ∧ K v (set h' rb (.row T [a, b, c, .con .i64 (-1)]))) ∧ (0 ≤ p → K v (set h' rb (.row T [a, b, c, .sym .i64 (Int.ofNat p.toNat)])))
    | _ => False)
  | _ => False
theorem OkS.split [Glob] {P : Program} {S : Sums} (h : OkS P S) {f : Nat} {sp : ASpec} (hf : S.spec f = some sp) : OkS P (S.addSp f (splitSpec sp)) := by
  refine ⟨h.pure, ⟨fun g sp' hg => ?_, h.spec.2⟩, fun g sp' hg => ?_⟩
  · by_cases e : g = f
    · subst e
      simp only [Sums.addSp, if_true] at hg
      cases hg
      obtain ⟨hfn, hrun⟩ := h.spec.1 g sp hf
      refine ⟨hfn, fun args hh K hsp w0 Sx pl w vals hR hargs => ?_⟩
      unfold splitSpec at hsp
      split at hsp
      · rename_i rb os
        refine (hrun _ _ _ hsp w0 Sx pl w vals hR hargs).mono ?_
        rintro e w' ⟨v, av, h', pl', rfl, hv, hpe, hR', hK⟩
        split at hK
        · rename_i T a b c p hg
          rw [get?_eq] at hg
          by_cases hp : p < 0
          · obtain ⟨e, hk⟩ := hK.1 hp
            refine ⟨v, av, _, pl', rfl, hv, hpe, hR'.reread hg (fun vs hvs => ?_), hk⟩
            match vs, hvs with
            | [_, _, _, _], hvs => exact ⟨hvs.1, hvs.2.1, hvs.2.2.1, hvs.2.2.2.1.imp (fun h => by cases h) (fun h => by subst e; exact h), trivial⟩
          · have hp : 0 ≤ p := by omega
            refine ⟨v, av, _, pl', rfl, hv, hpe, hR'.reread hg (fun vs hvs => ?_), hK.2 hp⟩
            have e : p = Int.ofNat p.toNat := (Int.toNat_of_nonneg hp).symm
            rw [← e]
            exact hvs
        · exact hK.elim
      · exact hsp.elim
    · simp only [Sums.addSp, if_neg e] at hg
      exact h.spec.1 g sp' hg
  · by_cases e : g = f
    · subst e
      simp only [Sums.addSp, if_true] at hg
      cases hg
      intro args hh K K' hK hx
      unfold splitSpec at hx ⊢
      split at hx
      · refine h.mono g sp hf _ _ _ _ (fun v h' hk => ?_) hx
        split at hk
        · exact ⟨fun hp => ⟨(hk.1 hp).1, hK _ _ (hk.1 hp).2⟩, fun hp => hK _ _ (hk.2 hp)⟩
        · exact hk.elim
      · exact hx.elim
    · simp only [Sums.addSp, if_neg e] at hg
      exact h.mono g sp' hg
def qRowN : ASpec := stSpec 120 158 dtkC qRowD
def qTakN : ASpec := stSpec 120 158 dtkC qTakeD
def qFraN : ASpec := stSpec 120 158 dtkC qFracD
def Z7 (o : OnB) : Sums := ((((Z6 o).add 69 qFormD).addSp 68 (splitSpec qRowN)).addSp 67 (splitSpec qTakN)).addSp 130 (splitSpec qFraN)
theorem pZ7 (o : OnB) : OkS P (Z7 o) := ((((pZ6 o).add1 fine (pY6 stdOn) hFormD).split (f := 68) (sp := qRowN) rfl).split (f := 67) (sp := qTakN) rfl).split (f := 130) (sp := qFraN) rfl
end Go.AM
open Go Go.AM Go.Proofs
namespace Go.AM
end Go.AM
open Go Go.AM Go.Proofs
namespace Go.AM
open Dist
set_option maxRecDepth 100000
end Go.AM
open Go Go.AM Go.Proofs
namespace Go.AM
open Dist
set_option maxRecDepth 100000
end Go.AM
open Go Go.AM Go.Proofs
namespace Go.AM
open Dist
theorem atoi_digs {s : List UInt8} {u : Nat} (h : digs s) (hd : Lib.decFrom 0 s = some u) : Lib.atoi s = some (u : Int) := by
  obtain ⟨h1, h2⟩ := h
  cases s with
  | nil => exact absurd rfl h1
  | cons b r =>
    have hb := h2 b (by simp)
    unfold digB at hb
    unfold Lib.atoi
    have e1 : ¬ (b == 45) = true := fun e => by
      have := congrArg UInt8.toNat (eq_of_beq e)
      simp at this
      omega
    have e2 : ¬ (b == 43) = true := fun e => by
      have := congrArg UInt8.toNat (eq_of_beq e)
      simp at this
      omega
    simp only [e1, e2]
    unfold Lib.decNat
    simp only [List.isEmpty_cons, hd]
    rfl
def symB (b : UInt8) : Prop := b = 120 ∨ b = 121 ∨ b = 122 ∨ b = 43 ∨ b = 45 ∨ b = 44 ∨ b = 47
def bl (n : Nat) : List UInt8 := List.replicate n 32
theorem enc_b {b : UInt8} (h : b.toNat < 128) : encL b.toNat = [b] := by
  rw [enc_ascii (by omega) (by omega)]
  simp
end Go.AM
open Go Go.AM Go.Proofs
namespace Go.AM
open Dist
set_option maxRecDepth 100000
def sub (s : List UInt8) (i j : Nat) : List UInt8 := (s.drop i).take (j - i)
inductive VT (s : List UInt8) : DTok → Tok → Prop
  | num (i j : Nat) : i < j → j ≤ s.length → digs (sub s i j) → VT s ⟨48, i, j⟩ ⟨110, sub s i j, i⟩
  | sym (b : UInt8) (i : Nat) : symB b → VT s ⟨(b.toNat : Int), i, (i : Int) + 1⟩ ⟨kindR b.toNat, [b], i⟩
  | bad (i : Nat) (t : List UInt8) : VT s ⟨0, i, i⟩ ⟨63, t, i⟩
  | fin (n : Nat) : VT s ⟨101, n, n⟩ ⟨46, [], n⟩
def endK (d : DTok) : Prop := d.kind = 0 ∨ d.kind = 101
inductive Rel (s : List UInt8) : List DTok → List Tok → Prop
  | last {d : DTok} {y : Tok} {ys : List Tok} : VT s d y → endK d → Rel s [d] (y :: ys)
  | more {d : DTok} {y : Tok} {ds : List DTok} {ys : List Tok} : VT s d y → ¬ endK d → Rel s ds ys → Rel s (d :: ds) (y :: ys)
theorem step_keep {l l1 : List Tok} {op : Bool} {i r : Int} (h : op = true → l1 ≠ []) : ∃ l2, (stepT (l ++ l1) op i r).1 = l ++ l2 ∧ ((stepT (l ++ l1) op i r).2 = true → l2 ≠ []) := by
  unfold stepT
  split
  · rename_i hd
    have hne := h hd.2
    refine ⟨l1.set (l1.length - 1) ⟨(tk (l ++ l1) ((l ++ l1).length - 1)).kind, (tk (l ++ l1) ((l ++ l1).length - 1)).text ++ encL r, (tk (l ++ l1) ((l ++ l1).length - 1)).pos⟩, ?_, fun _ => ?_⟩
    · have hp : 0 < l1.length := List.length_pos_iff.2 hne
      show (l ++ l1).set _ _ = _
      rw [List.set_append_right _ _ (by simp only [List.length_append]; omega)]
      congr 2
      simp only [List.length_append]
      omega
    · intro e
      have := congrArg List.length e
      simp only [List.length_set, List.length_nil] at this
      exact hne (List.eq_nil_of_length_eq_zero this)
  · split
    · rename_i h32
      refine ⟨l1, rfl, fun hd => ?_⟩
      have := digR_iff.1 hd
      omega
    · exact ⟨l1 ++ [⟨kindR r, encL r, i⟩], by simp, fun _ => by simp⟩
theorem toks_keep {s : List UInt8} {l : List Tok} : ∀ (m j : Nat) (l1 : List Tok) (op : Bool), (op = true → l1 ≠ []) → ∃ R, toksP s m j (l ++ l1) op = l ++ R
  | 0, j, l1, op, _ => ⟨l1, rfl⟩
  | m + 1, j, l1, op, h => by
    unfold toksP
    split
    · obtain ⟨l2, h1, h2⟩ := step_keep (l := l) (i := j) (r := (runeL s j).1) h
      rw [h1]
      exact toks_keep m _ l2 _ h2
    · exact ⟨l1, rfl⟩
theorem rune_low {s : List UInt8} {pos : Nat} (h : pos < s.length) (ha : bt s pos < 128) : runeL s pos = ((s.getD pos 0).toNat, 1) := by
  have hs : pos < (ByteArray.mk s.toArray).size := by simpa [ByteArray.size] using h
  have e : (ByteArray.mk s.toArray)[pos]'hs = s[pos] := rfl
  have e2 : s.getD pos 0 = s[pos] := by rw [List.getD_eq_getElem?_getD, List.getElem?_eq_getElem h]; rfl
  unfold bt at ha
  show Utf8.decode ⟨s.toArray⟩ pos = _
  rw [decode_ascii _ _ hs (by rw [e, ← e2]; omega), e, e2]
theorem rune_high {s : List UInt8} {pos : Nat} (h : pos < s.length) (ha : 128 ≤ bt s pos) : 128 ≤ (runeL s pos).1 := by
  have hs : pos < (ByteArray.mk s.toArray).size := by simpa [ByteArray.size] using h
  have e : (ByteArray.mk s.toArray)[pos]'hs = s[pos] := rfl
  have e2 : s.getD pos 0 = s[pos] := by rw [List.getD_eq_getElem?_getD, List.getElem?_eq_getElem h]; rfl
  unfold bt at ha
  exact (decode_high _ _ hs (by rw [e, ← e2]; omega)).1
theorem sub_cons {s : List UInt8} {i j : Nat} (hi : i < s.length) (hj : i < j) : sub s i j = s.getD i 0 :: sub s (i + 1) j := by
  unfold sub
  rw [List.drop_eq_getElem_cons hi, show j - i = (j - (i + 1)) + 1 by omega, List.take_succ_cons, List.getD_eq_getElem?_getD, List.getElem?_eq_getElem hi]
  rfl
theorem sub_nil (s : List UInt8) (i : Nat) : sub s i i = [] := by simp [sub]
theorem dEnd_le {s : List UInt8} : ∀ (n j : Nat), j ≤ s.length → j ≤ dEnd s n j ∧ dEnd s n j ≤ s.length
  | 0, j, h => ⟨Nat.le_refl _, h⟩
  | n + 1, j, h => by
    unfold dEnd
    split
    · rename_i hd
      have := dEnd_le n (j + 1) hd.1
      omega
    · exact ⟨Nat.le_refl _, h⟩
theorem dEnd_at {s : List UInt8} : ∀ (n j : Nat), s.length - j ≤ n → j ≤ s.length → s.length ≤ dEnd s n j ∨ digR (bt s (dEnd s n j)) = false
  | 0, j, h, h2 => .inl (by show s.length ≤ j; omega)
  | n + 1, j, h, h2 => by
    unfold dEnd
    split
    · rename_i hd
      exact dEnd_at n (j + 1) (by omega) hd.1
    · rename_i hd
      rcases Nat.lt_or_ge j s.length with h3 | h3
      · refine .inr ?_
        cases h4 : digR (bt s j) with
        | false => rfl
        | true => exact absurd ⟨h3, h4⟩ hd
      · exact .inl h3
theorem tok_digs {s : List UInt8} : ∀ (n m j : Nat) (l : List Tok) (t : List UInt8) (p : Int), s.length - j ≤ n → s.length - j < m → j ≤ s.length →
    ∃ m', s.length - dEnd s n j < m' ∧ toksP s m j (l ++ [⟨110, t, p⟩]) true = toksP s m' (dEnd s n j) (l ++ [⟨110, t ++ sub s j (dEnd s n j), p⟩]) true ∧ ∀ b ∈ sub s j (dEnd s n j), digB b
  | 0, m, j, l, t, p, h1, h2, h3 => ⟨m, h2, by show _ = toksP s m j (l ++ [⟨110, t ++ sub s j j, p⟩]) true; rw [sub_nil, List.append_nil], fun b hb => by rw [show dEnd s 0 j = j from rfl, sub_nil] at hb; cases hb⟩
  | n + 1, m, j, l, t, p, h1, h2, h3 => by
    by_cases hd : j < s.length ∧ digR (bt s j) = true
    · obtain ⟨m, rfl⟩ : ∃ k, m = k + 1 := ⟨m - 1, by omega⟩
      have hb := digR_iff.1 hd.2
      have he := dEnd_le n (j + 1) hd.1
      obtain ⟨m', k1, k2, k3⟩ := tok_digs n m (j + 1) l (t ++ [s.getD j 0]) p (by omega) (by omega) hd.1
      rw [dEnd, if_pos hd, sub_cons hd.1 (by omega)]
      refine ⟨m', k1, ?_, fun b hb2 => ?_⟩
      · rw [toksP, if_pos hd.1, rune_low hd.1 (by omega)]
        have e : stepT (l ++ [(⟨110, t, p⟩ : Tok)]) true j ((s.getD j 0).toNat : Int) = (l ++ [⟨110, t ++ [s.getD j 0], p⟩], true) := by
          unfold stepT
          rw [if_pos ⟨hd.2, rfl⟩, enc_b (by unfold bt at hb; omega)]
          unfold addLast tk
          simp
        rw [e, k2]
        simp
      · rcases List.mem_cons.1 hb2 with e | hb2
        · subst e
          unfold bt at hb
          unfold digB
          omega
        · exact k3 b hb2
    · rw [dEnd, if_neg hd]
      exact ⟨m, h2, by rw [sub_nil, List.append_nil], fun b hb => by rw [sub_nil] at hb; cases hb⟩
theorem symR_B {b : UInt8} (h : symR b.toNat = true) : symB b := by
  unfold symR at h
  simp only [Bool.or_eq_true, decide_eq_true_eq] at h
  unfold symB
  rcases h with h | h | h | h | h | h | h
  · exact .inl (UInt8.toNat_inj.1 (by show b.toNat = 120; omega))
  · exact .inr (.inl (UInt8.toNat_inj.1 (by show b.toNat = 121; omega)))
  · exact .inr (.inr (.inl (UInt8.toNat_inj.1 (by show b.toNat = 122; omega))))
  · exact .inr (.inr (.inr (.inl (UInt8.toNat_inj.1 (by show b.toNat = 43; omega)))))
  · exact .inr (.inr (.inr (.inr (.inl (UInt8.toNat_inj.1 (by show b.toNat = 45; omega))))))
  · exact .inr (.inr (.inr (.inr (.inr (.inl (UInt8.toNat_inj.1 (by show b.toNat = 44; omega)))))))
  · exact .inr (.inr (.inr (.inr (.inr (.inr (UInt8.toNat_inj.1 (by show b.toNat = 47; omega)))))))
theorem symB_end {b : UInt8} (h : symB b) (i j : Int) : ¬ endK ⟨(b.toNat : Int), i, j⟩ := by
  have h9 : (b.toNat : Int) ≠ 0 ∧ (b.toNat : Int) ≠ 101 := by rcases h with e | e | e | e | e | e | e <;> subst e <;> decide
  exact fun h => h.elim h9.1 h9.2
theorem endK48 (i j : Int) : ¬ endK ⟨48, i, j⟩ := fun h => h.elim (fun h => absurd (show (48 : Int) = 0 from h) (by decide)) (fun h => absurd (show (48 : Int) = 101 from h) (by decide))
theorem kind_bad {r : Int} (h1 : digR r = false) (h2 : symR r = false) : kindR r = 63 := by
  unfold symR at h2
  simp only [Bool.or_eq_false_iff, decide_eq_false_iff_not] at h2
  unfold kindR
  rw [if_neg (by rw [h1]; decide), if_neg (by omega), if_neg (by omega), if_neg (by omega)]
theorem toks_bad {s : List UInt8} {m i : Nat} {l : List Tok} {op : Bool} (hi : i < s.length) (h32 : ((runeL s i).1 : Int) ≠ 32) (hd : digR (runeL s i).1 = false) (hs : symR (runeL s i).1 = false) : ∃ t R, toksP s (m + 1) i l op = l ++ (⟨63, t, i⟩ :: R) := by
  rw [toksP, if_pos hi]
  have e : stepT l op i ((runeL s i).1 : Int) = (l ++ [⟨63, encL (runeL s i).1, i⟩], false) := by
    unfold stepT
    rw [if_neg (by rw [hd]; simp), if_neg h32, hd, kind_bad hd hs]
  rw [e]
  obtain ⟨R, hR⟩ := toks_keep (s := s) (l := l ++ [⟨63, encL (runeL s i).1, (i : Int)⟩]) m (i + (runeL s i).2) [] false (by simp)
  rw [List.append_nil] at hR
  exact ⟨encL (runeL s i).1, R, by rw [hR]; simp⟩
theorem sub_digs {s : List UInt8} {i j : Nat} (h : i < j) (hj : j ≤ s.length) (hb : ∀ b ∈ sub s i j, digB b) : digs (sub s i j) := by
  refine ⟨fun e => ?_, hb⟩
  have := congrArg List.length e
  simp only [sub, List.length_take, List.length_drop, List.length_nil] at this
  omega
theorem rel_toks {s : List UInt8} : ∀ (n m i : Nat) (l : List Tok) (op : Bool), s.length - i < n → s.length - i < m → i ≤ s.length → (op = true → s.length ≤ i ∨ digR (bt s i) = false) →
    ∃ R, toksP s m i l op = l ++ R ∧ Rel s (dtP s n i) (R ++ [⟨46, [], s.length⟩])
  | 0, m, i, l, op, h1, _, _, _ => by omega
  | n + 1, m, i, l, op, h1, h2, h3, h4 => by
    obtain ⟨m, rfl⟩ : ∃ k, m = k + 1 := ⟨m - 1, by omega⟩
    by_cases hi : i < s.length
    · rcases Int.lt_or_le (bt s i) 128 with hb | hb
      · have hr := rune_low hi hb
        have hbn : (s.getD i 0).toNat < 128 := by unfold bt at hb; omega
        rw [dtP, if_pos hi]
        by_cases h32 : bt s i = 32
        · rw [if_pos h32]
          obtain ⟨R, k1, k2⟩ := rel_toks n m (i + 1) l false (by omega) (by omega) hi (by simp)
          refine ⟨R, ?_, k2⟩
          rw [toksP, if_pos hi, hr]
          have e : stepT l op i ((s.getD i 0).toNat : Int) = (l, false) := by
            have h32 : ((s.getD i 0).toNat : Int) = 32 := h32
            rw [h32]
            unfold stepT
            rw [if_neg (by rintro ⟨h, _⟩; exact absurd (digR_iff.1 h) (by decide)), if_pos rfl]
            rfl
          rw [e]
          exact k1
        · rw [if_neg h32]
          by_cases hd : digR (bt s i) = true
          · rw [if_pos hd]
            have hop : op = false := by
              cases op with
              | false => rfl
              | true =>
                rcases h4 rfl with h | h
                · omega
                · rw [hd] at h; cases h
            subst hop
            obtain ⟨k, hk⟩ : ∃ k, s.length = k + 1 := ⟨s.length - 1, by omega⟩
            have he : dEnd s s.length i = dEnd s k (i + 1) := by rw [hk]; exact dEnd_step hi hd
            have hle := dEnd_le k (i + 1) hi
            have hat := dEnd_at k (i + 1) (by omega) hi
            rw [he]
            obtain ⟨m', q1, q2, q3⟩ := tok_digs k m (i + 1) l [s.getD i 0] i (by omega) (by omega) hi
            have hsub := sub_cons hi (show i < dEnd s k (i + 1) by omega)
            obtain ⟨R, k1, k2⟩ := rel_toks n m' (dEnd s k (i + 1)) (l ++ [⟨110, sub s i (dEnd s k (i + 1)), i⟩]) true (by omega) q1 hle.2 (fun _ => hat)
            refine ⟨⟨110, sub s i (dEnd s k (i + 1)), i⟩ :: R, ?_, .more (.num i (dEnd s k (i + 1)) (by omega) hle.2 (sub_digs (by omega) hle.2 ?_)) (endK48 _ _) k2⟩
            · rw [toksP, if_pos hi, hr]
              have e : stepT l false i ((s.getD i 0).toNat : Int) = (l ++ [⟨110, [s.getD i 0], i⟩], true) := by
                have hd : digR ((s.getD i 0).toNat : Int) = true := hd
                have h32 : ¬ ((s.getD i 0).toNat : Int) = 32 := h32
                unfold stepT
                rw [if_neg (by simp), if_neg h32, enc_b hbn, hd]
                unfold kindR
                rw [if_pos hd]
              rw [e]
              rw [hsub] at k1
              refine q2.trans ?_
              rw [show [s.getD i 0] ++ sub s (i + 1) (dEnd s k (i + 1)) = s.getD i 0 :: sub s (i + 1) (dEnd s k (i + 1)) from rfl, k1, hsub]
              simp
            · rw [hsub]
              intro b hb2
              rcases List.mem_cons.1 hb2 with e | hb2
              · subst e
                have := digR_iff.1 hd
                unfold bt at this
                unfold digB
                omega
              · exact q3 b hb2
          · rw [if_neg hd]
            have hd : digR (bt s i) = false := by simpa using hd
            by_cases hs : symR (bt s i) = true
            · rw [if_pos hs]
              have hsb := symR_B hs
              obtain ⟨R, k1, k2⟩ := rel_toks n m (i + 1) (l ++ [⟨kindR (s.getD i 0).toNat, [s.getD i 0], i⟩]) false (by omega) (by omega) hi (by simp)
              refine ⟨⟨kindR (s.getD i 0).toNat, [s.getD i 0], i⟩ :: R, ?_, .more (.sym _ i hsb) (symB_end hsb _ _) k2⟩
              rw [toksP, if_pos hi, hr]
              have e : stepT l op i ((s.getD i 0).toNat : Int) = (l ++ [⟨kindR (s.getD i 0).toNat, [s.getD i 0], i⟩], false) := by
                have hd : digR ((s.getD i 0).toNat : Int) = false := hd
                have h32 : ¬ ((s.getD i 0).toNat : Int) = 32 := h32
                unfold stepT
                rw [if_neg (by rw [hd]; simp), if_neg h32, enc_b hbn, hd]
              rw [e]
              refine k1.trans ?_
              simp
            · rw [if_neg hs]
              have hs : symR (bt s i) = false := by simpa using hs
              obtain ⟨t, R, hR⟩ := toks_bad (m := m) (l := l) (op := op) hi (by rw [hr]; exact h32) (by rw [hr]; exact hd) (by rw [hr]; exact hs)
              exact ⟨_, hR, .last (.bad i t) (.inl rfl)⟩
      · have hr := rune_high hi hb
        have d1 : ∀ r : Int, 128 ≤ r → digR r = false := fun r h => by
          cases h9 : digR r with
          | false => rfl
          | true => have := digR_iff.1 h9; omega
        have d2 : ∀ r : Int, 128 ≤ r → symR r = false := fun r h => by
          unfold symR
          simp only [Bool.or_eq_false_iff, decide_eq_false_iff_not]
          omega
        rw [dtP, if_pos hi, if_neg (by omega), if_neg (by rw [d1 _ hb]; decide), if_neg (by rw [d2 _ hb]; decide)]
        obtain ⟨t, R, hR⟩ := toks_bad (m := m) (l := l) (op := op) hi (by omega) (d1 _ (by omega)) (d2 _ (by omega))
        exact ⟨_, hR, .last (.bad i t) (.inl rfl)⟩
    · have : i = s.length := by omega
      subst this
      rw [dtP, if_neg hi, toksP, if_neg hi]
      exact ⟨[], by simp, .last (.fin _) (.inr rfl)⟩
theorem rel_all (s : List UInt8) : Rel s (dtoks s) (toks s) := by
  obtain ⟨R, h1, h2⟩ := rel_toks (s := s) (s.length + 1) (s.length + 1) 0 [] false (by omega) (by omega) (by omega) (by simp)
  unfold dtoks toks
  rw [h1]
  exact h2
theorem rel_at {s : List UInt8} {ds : List DTok} {ys : List Tok} (h : Rel s ds ys) : 0 < ds.length ∧ ds.length ≤ ys.length ∧ ∀ i < ds.length, VT s (ds.getD i ⟨0, 0, 0⟩) (tk ys i) ∧ (i + 1 < ds.length ↔ ¬ endK (ds.getD i ⟨0, 0, 0⟩)) := by
  induction h with
  | last h1 h2 =>
    refine ⟨by simp, by simp, fun i hi => ?_⟩
    have : i = 0 := by simpa using hi
    subst this
    exact ⟨h1, by simp; exact h2⟩
  | @more d y ds ys h1 h2 h3 ih =>
    obtain ⟨g1, g2, g3⟩ := ih
    refine ⟨by simp, by simp only [List.length_cons]; omega, fun i hi => ?_⟩
    cases i with
    | zero => exact ⟨h1, by simp only [List.length_cons]; exact ⟨fun _ => h2, fun _ => by omega⟩⟩
    | succ i =>
      obtain ⟨k1, k2⟩ := g3 i (by simp only [List.length_cons] at hi; omega)
      refine ⟨?_, ?_⟩
      · unfold tk at k1 ⊢
        rw [List.getD_cons_succ, List.getD_cons_succ]
        exact k1
      · rw [List.getD_cons_succ, ← k2, List.length_cons]
        omega
end Go.AM
