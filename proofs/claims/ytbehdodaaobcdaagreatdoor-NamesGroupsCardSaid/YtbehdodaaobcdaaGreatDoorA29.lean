import Derived.Test.YtbehdodaaobcdaaGreatDoorA28
set_option maxHeartbeats 4000000
namespace Go.AM
open Go
section
variable {P : Program} {w0 w : World} {Sx : Marks} {pl : List Pl} {h : Heap}
theorem row2_R [Glob] {C : Codec} {xs ys : List C.τ} {p1 p2 : Pl} {M1 M2 : Marks} (n1 : ∀ k, ¬ M1 k) (h1 : HRel w M1 [p1] [.ro 0 C xs] w) (n2 : ∀ k, ¬ M2 k) (h2 : HRel w M2 [p2] [.ro 0 C ys] w) :
    ∃ M : Marks, (∀ k, ¬ M k) ∧ HRel w M [p1, p2] [.ro 0 C xs, .ro 0 C ys] w := by
  have na : ∀ (b : Nat) x (p : Pl), ([.ro 0 C xs, .ro 0 C ys] : Heap)[b]? = some x → x.alive p = false := fun b x p hx => by
    match b, hx with
    | 0, hx => simp at hx; subst hx; rfl
    | 1, hx => simp at hx; subst hx; rfl
    | b + 2, hx => simp at hx
  refine ⟨⟨fun _ => False, fun k => M1.R k ∨ M2.R k⟩, fun k h => h, rfl, ⟨rfl, rfl, rfl, Nat.le_refl _, fun _ _ _ => rfl⟩, ?_, fun b p x _ hx ha => (by rw [na b x p hx] at ha; cases ha), fun b p x _ hx ha => (by rw [na b x p hx] at ha; cases ha),
    fun b c p q x y _ _ hx _ ha => (by rw [na b x p hx] at ha; cases ha), ?_, ⟨fun k hk => ?_, h1.tabw, fun k _ h => h⟩, fun _ => Nat.le_refl _⟩
  · intro b x p hx hp
    match b, hx, hp with
    | 0, hx, hp =>
      simp at hx hp
      subst hx hp
      obtain ⟨vs, k1, k2, k3⟩ := h1.hb 0 _ p1 rfl rfl
      exact ⟨vs, RL_of_low (flat_low xs) k1, k2, k3⟩
    | 1, hx, hp =>
      simp at hx hp
      subst hx hp
      obtain ⟨vs, k1, k2, k3⟩ := h2.hb 0 _ p2 rfl rfl
      exact ⟨vs, RL_of_low (flat_low ys) k1, k2, k3⟩
    | b + 2, hx, hp => simp at hx
  · intro b p x hp hx hd
    match b, hx, hp with
    | 0, hx, hp =>
      simp at hx hp
      subst hx hp
      exact .inl (h1.ro 0 p1 _ rfl rfl hd)
    | 1, hx, hp =>
      simp at hx hp
      subst hx hp
      exact .inr (h2.ro 0 p2 _ rfl rfl hd)
    | b + 2, hx, hp => simp at hx
  · rcases hk with hk | hk
    · exact ⟨(h1.rok.1 k hk).1, fun h => h⟩
    · exact ⟨(h2.rok.1 k hk).1, fun h => h⟩
abbrev RSpec2 (C : Codec) := List C.τ → List C.τ → AV
def row2Spec (C : Codec) (pre : List C.τ → Prop) (q : RSpec2 C) : ASpec := fun args h K => match args with
  | [a1, a2] => (match srcV h a1, srcV h a2 with
    | some ⟨C1, (_, _, pr1, ys1)⟩, some ⟨C2, (_, _, pr2, ys2)⟩ => if decide (C1.esz = C.esz) && decide (C2.esz = C.esz) then
        ∃ zs1 : List C.τ, SameRows C zs1 C1 ys1 ∧ ∃ zs2 : List C.τ, SameRows C zs2 C2 ys2 ∧ (if (q zs1 zs2).below 0 then (pr1 ∧ pr2 ∧ pre zs1) ∧ K (q zs1 zs2) h else False) else False
    | _, _ => False)
  | _ => False
def HoldsR2 [Glob] (P : Program) (f : Nat) (C : Codec) (pre : List C.τ → Prop) (q : RSpec2 C) : Prop :=
  ∃ fn, P.funcs[f]? = some fn ∧ fn.body.isSome = true ∧ ∀ xs ys c1 c2, pre xs → ∃ n A S, A.q = 2 ∧ OkS P S ∧
    CallR P S A n fn [.v (.one (.rs 0 C.esz xs.length c1)), .v (.one (.rs 1 C.esz ys.length c2))] [.ro 0 C xs, .ro 0 C ys] (fun v' h' => MatchTo 2 [v'] h' ([q xs ys], [.ro 0 C xs, .ro 0 C ys]))
theorem row2Spec_mono {C : Codec} {pre : List C.τ → Prop} {q : RSpec2 C} {args : List AV} {h : Heap} {K K' : KV} (hK : ∀ v h, K v h → K' v h) (hk : row2Spec C pre q args h K) : row2Spec C pre q args h K' := by
  unfold row2Spec at hk ⊢
  split at hk
  · split at hk
    · split at hk
      · rename_i hc
        rw [if_pos hc]
        obtain ⟨zs1, k1, zs2, k2, hk⟩ := hk
        refine ⟨zs1, k1, zs2, k2, ?_⟩
        split at hk
        · rename_i hb; rw [if_pos hb]; exact ⟨hk.1, hK _ _ hk.2⟩
        · exact hk.elim
      · exact hk.elim
    · exact hk.elim
  · exact hk.elim
theorem OkS.addRow2 [Glob] (hF : Fine P) {S : Sums} (h : OkS P S) {f : Nat} {C : Codec} {pre : List C.τ → Prop} {q : RSpec2 C} (hq : HoldsR2 P f C pre q) : OkS P (S.addSp f (row2Spec C pre q)) := by
  refine ⟨h.pure, ⟨fun g sp hg => ?_, h.spec.2⟩, fun g sp hg => ?_⟩
  · by_cases e : g = f
    · subst e
      simp only [Sums.addSp, if_true] at hg
      cases hg
      obtain ⟨fn, hf, hfb, hp⟩ := hq
      refine ⟨⟨fn, hf, hfb⟩, fun args hh K hsp w0 Sx pl w vals hR hargs => ?_⟩
      unfold row2Spec at hsp
      split at hsp
      · rename_i a1 a2
        split at hsp
        · rename_i _ _ C1 b1 m1 pr1 ys1 C2 b2 m2 pr2 ys2 hs1 hs2
          split at hsp
          · rename_i hc
            simp only [Bool.and_eq_true, decide_eq_true_eq] at hc
            obtain ⟨zs1, z1, zs2, z2, hsp⟩ := hsp
            split at hsp
            · rename_i hlow
              obtain ⟨⟨hp1, hp2, hp3⟩, hK⟩ := hsp
              obtain ⟨v1, v2, rfl⟩ : ∃ v1 v2, vals = [v1, v2] := by
                match vals, hargs.length with
                | [a, b], _ => exact ⟨a, b, rfl⟩
              obtain ⟨ad1, c1, us1, k1, k2, k3, k4, k5, k6⟩ := srcV_R hR hargs.1 hs1 hp1
              obtain ⟨ad2, c2, us2, l1, l2, l3, l4, l5, l6⟩ := srcV_R hR hargs.2.1 hs2 hp2
              have e1 : zs1.length = m1 := by rw [z1.hl', k3]
              have e2 : zs2.length = m2 := by rw [z2.hl', l3]
              obtain ⟨p1, M1, n1, r1, w1⟩ := row_R (w := w) (pl := pl) hR.tabw (same_R z1 k2) (fun hn => List.eq_nil_of_length_eq_zero (by rw [e1]; exact (k5 hn).1)) k6
              obtain ⟨p2, M2, n2, r2, w2⟩ := row_R (w := w) (pl := pl) hR.tabw (same_R z2 l2) (fun hn => List.eq_nil_of_length_eq_zero (by rw [e2]; exact (l5 hn).1)) l6
              obtain ⟨M, hM, hR2⟩ := row2_R n1 r1 n2 r2
              obtain ⟨n, A, S0, hA, hS0, hc2⟩ := hp zs1 zs2 c1 c2 hp3
              have g1 := w1 m1 c1 k5
              have g2 := w2 m2 c2 l5
              have hargs1 : ArgsR [p1, p2] [.v (.one (.rs 0 C.esz zs1.length c1)), .v (.one (.rs 1 C.esz zs2.length c2))] [v1, v2] := by
                refine ⟨.inr ?_, .inr ?_, trivial⟩
                · rw [e1, k1]; exact g1
                · rw [e2, l1]; exact g2
              refine (call_sound hF hS0.pure hS0.spec hS0.mono hf hc2.out (.inl (by simpa using hA)) hR2 hargs1).mono ?_
              rintro e w' ⟨v', av, h', pl0, rfl, hv0, hpe0, hR0, hmt⟩
              rw [MatchTo_eq] at hmt
              have hlen1 : 2 ≤ pl0.length := by
                have := hpe0 1 p2 rfl
                have := (List.getElem?_eq_some_iff.1 this).1
                omega
              obtain ⟨pl', hR', hE', _⟩ := MatchBy_sound hmt hR0 (tmps := #[v']) ⟨rfl, fun t => by
                cases t with
                | zero => simpa [getD, Array.getD] using hv0
                | succ t => exact any_R pl0 _⟩ hlen1
              have hv' : (q zs1 zs2).R pl' v' := by simpa [getD, Array.getD] using hE'.2 0
              have hfr : Fr w (fun _ => False) w' := ⟨hR'.fr.os, hR'.fr.tape, hR'.fr.output, hR'.fr.size, fun k hk _ => hR'.fr.block k hk (hM k)⟩
              have h0 := AV.R_take (n := 0) hlow hv'
              simp at h0
              exact ⟨v', q zs1 zs2, hh, pl, rfl, h0.ext (fun b p hb => by simp at hb), PExt.refl pl, hR.later hfr hR'.drw, hK⟩
            · exact hsp.elim
          · exact hsp.elim
        · exact hsp.elim
      · exact hsp.elim
    · simp only [Sums.addSp, if_neg e] at hg
      exact h.spec.1 g sp hg
  · by_cases e : g = f
    · subst e
      simp only [Sums.addSp, if_true] at hg
      cases hg
      intro args hh K K' hK hx
      exact row2Spec_mono hK hx
    · simp only [Sums.addSp, if_neg e] at hg
      exact h.mono g sp hg
end
end Go.AM
open Go Go.AM Go.Proofs
namespace Go.AM
open Dist
def annEq (xs ys : List OpI) : Annos := ⟨2, fun id env h =>
  if id = 4 then forceE (keepS [0, 1, 12, 13] 0 env) fun env => some ⟨{ i : Nat // i ≤ xs.length ∧ xs.length = ys.length ∧ (xs = ys ↔ xs.drop i = ys.drop i) }, fun i => (set env 13 (I' (i.1 : Int)), headH 2 h), fun i => xs.length - i.1⟩
  else none, fun _ _ _ => []⟩
end Go.AM
open Go Go.AM Go.Proofs
namespace Go.AM
open Dist
set_option maxRecDepth 100000
def eqNF (xs ys : List OpI) (c1 c2 : Nat) : Prop := (((!decide ((↑xs.length:Int)=(↑ys.length:Int)))=true->(decide (xs=ys)=false/\True)/\SameRows cOp xs cOp xs/\SameRows cOp ys cOp ys/\True)/\((!decide ((↑xs.length:Int)=(↑ys.length:Int)))=false->(∃ (z : { i:Nat//i<=xs.length/\xs.length=ys.length/\(xs=ys ↔ List.drop i xs=List.drop i ys) }),((xs.length=xs.length/\c1=c1)/\(ys.length=ys.length/\c2=c2)/\(↑xs.length:Int)=(↑xs.length:Int)/\(↑z.1:Int)=0/\True)/\SameRows cOp xs cOp xs/\SameRows cOp ys cOp ys/\True)/\∀ (x : { i:Nat//i<=xs.length/\xs.length=ys.length/\(xs=ys ↔ List.drop i xs=List.drop i ys) }),(decide ((↑x.1:Int)<(↑xs.length:Int))=true->((0:Int)<=(↑x.1:Int)/\(↑x.1:Int)<(↑xs.length:Int))/\(↑x.1:Int).toNat.succ.le xs.length/\((0:Int)<=(↑x.1:Int)/\(↑x.1:Int)<(↑ys.length:Int))/\(↑x.1:Int).toNat.succ.le ys.length/\((!(decide ((gt xs x.1).a=(gt ys x.1).a)&&(decide ((gt xs x.1).b=(gt ys x.1).b)&&(decide ((gt xs x.1).c=(gt ys x.1).c)&&true))&&(decide ((gt xs x.1).d=(gt ys x.1).d)&&(decide ((gt xs x.1).e=(gt ys x.1).e)&&(decide ((gt xs x.1).f=(gt ys x.1).f)&&true))&&(decide ((gt xs x.1).g=(gt ys x.1).g)&&(decide ((gt xs x.1).h=(gt ys x.1).h)&&(decide ((gt xs x.1).i=(gt ys x.1).i)&&true))&&true))&&(decide ((gt xs x.1).x=(gt ys x.1).x)&&(decide ((gt xs x.1).y=(gt ys x.1).y)&&(decide ((gt xs x.1).z=(gt ys x.1).z)&&true))&&true)))=true->(decide (xs=ys)=false/\True)/\SameRows cOp xs cOp xs/\SameRows cOp ys cOp ys/\True)/\((!(decide ((gt xs x.1).a=(gt ys x.1).a)&&(decide ((gt xs x.1).b=(gt ys x.1).b)&&(decide ((gt xs x.1).c=(gt ys x.1).c)&&true))&&(decide ((gt xs x.1).d=(gt ys x.1).d)&&(decide ((gt xs x.1).e=(gt ys x.1).e)&&(decide ((gt xs x.1).f=(gt ys x.1).f)&&true))&&(decide ((gt xs x.1).g=(gt ys x.1).g)&&(decide ((gt xs x.1).h=(gt ys x.1).h)&&(decide ((gt xs x.1).i=(gt ys x.1).i)&&true))&&true))&&(decide ((gt xs x.1).x=(gt ys x.1).x)&&(decide ((gt xs x.1).y=(gt ys x.1).y)&&(decide ((gt xs x.1).z=(gt ys x.1).z)&&true))&&true)))=false->∃ (z : { i:Nat//i<=xs.length/\xs.length=ys.length/\(xs=ys ↔ List.drop i xs=List.drop i ys) }),(xs.length-z.1).succ.le (xs.length-x.1)/\((xs.length=xs.length/\c1=c1)/\(ys.length=ys.length/\c2=c2)/\(↑xs.length:Int)=(↑xs.length:Int)/\(↑z.1:Int)=IntKind.i64.wrap ((↑x.1:Int)+1)/\True)/\SameRows cOp xs cOp xs/\SameRows cOp ys cOp ys/\True))/\(decide ((↑x.1:Int)<(↑xs.length:Int))=false->(decide (xs=ys)=true/\True)/\SameRows cOp xs cOp xs/\SameRows cOp ys cOp ys/\True)))
theorem nfeqop (xs ys : List OpI) (c1 c2 : Nat) : call P RF (annEq xs ys) 100000 Tryz.f26 [.v (.one (.rs 0 12 xs.length c1)), .v (.one (.rs 1 12 ys.length c2))] [.ro 0 cOp xs, .ro 0 cOp ys] (fun v h => MatchTo 2 [v] h ([.v (.one (.sb (decide (xs = ys))))], [.ro 0 cOp xs, .ro 0 cOp ys])) = eqNF xs ys c1 c2 := by kernel_rfl
theorem nfsame (xs ys : List OpI) (c1 c2 : Nat) : call P RF (annEq xs ys) 100000 Tryz.f14 [.v (.one (.rs 0 12 xs.length c1)), .v (.one (.rs 1 12 ys.length c2))] [.ro 0 cOp xs, .ro 0 cOp ys] (fun v h => MatchTo 2 [v] h ([.v (.one (.sb (decide (xs = ys))))], [.ro 0 cOp xs, .ro 0 cOp ys])) = eqNF xs ys c1 c2 := by kernel_rfl
theorem op12 {o q : OpI} : (decide (o.a = q.a) && (decide (o.b = q.b) && (decide (o.c = q.c) && true)) && (decide (o.d = q.d) && (decide (o.e = q.e) && (decide (o.f = q.f) && true)) && (decide (o.g = q.g) && (decide (o.h = q.h) && (decide (o.i = q.i) && true)) && true)) && (decide (o.x = q.x) && (decide (o.y = q.y) && (decide (o.z = q.z) && true)) && true)) = decide (o = q) := by
  rw [Bool.eq_iff_iff]
  simp only [Bool.and_eq_true, decide_eq_true_eq, and_true, and_assoc]
  constructor
  · rintro ⟨ha, hb, hc, hd, he, hf, hg, hh, hi, hx, hy, hz⟩
    exact OpI.ext' ha hb hc hd he hf hg hh hi hx hy hz
  · rintro rfl
    simp
theorem eq_nf {xs ys : List OpI} {c1 c2 : Nat} (hb : xs.length < 4611686018427387904) : eqNF xs ys c1 c2 := by
  unfold eqNF
  refine ⟨fun h => ⟨⟨?_, trivial⟩, sameR _ _, sameR _ _, trivial⟩, fun h => ?_⟩
  · refine decide_eq_false fun e => ?_
    subst e
    simp at h
  have hl : xs.length = ys.length := by
    have : (xs.length : Int) = ys.length := by simpa using h
    omega
  refine ⟨⟨⟨0, Nat.zero_le _, hl, Iff.rfl⟩, ⟨⟨rfl, rfl⟩, ⟨rfl, rfl⟩, rfl, rfl, trivial⟩, sameR _ _, sameR _ _, trivial⟩, fun x => ⟨fun hk => ?_, fun hk => ?_⟩⟩
  · obtain ⟨i, h1, _, h2⟩ := x
    have hk : (i : Int) < xs.length := of_decide_eq_true hk
    have hk' : i < xs.length := by omega
    rw [drop_gt hk', drop_gt (show i < ys.length by omega)] at h2
    refine ⟨⟨by show (0 : Int) ≤ (i : Int); omega, hk⟩, hk', ⟨by show (0 : Int) ≤ (i : Int); omega, by show (i : Int) < (ys.length : Int); omega⟩, by show i < ys.length; omega, fun hn => ?_, fun hn => ?_⟩
    · rw [op12] at hn
      have hn : gt xs i ≠ gt ys i := by simpa using hn
      refine ⟨⟨decide_eq_false fun e => hn ?_, trivial⟩, sameR _ _, sameR _ _, trivial⟩
      have := h2.1 e
      injection this
    · rw [op12] at hn
      have hn : gt xs i = gt ys i := by simpa using hn
      have w3 := wr_id (n := (i : Int) + 1) (by omega) (by omega)
      exact ⟨⟨i + 1, hk', hl, h2.trans ⟨fun e => by injection e, fun e => by rw [hn, e]⟩⟩, show xs.length - (i + 1) < xs.length - i by omega, ⟨⟨rfl, rfl⟩, ⟨rfl, rfl⟩, rfl, w3.symm, trivial⟩, sameR _ _, sameR _ _, trivial⟩
  · obtain ⟨i, h1, _, h2⟩ := x
    have hk : ¬ (i : Int) < xs.length := of_decide_eq_false hk
    refine ⟨⟨decide_eq_true (h2.2 ?_), trivial⟩, sameR _ _, sameR _ _, trivial⟩
    rw [List.drop_of_length_le (by omega), List.drop_of_length_le (by omega)]
def preEq (xs : List OpI) : Prop := xs.length < 4611686018427387904
def qEq (xs ys : List OpI) : AV := .v (.one (.sb (decide (xs = ys))))
theorem callEqop (xs ys : List OpI) (c1 c2 : Nat) (hb : preEq xs) : CallR P RF (annEq xs ys) 100000 Tryz.f26 [.v (.one (.rs 0 12 xs.length c1)), .v (.one (.rs 1 12 ys.length c2))] [.ro 0 cOp xs, .ro 0 cOp ys] (fun v h => MatchTo 2 [v] h ([qEq xs ys], [.ro 0 cOp xs, .ro 0 cOp ys])) :=
  ⟨(nfeqop xs ys c1 c2).mpr (eq_nf hb)⟩
theorem hEqop : HoldsR2 P 26 cOp preEq qEq := ⟨_, Tryz.func26, by kernel_rfl, fun xs ys c1 c2 hb => ⟨100000, annEq xs ys, RF, rfl, pRF, callEqop xs ys c1 c2 hb⟩⟩
theorem callSame (xs ys : List OpI) (c1 c2 : Nat) (hb : preEq xs) : CallR P RF (annEq xs ys) 100000 Tryz.f14 [.v (.one (.rs 0 12 xs.length c1)), .v (.one (.rs 1 12 ys.length c2))] [.ro 0 cOp xs, .ro 0 cOp ys] (fun v h => MatchTo 2 [v] h ([qEq xs ys], [.ro 0 cOp xs, .ro 0 cOp ys])) :=
  ⟨(nfsame xs ys c1 c2).mpr (eq_nf hb)⟩
theorem hSame : HoldsR2 P 14 cOp preEq qEq := ⟨_, Tryz.func14, by kernel_rfl, fun xs ys c1 c2 hb => ⟨100000, annEq xs ys, RF, rfl, pRF, callSame xs ys c1 c2 hb⟩⟩
def RG0 : Sums := RF.addSp 26 (row2Spec cOp preEq qEq)
theorem pRG0 : OkS P RG0 := pRF.addRow2 fine hEqop
def RG1 : Sums := RG0.addSp 14 (row2Spec cOp preEq qEq)
theorem pRG1 : OkS P RG1 := pRG0.addRow2 fine hSame
def RG : Sums := RG1.addSp 25 (rowSpecL 0 cOp qCheck)
theorem pRG : OkS P RG := pRG1.addRowL fine hrCheck
end Go.AM
namespace Go.AM
open Dist
set_option maxRecDepth 1000000
set_option maxHeartbeats 0
def cl2 : List OpI := [⟨1,0,0,0,1,0,0,0,1,0,0,0⟩,⟨1,0,0,0,1,0,0,0,1,0,12,12⟩,⟨1,0,0,0,1,0,0,0,1,12,0,12⟩,⟨-1,0,0,0,-1,0,0,0,1,18,6,12⟩,⟨-1,0,0,0,1,0,0,0,-1,6,12,18⟩,⟨0,0,1,1,0,0,0,1,0,0,0,0⟩,⟨0,1,0,1,0,0,0,0,-1,18,6,12⟩,⟨-1,0,0,0,-1,0,0,0,-1,0,0,0⟩,⟨1,0,0,0,1,0,0,0,1,12,12,0⟩,⟨-1,0,0,0,-1,0,0,0,1,18,18,0⟩,⟨-1,0,0,0,1,0,0,0,-1,6,0,6⟩,⟨0,0,1,1,0,0,0,1,0,12,0,12⟩,⟨0,1,0,1,0,0,0,0,-1,6,6,0⟩,⟨-1,0,0,0,-1,0,0,0,-1,0,12,12⟩,⟨-1,0,0,0,-1,0,0,0,1,6,6,0⟩,⟨-1,0,0,0,1,0,0,0,-1,18,12,6⟩,⟨0,0,1,1,0,0,0,1,0,12,12,0⟩,⟨0,1,0,1,0,0,0,0,-1,18,18,0⟩,⟨-1,0,0,0,-1,0,0,0,-1,12,0,12⟩,⟨1,0,0,0,-1,0,0,0,-1,12,18,6⟩,⟨0,0,1,-1,0,0,0,-1,0,12,18,6⟩,⟨0,-1,0,-1,0,0,0,0,-1,0,0,0⟩,⟨1,0,0,0,1,0,0,0,-1,6,18,12⟩,⟨0,0,-1,-1,0,0,0,1,0,18,6,12⟩,⟨0,1,0,-1,0,0,0,0,1,6,12,18⟩,⟨1,0,0,0,-1,0,0,0,1,18,12,6⟩,⟨0,0,1,1,0,0,0,1,0,0,12,12⟩,⟨0,0,-1,1,0,0,0,-1,0,6,12,18⟩,⟨0,1,0,0,0,1,1,0,0,0,0,0⟩,⟨1,0,0,0,0,1,0,-1,0,18,6,12⟩,⟨0,0,-1,-1,0,0,0,-1,0,0,0,0⟩,⟨0,-1,0,1,0,0,0,0,1,12,18,6⟩,⟨0,0,-1,0,1,0,1,0,0,12,18,6⟩,⟨0,-1,0,-1,0,0,0,0,1,6,18,12⟩,⟨1,0,0,0,1,0,0,0,-1,18,6,12⟩,⟨1,0,0,0,-1,0,0,0,1,6,12,18⟩,⟨0,-1,0,-1,0,0,0,0,1,18,6,12⟩,⟨-1,0,0,0,-1,0,0,0,1,6,18,12⟩,⟨-1,0,0,0,1,0,0,0,-1,18,0,18⟩,⟨0,1,0,1,0,0,0,0,-1,6,18,12⟩,⟨-1,0,0,0,-1,0,0,0,-1,12,12,0⟩,⟨1,0,0,0,-1,0,0,0,-1,12,6,18⟩,⟨0,0,1,-1,0,0,0,-1,0,0,18,18⟩,⟨0,-1,0,-1,0,0,0,0,-1,12,0,12⟩,⟨1,0,0,0,1,0,0,0,-1,6,6,0⟩,⟨0,0,-1,-1,0,0,0,1,0,6,6,0⟩,⟨0,1,0,-1,0,0,0,0,1,18,12,6⟩,⟨1,0,0,0,-1,0,0,0,1,18,0,18⟩,⟨0,0,-1,1,0,0,0,-1,0,18,12,6⟩,⟨0,1,0,0,0,1,1,0,0,12,12,0⟩,⟨1,0,0,0,0,1,0,-1,0,18,18,0⟩,⟨0,0,-1,-1,0,0,0,-1,0,12,0,12⟩,⟨0,-1,0,1,0,0,0,0,1,0,18,18⟩,⟨0,0,-1,0,1,0,1,0,0,0,6,6⟩,⟨0,-1,0,-1,0,0,0,0,1,18,18,0⟩,⟨1,0,0,0,1,0,0,0,-1,18,18,0⟩,⟨1,0,0,0,-1,0,0,0,1,6,0,6⟩,⟨0,-1,0,-1,0,0,0,0,1,6,6,0⟩,⟨1,0,0,0,-1,0,0,0,-1,0,18,18⟩,⟨0,0,1,-1,0,0,0,-1,0,0,6,6⟩,⟨0,-1,0,-1,0,0,0,0,-1,0,12,12⟩,⟨0,0,-1,-1,0,0,0,1,0,6,18,12⟩,⟨0,1,0,-1,0,0,0,0,1,6,0,6⟩,⟨0,0,-1,1,0,0,0,-1,0,18,0,18⟩,⟨0,1,0,0,0,1,1,0,0,0,12,12⟩,⟨1,0,0,0,0,1,0,-1,0,6,18,12⟩,⟨0,0,-1,-1,0,0,0,-1,0,12,12,0⟩,⟨0,-1,0,1,0,0,0,0,1,12,6,18⟩,⟨0,0,-1,0,1,0,1,0,0,0,18,18⟩,⟨-1,0,0,0,1,0,0,0,1,12,6,18⟩,⟨0,0,1,-1,0,0,0,-1,0,12,6,18⟩,⟨0,-1,0,0,0,1,-1,0,0,6,12,18⟩,⟨-1,0,0,0,0,1,0,1,0,12,18,6⟩,⟨0,0,-1,1,0,0,0,1,0,12,6,18⟩,⟨0,0,-1,0,-1,0,-1,0,0,0,0,0⟩,⟨0,1,0,1,0,0,0,0,1,0,0,0⟩,⟨-1,0,0,0,1,0,0,0,1,0,6,6⟩,⟨0,1,0,1,0,0,0,0,1,12,12,0⟩,⟨0,0,-1,-1,0,0,0,1,0,18,18,0⟩,⟨0,1,0,0,0,-1,-1,0,0,12,18,6⟩,⟨-1,0,0,0,0,-1,0,-1,0,0,0,0⟩,⟨0,0,1,1,0,0,0,-1,0,6,18,12⟩,⟨0,0,1,0,1,0,-1,0,0,18,6,12⟩,⟨0,-1,0,1,0,0,0,0,-1,18,12,6⟩,⟨-1,0,0,0,1,0,0,0,1,0,18,18⟩,⟨0,-1,0,1,0,0,0,0,-1,6,0,6⟩,⟨0,0,-1,1,0,0,0,-1,0,6,0,6⟩,⟨0,1,0,0,0,1,1,0,0,12,0,12⟩,⟨1,0,0,0,0,1,0,-1,0,6,6,0⟩,⟨0,0,-1,-1,0,0,0,-1,0,0,12,12⟩,⟨0,-1,0,0,0,-1,1,0,0,18,6,12⟩,⟨1,0,0,0,0,-1,0,1,0,6,12,18⟩,⟨0,0,1,-1,0,0,0,1,0,18,12,6⟩,⟨0,-1,0,0,0,-1,-1,0,0,0,0,0⟩,⟨-1,0,0,0,0,-1,0,1,0,6,18,12⟩,⟨0,0,1,1,0,0,0,-1,0,18,6,12⟩,⟨0,0,1,-1,0,0,0,1,0,6,12,18⟩,⟨-1,0,0,0,0,-1,0,1,0,18,6,12⟩,⟨0,0,1,0,-1,0,1,0,0,6,12,18⟩,⟨0,1,0,-1,0,0,0,0,-1,12,6,18⟩,⟨0,0,-1,0,1,0,1,0,0,12,6,18⟩,⟨0,0,1,0,-1,0,-1,0,0,12,6,18⟩,⟨0,1,0,-1,0,0,0,0,-1,0,6,6⟩,⟨-1,0,0,0,1,0,0,0,1,12,18,6⟩,⟨0,0,-1,1,0,0,0,1,0,12,18,6⟩,⟨0,-1,0,1,0,0,0,0,-1,6,12,18⟩,⟨0,1,0,-1,0,0,0,0,-1,12,18,6⟩,⟨0,0,1,0,-1,0,-1,0,0,12,18,6⟩,⟨1,0,0,0,-1,0,0,0,-1,0,6,6⟩,⟨0,-1,0,-1,0,0,0,0,-1,12,12,0⟩,⟨0,1,0,-1,0,0,0,0,1,18,0,18⟩,⟨0,-1,0,1,0,0,0,0,1,0,6,6⟩,⟨0,-1,0,0,0,1,-1,0,0,18,0,18⟩,⟨-1,0,0,0,0,1,0,1,0,12,6,18⟩,⟨0,0,-1,1,0,0,0,1,0,0,6,6⟩,⟨0,0,-1,0,-1,0,-1,0,0,12,12,0⟩,⟨0,1,0,1,0,0,0,0,1,12,0,12⟩,⟨0,1,0,1,0,0,0,0,1,0,12,12⟩,⟨0,1,0,0,0,-1,-1,0,0,0,6,6⟩,⟨-1,0,0,0,0,-1,0,-1,0,0,12,12⟩,⟨0,0,1,1,0,0,0,-1,0,18,18,0⟩,⟨0,0,1,0,1,0,-1,0,0,6,18,12⟩,⟨0,-1,0,1,0,0,0,0,-1,18,0,18⟩,⟨0,-1,0,0,0,-1,1,0,0,6,18,12⟩,⟨1,0,0,0,0,-1,0,1,0,6,0,6⟩,⟨0,-1,0,0,0,-1,-1,0,0,12,12,0⟩,⟨-1,0,0,0,0,-1,0,1,0,6,6,0⟩,⟨0,0,1,1,0,0,0,-1,0,6,6,0⟩,⟨-1,0,0,0,0,-1,0,1,0,18,18,0⟩,⟨0,0,1,0,-1,0,1,0,0,18,0,18⟩,⟨0,0,1,0,-1,0,-1,0,0,0,18,18⟩,⟨0,0,-1,1,0,0,0,1,0,0,18,18⟩,⟨0,1,0,-1,0,0,0,0,-1,0,18,18⟩,⟨0,0,1,0,-1,0,-1,0,0,0,6,6⟩,⟨0,-1,0,0,0,1,-1,0,0,6,0,6⟩,⟨-1,0,0,0,0,1,0,1,0,0,6,6⟩,⟨0,0,-1,0,-1,0,-1,0,0,12,0,12⟩,⟨0,1,0,0,0,-1,-1,0,0,12,6,18⟩,⟨-1,0,0,0,0,-1,0,-1,0,12,12,0⟩,⟨0,0,1,0,1,0,-1,0,0,6,6,0⟩,⟨0,-1,0,0,0,-1,1,0,0,18,18,0⟩,⟨1,0,0,0,0,-1,0,1,0,18,0,18⟩,⟨0,0,1,-1,0,0,0,1,0,6,0,6⟩,⟨0,-1,0,0,0,-1,-1,0,0,0,12,12⟩,⟨0,0,1,-1,0,0,0,1,0,18,0,18⟩,⟨0,0,1,0,-1,0,1,0,0,18,12,6⟩,⟨0,-1,0,0,0,1,-1,0,0,18,12,6⟩,⟨-1,0,0,0,0,1,0,1,0,0,18,18⟩,⟨0,1,0,0,0,-1,1,0,0,18,12,6⟩,⟨1,0,0,0,0,-1,0,-1,0,12,6,18⟩,⟨1,0,0,0,0,-1,0,-1,0,0,18,18⟩,⟨0,0,-1,0,-1,0,-1,0,0,0,12,12⟩,⟨0,0,1,0,1,0,1,0,0,0,0,0⟩,⟨0,0,1,0,1,0,1,0,0,0,12,12⟩,⟨0,1,0,0,0,-1,-1,0,0,0,18,18⟩,⟨-1,0,0,0,0,-1,0,-1,0,12,0,12⟩,⟨0,-1,0,0,0,1,1,0,0,12,6,18⟩,⟨1,0,0,0,0,1,0,1,0,0,0,0⟩,⟨1,0,0,0,0,1,0,1,0,12,12,0⟩,⟨0,0,1,0,1,0,-1,0,0,18,18,0⟩,⟨0,0,-1,0,-1,0,1,0,0,6,18,12⟩,⟨0,0,-1,0,-1,0,1,0,0,6,6,0⟩,⟨0,-1,0,0,0,-1,1,0,0,6,6,0⟩,⟨1,0,0,0,0,-1,0,1,0,18,12,6⟩,⟨0,-1,0,0,0,-1,-1,0,0,12,0,12⟩,⟨0,1,0,0,0,1,-1,0,0,6,18,12⟩,⟨-1,0,0,0,0,1,0,-1,0,18,12,6⟩,⟨-1,0,0,0,0,1,0,-1,0,6,0,6⟩,⟨0,1,0,0,0,1,-1,0,0,18,6,12⟩,⟨0,1,0,0,0,-1,1,0,0,6,12,18⟩,⟨0,0,-1,0,-1,0,1,0,0,18,6,12⟩,⟨1,0,0,0,0,-1,0,-1,0,0,6,6⟩,⟨0,-1,0,0,0,1,1,0,0,12,18,6⟩,⟨-1,0,0,0,0,1,0,-1,0,6,12,18⟩,⟨1,0,0,0,0,-1,0,-1,0,12,18,6⟩,⟨0,0,1,0,-1,0,1,0,0,6,0,6⟩,⟨0,0,-1,0,1,0,-1,0,0,18,12,6⟩,⟨0,0,-1,0,1,0,-1,0,0,6,0,6⟩,⟨0,0,-1,0,-1,0,1,0,0,18,18,0⟩,⟨0,-1,0,0,0,1,1,0,0,0,18,18⟩,⟨0,0,-1,0,1,0,-1,0,0,6,12,18⟩,⟨0,1,0,0,0,-1,1,0,0,6,0,6⟩,⟨0,0,1,0,1,0,1,0,0,12,12,0⟩,⟨0,0,1,0,1,0,1,0,0,12,0,12⟩,⟨1,0,0,0,0,1,0,1,0,0,12,12⟩,⟨1,0,0,0,0,1,0,1,0,12,0,12⟩,⟨-1,0,0,0,0,1,0,-1,0,18,0,18⟩,⟨0,1,0,0,0,-1,1,0,0,18,0,18⟩,⟨0,-1,0,0,0,1,1,0,0,0,6,6⟩,⟨0,0,-1,0,1,0,-1,0,0,18,0,18⟩,⟨0,1,0,0,0,1,-1,0,0,6,6,0⟩,⟨0,1,0,0,0,1,-1,0,0,18,18,0⟩]
theorem cl2_eq : closeL km2 = some cl2 := by kernel_rfl
theorem km2_ok : mapsE km2 = 0 := by kernel_rfl
end Go.AM
namespace Go.AM
open Dist
set_option maxRecDepth 1000000
set_option maxHeartbeats 0
def cl4 : List OpI := [⟨1,0,0,0,1,0,0,0,1,0,0,0⟩,⟨1,0,0,0,1,0,0,0,1,0,12,12⟩,⟨1,0,0,0,1,0,0,0,1,12,0,12⟩,⟨-1,0,0,0,-1,0,0,0,1,0,0,0⟩,⟨-1,0,0,0,1,0,0,0,-1,0,0,0⟩,⟨0,0,1,1,0,0,0,1,0,0,0,0⟩,⟨0,1,0,1,0,0,0,0,-1,0,0,0⟩,⟨-1,0,0,0,-1,0,0,0,-1,0,0,0⟩,⟨1,0,0,0,1,0,0,0,1,12,12,0⟩,⟨-1,0,0,0,-1,0,0,0,1,0,12,12⟩,⟨-1,0,0,0,1,0,0,0,-1,0,12,12⟩,⟨0,0,1,1,0,0,0,1,0,12,0,12⟩,⟨0,1,0,1,0,0,0,0,-1,12,0,12⟩,⟨-1,0,0,0,-1,0,0,0,-1,0,12,12⟩,⟨-1,0,0,0,-1,0,0,0,1,12,0,12⟩,⟨-1,0,0,0,1,0,0,0,-1,12,0,12⟩,⟨0,0,1,1,0,0,0,1,0,12,12,0⟩,⟨0,1,0,1,0,0,0,0,-1,0,12,12⟩,⟨-1,0,0,0,-1,0,0,0,-1,12,0,12⟩,⟨1,0,0,0,-1,0,0,0,-1,0,0,0⟩,⟨0,0,1,-1,0,0,0,-1,0,0,0,0⟩,⟨0,-1,0,-1,0,0,0,0,-1,0,0,0⟩,⟨1,0,0,0,1,0,0,0,-1,0,0,0⟩,⟨0,0,-1,-1,0,0,0,1,0,0,0,0⟩,⟨0,1,0,-1,0,0,0,0,1,0,0,0⟩,⟨1,0,0,0,-1,0,0,0,1,0,0,0⟩,⟨0,0,1,1,0,0,0,1,0,0,12,12⟩,⟨0,0,-1,1,0,0,0,-1,0,0,0,0⟩,⟨0,1,0,0,0,1,1,0,0,0,0,0⟩,⟨1,0,0,0,0,1,0,-1,0,0,0,0⟩,⟨0,0,-1,-1,0,0,0,-1,0,0,0,0⟩,⟨0,-1,0,1,0,0,0,0,1,0,0,0⟩,⟨0,0,-1,0,1,0,1,0,0,0,0,0⟩,⟨0,-1,0,-1,0,0,0,0,1,0,0,0⟩,⟨-1,0,0,0,-1,0,0,0,1,12,12,0⟩,⟨-1,0,0,0,1,0,0,0,-1,12,12,0⟩,⟨0,1,0,1,0,0,0,0,-1,12,12,0⟩,⟨-1,0,0,0,-1,0,0,0,-1,12,12,0⟩,⟨1,0,0,0,-1,0,0,0,-1,0,12,12⟩,⟨0,0,1,-1,0,0,0,-1,0,12,0,12⟩,⟨0,-1,0,-1,0,0,0,0,-1,12,0,12⟩,⟨1,0,0,0,1,0,0,0,-1,0,12,12⟩,⟨0,0,-1,-1,0,0,0,1,0,12,0,12⟩,⟨0,1,0,-1,0,0,0,0,1,12,0,12⟩,⟨1,0,0,0,-1,0,0,0,1,0,12,12⟩,⟨0,0,-1,1,0,0,0,-1,0,12,0,12⟩,⟨0,1,0,0,0,1,1,0,0,12,12,0⟩,⟨1,0,0,0,0,1,0,-1,0,0,12,12⟩,⟨0,0,-1,-1,0,0,0,-1,0,12,0,12⟩,⟨0,-1,0,1,0,0,0,0,1,12,0,12⟩,⟨0,0,-1,0,1,0,1,0,0,12,12,0⟩,⟨0,-1,0,-1,0,0,0,0,1,12,0,12⟩,⟨1,0,0,0,-1,0,0,0,-1,12,0,12⟩,⟨0,0,1,-1,0,0,0,-1,0,12,12,0⟩,⟨0,-1,0,-1,0,0,0,0,-1,0,12,12⟩,⟨1,0,0,0,1,0,0,0,-1,12,0,12⟩,⟨0,0,-1,-1,0,0,0,1,0,12,12,0⟩,⟨0,1,0,-1,0,0,0,0,1,0,12,12⟩,⟨1,0,0,0,-1,0,0,0,1,12,0,12⟩,⟨0,0,-1,1,0,0,0,-1,0,12,12,0⟩,⟨0,1,0,0,0,1,1,0,0,0,12,12⟩,⟨1,0,0,0,0,1,0,-1,0,12,12,0⟩,⟨0,0,-1,-1,0,0,0,-1,0,12,12,0⟩,⟨0,-1,0,1,0,0,0,0,1,0,12,12⟩,⟨0,0,-1,0,1,0,1,0,0,12,0,12⟩,⟨0,-1,0,-1,0,0,0,0,1,0,12,12⟩,⟨-1,0,0,0,1,0,0,0,1,0,0,0⟩,⟨0,0,1,-1,0,0,0,-1,0,0,12,12⟩,⟨0,-1,0,0,0,1,-1,0,0,0,0,0⟩,⟨-1,0,0,0,0,1,0,1,0,0,0,0⟩,⟨0,0,-1,1,0,0,0,1,0,0,0,0⟩,⟨0,0,-1,0,-1,0,-1,0,0,0,0,0⟩,⟨0,1,0,1,0,0,0,0,1,0,0,0⟩,⟨0,0,-1,-1,0,0,0,1,0,0,12,12⟩,⟨0,1,0,0,0,-1,-1,0,0,0,0,0⟩,⟨-1,0,0,0,0,-1,0,-1,0,0,0,0⟩,⟨0,0,1,1,0,0,0,-1,0,0,0,0⟩,⟨0,0,1,0,1,0,-1,0,0,0,0,0⟩,⟨0,-1,0,1,0,0,0,0,-1,0,0,0⟩,⟨0,0,-1,1,0,0,0,-1,0,0,12,12⟩,⟨0,1,0,0,0,1,1,0,0,12,0,12⟩,⟨1,0,0,0,0,1,0,-1,0,12,0,12⟩,⟨0,0,-1,-1,0,0,0,-1,0,0,12,12⟩,⟨0,-1,0,0,0,-1,1,0,0,0,0,0⟩,⟨1,0,0,0,0,-1,0,1,0,0,0,0⟩,⟨0,0,1,-1,0,0,0,1,0,0,0,0⟩,⟨0,-1,0,0,0,-1,-1,0,0,0,0,0⟩,⟨-1,0,0,0,0,-1,0,1,0,0,0,0⟩,⟨0,0,1,0,-1,0,1,0,0,0,0,0⟩,⟨0,1,0,-1,0,0,0,0,-1,0,0,0⟩,⟨0,0,-1,0,1,0,1,0,0,0,12,12⟩,⟨0,0,1,0,-1,0,-1,0,0,0,0,0⟩,⟨1,0,0,0,-1,0,0,0,-1,12,12,0⟩,⟨0,-1,0,-1,0,0,0,0,-1,12,12,0⟩,⟨1,0,0,0,1,0,0,0,-1,12,12,0⟩,⟨0,1,0,-1,0,0,0,0,1,12,12,0⟩,⟨1,0,0,0,-1,0,0,0,1,12,12,0⟩,⟨0,-1,0,1,0,0,0,0,1,12,12,0⟩,⟨0,-1,0,-1,0,0,0,0,1,12,12,0⟩,⟨-1,0,0,0,1,0,0,0,1,0,12,12⟩,⟨0,-1,0,0,0,1,-1,0,0,12,12,0⟩,⟨-1,0,0,0,0,1,0,1,0,0,12,12⟩,⟨0,0,-1,1,0,0,0,1,0,12,0,12⟩,⟨0,0,-1,0,-1,0,-1,0,0,12,12,0⟩,⟨0,1,0,1,0,0,0,0,1,12,0,12⟩,⟨0,1,0,0,0,-1,-1,0,0,12,12,0⟩,⟨-1,0,0,0,0,-1,0,-1,0,0,12,12⟩,⟨0,0,1,1,0,0,0,-1,0,12,0,12⟩,⟨0,0,1,0,1,0,-1,0,0,12,12,0⟩,⟨0,-1,0,1,0,0,0,0,-1,12,0,12⟩,⟨0,-1,0,0,0,-1,1,0,0,12,12,0⟩,⟨1,0,0,0,0,-1,0,1,0,0,12,12⟩,⟨0,0,1,-1,0,0,0,1,0,12,0,12⟩,⟨0,-1,0,0,0,-1,-1,0,0,12,12,0⟩,⟨-1,0,0,0,0,-1,0,1,0,0,12,12⟩,⟨0,0,1,0,-1,0,1,0,0,12,12,0⟩,⟨0,1,0,-1,0,0,0,0,-1,12,0,12⟩,⟨0,0,1,0,-1,0,-1,0,0,12,12,0⟩,⟨-1,0,0,0,1,0,0,0,1,12,0,12⟩,⟨0,-1,0,0,0,1,-1,0,0,0,12,12⟩,⟨-1,0,0,0,0,1,0,1,0,12,12,0⟩,⟨0,0,-1,1,0,0,0,1,0,12,12,0⟩,⟨0,0,-1,0,-1,0,-1,0,0,12,0,12⟩,⟨0,1,0,1,0,0,0,0,1,0,12,12⟩,⟨0,1,0,0,0,-1,-1,0,0,0,12,12⟩,⟨-1,0,0,0,0,-1,0,-1,0,12,12,0⟩,⟨0,0,1,1,0,0,0,-1,0,12,12,0⟩,⟨0,0,1,0,1,0,-1,0,0,12,0,12⟩,⟨0,-1,0,1,0,0,0,0,-1,0,12,12⟩,⟨0,-1,0,0,0,-1,1,0,0,0,12,12⟩,⟨1,0,0,0,0,-1,0,1,0,12,12,0⟩,⟨0,0,1,-1,0,0,0,1,0,12,12,0⟩,⟨0,-1,0,0,0,-1,-1,0,0,0,12,12⟩,⟨-1,0,0,0,0,-1,0,1,0,12,12,0⟩,⟨0,0,1,0,-1,0,1,0,0,12,0,12⟩,⟨0,1,0,-1,0,0,0,0,-1,0,12,12⟩,⟨0,0,1,0,-1,0,-1,0,0,12,0,12⟩,⟨0,-1,0,0,0,1,-1,0,0,12,0,12⟩,⟨-1,0,0,0,0,1,0,1,0,12,0,12⟩,⟨0,0,-1,1,0,0,0,1,0,0,12,12⟩,⟨0,1,0,0,0,-1,1,0,0,0,0,0⟩,⟨1,0,0,0,0,-1,0,-1,0,0,0,0⟩,⟨0,0,-1,0,-1,0,-1,0,0,0,12,12⟩,⟨0,0,1,0,1,0,1,0,0,0,0,0⟩,⟨0,1,0,0,0,-1,-1,0,0,12,0,12⟩,⟨-1,0,0,0,0,-1,0,-1,0,12,0,12⟩,⟨0,0,1,1,0,0,0,-1,0,0,12,12⟩,⟨0,-1,0,0,0,1,1,0,0,0,0,0⟩,⟨1,0,0,0,0,1,0,1,0,0,0,0⟩,⟨0,0,1,0,1,0,-1,0,0,0,12,12⟩,⟨0,0,-1,0,-1,0,1,0,0,0,0,0⟩,⟨0,-1,0,0,0,-1,1,0,0,12,0,12⟩,⟨1,0,0,0,0,-1,0,1,0,12,0,12⟩,⟨0,0,1,-1,0,0,0,1,0,0,12,12⟩,⟨0,-1,0,0,0,-1,-1,0,0,12,0,12⟩,⟨-1,0,0,0,0,-1,0,1,0,12,0,12⟩,⟨0,1,0,0,0,1,-1,0,0,0,0,0⟩,⟨-1,0,0,0,0,1,0,-1,0,0,0,0⟩,⟨0,0,1,0,-1,0,1,0,0,0,12,12⟩,⟨0,0,-1,0,1,0,-1,0,0,0,0,0⟩,⟨0,0,1,0,-1,0,-1,0,0,0,12,12⟩,⟨-1,0,0,0,1,0,0,0,1,12,12,0⟩,⟨0,1,0,1,0,0,0,0,1,12,12,0⟩,⟨0,-1,0,1,0,0,0,0,-1,12,12,0⟩,⟨0,1,0,-1,0,0,0,0,-1,12,12,0⟩,⟨0,1,0,0,0,-1,1,0,0,12,12,0⟩,⟨1,0,0,0,0,-1,0,-1,0,0,12,12⟩,⟨0,0,1,0,1,0,1,0,0,12,12,0⟩,⟨0,-1,0,0,0,1,1,0,0,12,12,0⟩,⟨1,0,0,0,0,1,0,1,0,0,12,12⟩,⟨0,0,-1,0,-1,0,1,0,0,12,12,0⟩,⟨0,1,0,0,0,1,-1,0,0,12,12,0⟩,⟨-1,0,0,0,0,1,0,-1,0,0,12,12⟩,⟨0,0,-1,0,1,0,-1,0,0,12,12,0⟩,⟨0,1,0,0,0,-1,1,0,0,0,12,12⟩,⟨1,0,0,0,0,-1,0,-1,0,12,12,0⟩,⟨0,0,1,0,1,0,1,0,0,12,0,12⟩,⟨0,-1,0,0,0,1,1,0,0,0,12,12⟩,⟨1,0,0,0,0,1,0,1,0,12,12,0⟩,⟨0,0,-1,0,-1,0,1,0,0,12,0,12⟩,⟨0,1,0,0,0,1,-1,0,0,0,12,12⟩,⟨-1,0,0,0,0,1,0,-1,0,12,12,0⟩,⟨0,0,-1,0,1,0,-1,0,0,12,0,12⟩,⟨0,1,0,0,0,-1,1,0,0,12,0,12⟩,⟨1,0,0,0,0,-1,0,-1,0,12,0,12⟩,⟨0,0,1,0,1,0,1,0,0,0,12,12⟩,⟨0,-1,0,0,0,1,1,0,0,12,0,12⟩,⟨1,0,0,0,0,1,0,1,0,12,0,12⟩,⟨0,0,-1,0,-1,0,1,0,0,0,12,12⟩,⟨0,1,0,0,0,1,-1,0,0,12,0,12⟩,⟨-1,0,0,0,0,1,0,-1,0,12,0,12⟩,⟨0,0,-1,0,1,0,-1,0,0,0,12,12⟩]
theorem cl4_eq : closeL km4 = some cl4 := by kernel_rfl
theorem km4_ok : mapsE km4 = 0 := by kernel_rfl
end Go.AM
