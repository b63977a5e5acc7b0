import Derived.Test.YtbehdodaaobcdaaGreatDoorA36
import Derived.Test.YtbehdodaaobcdaaGreatDoorA37
import Derived.Test.YtbehdodaaobcdaaGreatDoorA32
import Derived.Test.YtbehdodaaobcdaaGreatDoorA29
set_option maxHeartbeats 4000000
open Go Go.AM Go.Proofs
namespace Go.AM
open Dist
set_option maxRecDepth 100000
theorem nfdread (s : List UInt8) (K : KV) : call P (Z7 pruneOn) noAnn 10000 Tryz.f42 [.v (.one (.str s))] [] K = (onB (decide ((65536:Int)<(↑s.length:Int))) (K (.tup [.agg [.con .i64 (0:Int),.con .i64 (0:Int),.con .i64 (0:Int),.con .i64 (0:Int),.con .i64 (0:Int),.con .i64 (0:Int),.con .i64 (0:Int),.con .i64 (0:Int),.con .i64 (0:Int),.con .i64 (0:Int),.con .i64 (0:Int),.con .i64 0],.one (.con .i64 0),.one (.con .i64 2)]) []) (s.length.le 65536/\∃ (z:List dtkC.τ),SameRows dtkC z dtkC (dtoks s)/\(((dtoks s).length=z.length/\(0:Int)<=0/\(0:Int)<(↑z.length:Int))/\(-1:Int)=(-1:Int)/\(s.length.le 65536/\z.length.le 4611686018427387904/\∀ (i:Int),(0:Int)<=(dk z i).pos/\((dk z i).kind=48->(0:Int)<=(dk z i).pos/\(dk z i).pos<=(dk z i).next/\(dk z i).next<=(↑s.length:Int)/\∀ (j:Nat),(dk z i).pos.toNat<=j->j<(dk z i).next.toNat->digR (bt s j)=true))/\((dk z ((↑z.length:Int)-1)).kind=0\/(dk z ((↑z.length:Int)-1)).kind=101))/\((dRowF s z ((0:Int))).p<0->(dRowF s z ((0:Int))).p=(-1:Int)/\∃ (z_1:List dtkC.τ),SameRows dtkC z_1 dtkC (dtoks s)/\(z.length=z_1.length/\((0:Int)<=(dRowF s z ((0:Int))).i/\(dRowF s z ((0:Int))).i<(↑z_1.length:Int))/\z_1.length.le 4611686018427387904)/\(dTp z_1 (dRowF s z ((0:Int))).i ((-1:Int)) (44:Int)<0->dTp z_1 (dRowF s z ((0:Int))).i ((-1:Int)) (44:Int)=(-1:Int)/\∃ (z_2:List dtkC.τ),SameRows dtkC z_2 dtkC (dtoks s)/\((z_1.length=z_2.length/\(0:Int)<=dTi z_1 (dRowF s z ((0:Int))).i (44:Int)/\dTi z_1 (dRowF s z ((0:Int))).i (44:Int)<(↑z_2.length:Int))/\(-1:Int)=(-1:Int)/\(s.length.le 65536/\z_2.length.le 4611686018427387904/\∀ (i:Int),(0:Int)<=(dk z_2 i).pos/\((dk z_2 i).kind=48->(0:Int)<=(dk z_2 i).pos/\(dk z_2 i).pos<=(dk z_2 i).next/\(dk z_2 i).next<=(↑s.length:Int)/\∀ (j:Nat),(dk z_2 i).pos.toNat<=j->j<(dk z_2 i).next.toNat->digR (bt s j)=true))/\((dk z_2 ((↑z_2.length:Int)-1)).kind=0\/(dk z_2 ((↑z_2.length:Int)-1)).kind=101))/\((dRowF s z_2 (dTi z_1 (dRowF s z ((0:Int))).i 44)).p<0->(dRowF s z_2 (dTi z_1 (dRowF s z ((0:Int))).i 44)).p=(-1:Int)/\∃ (z_3:List dtkC.τ),SameRows dtkC z_3 dtkC (dtoks s)/\(z_2.length=z_3.length/\((0:Int)<=(dRowF s z_2 (dTi z_1 (dRowF s z ((0:Int))).i 44)).i/\(dRowF s z_2 (dTi z_1 (dRowF s z ((0:Int))).i 44)).i<(↑z_3.length:Int))/\z_3.length.le 4611686018427387904)/\(dTp z_3 (dRowF s z_2 (dTi z_1 (dRowF s z ((0:Int))).i 44)).i ((-1:Int)) (44:Int)<0->dTp z_3 (dRowF s z_2 (dTi z_1 (dRowF s z ((0:Int))).i 44)).i ((-1:Int)) (44:Int)=(-1:Int)/\∃ (z_4:List dtkC.τ),SameRows dtkC z_4 dtkC (dtoks s)/\((z_3.length=z_4.length/\(0:Int)<=dTi z_3 (dRowF s z_2 (dTi z_1 (dRowF s z ((0:Int))).i 44)).i (44:Int)/\dTi z_3 (dRowF s z_2 (dTi z_1 (dRowF s z ((0:Int))).i 44)).i (44:Int)<(↑z_4.length:Int))/\(-1:Int)=(-1:Int)/\(s.length.le 65536/\z_4.length.le 4611686018427387904/\∀ (i:Int),(0:Int)<=(dk z_4 i).pos/\((dk z_4 i).kind=48->(0:Int)<=(dk z_4 i).pos/\(dk z_4 i).pos<=(dk z_4 i).next/\(dk z_4 i).next<=(↑s.length:Int)/\∀ (j:Nat),(dk z_4 i).pos.toNat<=j->j<(dk z_4 i).next.toNat->digR (bt s j)=true))/\((dk z_4 ((↑z_4.length:Int)-1)).kind=0\/(dk z_4 ((↑z_4.length:Int)-1)).kind=101))/\((dRowF s z_4 (dTi z_3 (dRowF s z_2 (dTi z_1 (dRowF s z ((0:Int))).i 44)).i 44)).p<0->(dRowF s z_4 (dTi z_3 (dRowF s z_2 (dTi z_1 (dRowF s z ((0:Int))).i 44)).i 44)).p=(-1:Int)/\∃ (z_5:List dtkC.τ),SameRows dtkC z_5 dtkC (dtoks s)/\(z_4.length=z_5.length/\((0:Int)<=(dRowF s z_4 (dTi z_3 (dRowF s z_2 (dTi z_1 (dRowF s z ((0:Int))).i 44)).i 44)).i/\(dRowF s z_4 (dTi z_3 (dRowF s z_2 (dTi z_1 (dRowF s z ((0:Int))).i 44)).i 44)).i<(↑z_5.length:Int))/\z_5.length.le 4611686018427387904)/\(dTp z_5 (dRowF s z_4 (dTi z_3 (dRowF s z_2 (dTi z_1 (dRowF s z ((0:Int))).i 44)).i 44)).i ((-1:Int)) (101:Int)<0->dTp z_5 (dRowF s z_4 (dTi z_3 (dRowF s z_2 (dTi z_1 (dRowF s z ((0:Int))).i 44)).i 44)).i ((-1:Int)) (101:Int)=(-1:Int)/\onB (!decide (matE (dRowF s z ((0:Int))).e0 (dRowF s z ((0:Int))).e1 (dRowF s z ((0:Int))).e2 (dRowF s z_2 (dTi z_1 (dRowF s z ((0:Int))).i 44)).e0 (dRowF s z_2 (dTi z_1 (dRowF s z ((0:Int))).i 44)).e1 (dRowF s z_2 (dTi z_1 (dRowF s z ((0:Int))).i 44)).e2 (dRowF s z_4 (dTi z_3 (dRowF s z_2 (dTi z_1 (dRowF s z ((0:Int))).i 44)).i 44)).e0 (dRowF s z_4 (dTi z_3 (dRowF s z_2 (dTi z_1 (dRowF s z ((0:Int))).i 44)).i 44)).e1 (dRowF s z_4 (dTi z_3 (dRowF s z_2 (dTi z_1 (dRowF s z ((0:Int))).i 44)).i 44)).e2=0)) (K (.tup [.agg [.con .i64 (0:Int),.con .i64 (0:Int),.con .i64 (0:Int),.con .i64 (0:Int),.con .i64 (0:Int),.con .i64 (0:Int),.con .i64 (0:Int),.con .i64 (0:Int),.con .i64 (0:Int),.con .i64 (0:Int),.con .i64 (0:Int),.con .i64 0],.one (.con .i64 0),.one (.sym .i64 (matE (dRowF s z ((0:Int))).e0 (dRowF s z ((0:Int))).e1 (dRowF s z ((0:Int))).e2 (dRowF s z_2 (dTi z_1 (dRowF s z ((0:Int))).i 44)).e0 (dRowF s z_2 (dTi z_1 (dRowF s z ((0:Int))).i 44)).e1 (dRowF s z_2 (dTi z_1 (dRowF s z ((0:Int))).i 44)).e2 (dRowF s z_4 (dTi z_3 (dRowF s z_2 (dTi z_1 (dRowF s z ((0:Int))).i 44)).i 44)).e0 (dRowF s z_4 (dTi z_3 (dRowF s z_2 (dTi z_1 (dRowF s z ((0:Int))).i 44)).i 44)).e1 (dRowF s z_4 (dTi z_3 (dRowF s z_2 (dTi z_1 (dRowF s z ((0:Int))).i 44)).i 44)).e2))]) []) (K (.tup [.agg [.sym .i64 (dRowF s z ((0:Int))).e0,.sym .i64 (dRowF s z ((0:Int))).e1,.sym .i64 (dRowF s z ((0:Int))).e2,.sym .i64 (dRowF s z_2 (dTi z_1 (dRowF s z ((0:Int))).i 44)).e0,.sym .i64 (dRowF s z_2 (dTi z_1 (dRowF s z ((0:Int))).i 44)).e1,.sym .i64 (dRowF s z_2 (dTi z_1 (dRowF s z ((0:Int))).i 44)).e2,.sym .i64 (dRowF s z_4 (dTi z_3 (dRowF s z_2 (dTi z_1 (dRowF s z ((0:Int))).i 44)).i 44)).e0,.sym .i64 (dRowF s z_4 (dTi z_3 (dRowF s z_2 (dTi z_1 (dRowF s z ((0:Int))).i 44)).i 44)).e1,.sym .i64 (dRowF s z_4 (dTi z_3 (dRowF s z_2 (dTi z_1 (dRowF s z ((0:Int))).i 44)).i 44)).e2,.sym .i64 (md24d (dRowF s z ((0:Int))).part),.sym .i64 (md24d (dRowF s z_2 (dTi z_1 (dRowF s z ((0:Int))).i 44)).part),.sym .i64 (md24d (dRowF s z_4 (dTi z_3 (dRowF s z_2 (dTi z_1 (dRowF s z ((0:Int))).i 44)).i 44)).part)],.one (.con .i64 0),.one (.con .i64 0)]) []))/\((0:Int)<=dTp z_5 (dRowF s z_4 (dTi z_3 (dRowF s z_2 (dTi z_1 (dRowF s z ((0:Int))).i 44)).i 44)).i ((-1:Int)) (101:Int)->K (.tup [.agg [.con .i64 (0:Int),.con .i64 (0:Int),.con .i64 (0:Int),.con .i64 (0:Int),.con .i64 (0:Int),.con .i64 (0:Int),.con .i64 (0:Int),.con .i64 (0:Int),.con .i64 (0:Int),.con .i64 (0:Int),.con .i64 (0:Int),.con .i64 0],.one (.sym .i64 (Int.ofNat (dTp z_5 (dRowF s z_4 (dTi z_3 (dRowF s z_2 (dTi z_1 (dRowF s z ((0:Int))).i 44)).i 44)).i ((-1:Int)) 101).toNat)),.one (.con .i64 12)]) []))/\((0:Int)<=(dRowF s z_4 (dTi z_3 (dRowF s z_2 (dTi z_1 (dRowF s z ((0:Int))).i 44)).i 44)).p->K (.tup [.agg [.con .i64 (0:Int),.con .i64 (0:Int),.con .i64 (0:Int),.con .i64 (0:Int),.con .i64 (0:Int),.con .i64 (0:Int),.con .i64 (0:Int),.con .i64 (0:Int),.con .i64 (0:Int),.con .i64 (0:Int),.con .i64 (0:Int),.con .i64 0],.one (.sym .i64 (Int.ofNat (dRowF s z_4 (dTi z_3 (dRowF s z_2 (dTi z_1 (dRowF s z ((0:Int))).i 44)).i 44)).p.toNat)),.one (.con .i64 12)]) []))/\((0:Int)<=dTp z_3 (dRowF s z_2 (dTi z_1 (dRowF s z ((0:Int))).i 44)).i ((-1:Int)) (44:Int)->K (.tup [.agg [.con .i64 (0:Int),.con .i64 (0:Int),.con .i64 (0:Int),.con .i64 (0:Int),.con .i64 (0:Int),.con .i64 (0:Int),.con .i64 (0:Int),.con .i64 (0:Int),.con .i64 (0:Int),.con .i64 (0:Int),.con .i64 (0:Int),.con .i64 0],.one (.sym .i64 (Int.ofNat (dTp z_3 (dRowF s z_2 (dTi z_1 (dRowF s z ((0:Int))).i 44)).i ((-1:Int)) 44).toNat)),.one (.con .i64 12)]) []))/\((0:Int)<=(dRowF s z_2 (dTi z_1 (dRowF s z ((0:Int))).i 44)).p->K (.tup [.agg [.con .i64 (0:Int),.con .i64 (0:Int),.con .i64 (0:Int),.con .i64 (0:Int),.con .i64 (0:Int),.con .i64 (0:Int),.con .i64 (0:Int),.con .i64 (0:Int),.con .i64 (0:Int),.con .i64 (0:Int),.con .i64 (0:Int),.con .i64 0],.one (.sym .i64 (Int.ofNat (dRowF s z_2 (dTi z_1 (dRowF s z ((0:Int))).i 44)).p.toNat)),.one (.con .i64 12)]) []))/\((0:Int)<=dTp z_1 (dRowF s z ((0:Int))).i ((-1:Int)) (44:Int)->K (.tup [.agg [.con .i64 (0:Int),.con .i64 (0:Int),.con .i64 (0:Int),.con .i64 (0:Int),.con .i64 (0:Int),.con .i64 (0:Int),.con .i64 (0:Int),.con .i64 (0:Int),.con .i64 (0:Int),.con .i64 (0:Int),.con .i64 (0:Int),.con .i64 0],.one (.sym .i64 (Int.ofNat (dTp z_1 (dRowF s z ((0:Int))).i ((-1:Int)) 44).toNat)),.one (.con .i64 12)]) []))/\((0:Int)<=(dRowF s z ((0:Int))).p->K (.tup [.agg [.con .i64 (0:Int),.con .i64 (0:Int),.con .i64 (0:Int),.con .i64 (0:Int),.con .i64 (0:Int),.con .i64 (0:Int),.con .i64 (0:Int),.con .i64 (0:Int),.con .i64 (0:Int),.con .i64 (0:Int),.con .i64 (0:Int),.con .i64 0],.one (.sym .i64 (Int.ofNat (dRowF s z ((0:Int))).p.toNat)),.one (.con .i64 12)]) []))) := by kernel_rfl
theorem md24d_eq (x : Int) : md24d x = x % 24 := by
  unfold md24d
  have h3 := Int.tmod_eq_emod (a := x) (b := 24)
  have h4 : -24 < x.tmod 24 ∧ x.tmod 24 < 24 ∧ (x.tmod 24 - x) % 24 = 0 := by
    split at h3
    · omega
    · simp only [Int.natAbs] at h3
      omega
  generalize x.tmod 24 = y at *
  rw [wr_id (by omega) (by omega), Int.tmod_eq_emod_of_nonneg (by omega)]
  omega
section
variable {s : List UInt8} {ds : List DTok} {ys : List Tok}
theorem Two.expect (t : Two s ds ys) {i : Nat} (hi : i < @List.length DTok ds) {k k' : Int} (hk : (tk ys i).kind = k ↔ (dk ds i).kind = k') :
    (dTp ds i (-1) k' < 0 → dTp ds i (-1) k' = -1 ∧ (tk ys i).kind = k ∧ (dk ds i).kind = k') ∧ (0 ≤ dTp ds i (-1) k' → ¬ (tk ys i).kind = k ∧ dTp ds i (-1) k' = (tk ys i).pos) := by
  obtain ⟨p1, p2⟩ := t.pos hi
  unfold dTp dFail
  by_cases h : (dk ds i).kind = k'
  · rw [if_pos h]
    exact ⟨fun _ => ⟨rfl, hk.2 h, h⟩, fun h => by omega⟩
  · rw [if_neg h, if_pos (by omega), ← p1]
    exact ⟨fun h => by omega, fun _ => ⟨fun e => h (hk.1 e), rfl⟩⟩
theorem Two.last (t : Two s ds ys) : (dk ds ((@List.length DTok ds : Int) - 1)).kind = 0 ∨ (dk ds ((@List.length DTok ds : Int) - 1)).kind = 101 := by
  have h0 := t.h0
  have h := (t.h2 (@List.length DTok ds - 1) (by omega)).2
  have e : ((@List.length DTok ds - 1 : Nat) : Int) = (@List.length DTok ds : Int) - 1 := by omega
  rw [e] at h
  exact Classical.not_not.1 (fun hn => by have := h.2 hn; omega)
end
theorem lfZ {r : Rd} {p : Int} (h0 : 0 ≤ p) (e : r = rdZ p 12) : (AV.tup [PV.agg [SV.con IntKind.i64 (0 : Int), SV.con IntKind.i64 (0 : Int), SV.con IntKind.i64 (0 : Int), SV.con IntKind.i64 (0 : Int), SV.con IntKind.i64 (0 : Int), SV.con IntKind.i64 (0 : Int), SV.con IntKind.i64 (0 : Int), SV.con IntKind.i64 (0 : Int), SV.con IntKind.i64 (0 : Int), SV.con IntKind.i64 (0 : Int), SV.con IntKind.i64 (0 : Int), SV.con IntKind.i64 (0 : Int)], PV.one (SV.sym IntKind.i64 (Int.ofNat p.toNat)), PV.one (SV.con IntKind.i64 (12 : Int))]).valOf = some (rdV r) ∧ ([] : Heap) = [] := by
  subst e
  have : Int.ofNat p.toNat = p := Int.toNat_of_nonneg h0
  rw [this]
  exact ⟨rfl, rfl⟩
theorem RowRel.lt {len : Nat} {R : RR} {D : DR} (h : RowRel len R D) (hp : D.p < 0) : R.fault = -1 ∧ D.p = -1 ∧ R.e0 = D.e0 ∧ R.e1 = D.e1 ∧ R.e2 = D.e2 ∧ R.parts = D.part ∧ D.i = (R.st : Int) ∧ R.st < len := by
  rcases h with ⟨a, b, c, d, e, f, g, h⟩ | ⟨a, b⟩
  · exact ⟨a, b, c, d, e, f, g.symm, h⟩
  · omega
theorem RowRel.ge {len : Nat} {R : RR} {D : DR} (h : RowRel len R D) (hp : 0 ≤ D.p) : 0 ≤ R.fault ∧ D.p = R.fault := by
  rcases h with ⟨a, b, _⟩ | h
  · omega
  · exact h
theorem hDocRead : Holds P (Z7 pruneOn) 42 qRead := by
  refine holdsA (fn := Tryz.f42) noAnn 10000 rfl (by kernel_rfl) (by kernel_rfl) fun args av hg => ?_
  unfold qRead at hg
  split at hg
  · rename_i s
    rw [gives_ok hg]
    refine ⟨rfl, rdV (readF s), rfl, ?_⟩
    rw [nfdread]
    refine (onB_iff _ _ _).2 ⟨fun hl => ?_, fun hl => ?_⟩
    · rw [show readF s = rdZ 0 2 from if_pos (by have := of_decide_eq_true hl; omega)]
      exact ⟨rfl, rfl⟩
    · have hs : s.length ≤ 65536 := by have := of_decide_eq_false hl; omega
      have e : readF s = readT (toks s) := if_neg (by omega)
      have t := two_all hs
      have hb : @List.length DTok (dtoks s) ≤ 4611686018427387904 := Nat.le_trans t.h1 (toks_ok hs).2.2.2
      rw [e]
      generalize toks s = ys at *
      generalize dtoks s = ds at *
      have dok := t.dok hb
      have hend := t.last
      have S := sameT (C := dtkC) ds
      have h0 := t.h0
      have r0 := t.row (i := 0) h0
      have le0 : ∀ n : Nat, (0 : Int) ≤ (n : Int) := fun n => by omega
      have ltn : ∀ {n : Nat}, n < @List.length DTok ds → (n : Int) < (@List.length DTok ds : Int) := fun h => by omega
      refine ⟨hs, ds, S, ⟨⟨rfl, Int.le_refl _, ltn h0⟩, rfl, dok, hend⟩, fun p0 => ?_, fun p0 => ?_⟩
      · obtain ⟨f0, q0, a0, a1, a2, a3, i0, l0⟩ := r0.lt p0
        refine ⟨q0, ?_⟩
        have i0 : (dRowF s ds 0).i = (((row0 ys).st : Nat) : Int) := i0
        have l0 : (row0 ys).st < @List.length DTok ds := l0
        rw [i0]
        obtain ⟨x0, y0⟩ := t.expect l0 (k := 44) (k' := 44) (t.same l0).co
        refine ⟨ds, S, ⟨rfl, ⟨le0 _, ltn l0⟩, hb⟩, fun c0 => ?_, fun c0 => ?_⟩
        · obtain ⟨u0, v0, w0⟩ := x0 c0
          refine ⟨u0, ?_⟩
          obtain ⟨n1, n2, n3⟩ := t.next l0 (not_end w0 (by decide) (by decide))
          have r1 := t.row n3
          rw [← n1] at r1 n2 n3
          have eT : dTi ds (((row0 ys).st : Nat) : Int) 44 = ((nx ys (row0 ys).st : Nat) : Int) := (if_pos w0).trans n2
          rw [eT]
          refine ⟨ds, S, ⟨⟨rfl, le0 _, ltn n3⟩, rfl, dok, hend⟩, fun p1 => ?_, fun p1 => ?_⟩
          · obtain ⟨f1, q1, b0, b1, b2, b3, i1, l1⟩ := r1.lt p1
            refine ⟨q1, ?_⟩
            have i1 : (dRowF s ds ((nx ys (row0 ys).st : Nat) : Int)).i = (((row1 ys).st : Nat) : Int) := i1
            have l1 : (row1 ys).st < @List.length DTok ds := l1
            rw [i1]
            obtain ⟨x1, y1⟩ := t.expect l1 (k := 44) (k' := 44) (t.same l1).co
            refine ⟨ds, S, ⟨rfl, ⟨le0 _, ltn l1⟩, hb⟩, fun c1 => ?_, fun c1 => ?_⟩
            · obtain ⟨u1, v1, w1⟩ := x1 c1
              refine ⟨u1, ?_⟩
              obtain ⟨m1, m2, m3⟩ := t.next l1 (not_end w1 (by decide) (by decide))
              have r2 := t.row m3
              rw [← m1] at r2 m2 m3
              have eT : dTi ds (((row1 ys).st : Nat) : Int) 44 = ((nx ys (row1 ys).st : Nat) : Int) := (if_pos w1).trans m2
              rw [eT]
              refine ⟨ds, S, ⟨⟨rfl, le0 _, ltn m3⟩, rfl, dok, hend⟩, fun p2 => ?_, fun p2 => ?_⟩
              · obtain ⟨f2, q2, d0, d1, d2, d3, i2, l2⟩ := r2.lt p2
                refine ⟨q2, ?_⟩
                have i2 : (dRowF s ds ((nx ys (row1 ys).st : Nat) : Int)).i = (((row2 ys).st : Nat) : Int) := i2
                have l2 : (row2 ys).st < @List.length DTok ds := l2
                rw [i2]
                obtain ⟨x2, y2⟩ := t.expect l2 (k := 46) (k' := 101) (t.same l2).en
                have f0 : ¬ 0 ≤ (row0 ys).fault := by show ¬ 0 ≤ (rowF ys 0).fault; omega
                have f1 : ¬ 0 ≤ (row1 ys).fault := by show ¬ 0 ≤ (rowF ys (nx ys (row0 ys).st)).fault; omega
                have f2 : ¬ 0 ≤ (row2 ys).fault := by show ¬ 0 ≤ (rowF ys (nx ys (row1 ys).st)).fault; omega
                refine ⟨ds, S, ⟨rfl, ⟨le0 _, ltn l2⟩, hb⟩, fun c2 => ?_, fun c2 => ?_⟩
                · obtain ⟨u2, v2, w2⟩ := x2 c2
                  refine ⟨u2, ?_⟩
                  have eR : readT ys = madeR (row0 ys).e0 (row0 ys).e1 (row0 ys).e2 (row1 ys).e0 (row1 ys).e1 (row1 ys).e2 (row2 ys).e0 (row2 ys).e1 (row2 ys).e2 (row0 ys).parts (row1 ys).parts (row2 ys).parts := (if_neg f0).trans ((if_neg (fun h => h v0)).trans ((if_neg f1).trans ((if_neg (fun h => h v1)).trans ((if_neg f2).trans (if_neg (fun h => h v2))))))
                  rw [eR]
                  have g0 : (dRowF s ds 0).e0 = (row0 ys).e0 := a0.symm
                  have g1 : (dRowF s ds 0).e1 = (row0 ys).e1 := a1.symm
                  have g2 : (dRowF s ds 0).e2 = (row0 ys).e2 := a2.symm
                  have g3 : (dRowF s ds 0).part = (row0 ys).parts := a3.symm
                  have g4 : (dRowF s ds ((nx ys (row0 ys).st : Nat) : Int)).e0 = (row1 ys).e0 := b0.symm
                  have g5 : (dRowF s ds ((nx ys (row0 ys).st : Nat) : Int)).e1 = (row1 ys).e1 := b1.symm
                  have g6 : (dRowF s ds ((nx ys (row0 ys).st : Nat) : Int)).e2 = (row1 ys).e2 := b2.symm
                  have g7 : (dRowF s ds ((nx ys (row0 ys).st : Nat) : Int)).part = (row1 ys).parts := b3.symm
                  have g8 : (dRowF s ds ((nx ys (row1 ys).st : Nat) : Int)).e0 = (row2 ys).e0 := d0.symm
                  have g9 : (dRowF s ds ((nx ys (row1 ys).st : Nat) : Int)).e1 = (row2 ys).e1 := d1.symm
                  have g10 : (dRowF s ds ((nx ys (row1 ys).st : Nat) : Int)).e2 = (row2 ys).e2 := d2.symm
                  have g11 : (dRowF s ds ((nx ys (row1 ys).st : Nat) : Int)).part = (row2 ys).parts := d3.symm
                  rw [g0, g1, g2, g3, g4, g5, g6, g7, g8, g9, g10, g11]
                  unfold madeR
                  rw [md24_eq, md24_eq, md24_eq, md24d_eq, md24d_eq, md24d_eq]
                  generalize matE (row0 ys).e0 (row0 ys).e1 (row0 ys).e2 (row1 ys).e0 (row1 ys).e1 (row1 ys).e2 (row2 ys).e0 (row2 ys).e1 (row2 ys).e2 = m
                  refine (onB_iff _ _ _).2 ⟨fun hm => ?_, fun hm => ?_⟩
                  · have hm : ¬ m = 0 := by simpa using hm
                    simp only [mkO, if_neg hm]
                    exact ⟨rfl, trivial⟩
                  · have hm : m = 0 := by simpa using hm
                    subst hm
                    simp only [mkO, if_true]
                    exact ⟨rfl, trivial⟩
                · obtain ⟨u2, v2⟩ := y2 c2
                  exact lfZ c2 ((if_neg f0).trans ((if_neg (fun h => h v0)).trans ((if_neg f1).trans ((if_neg (fun h => h v1)).trans ((if_neg f2).trans ((if_pos u2).trans (by rw [v2])))))))
              · obtain ⟨z1, z2⟩ := r2.ge p2
                have f0 : ¬ 0 ≤ (row0 ys).fault := by show ¬ 0 ≤ (rowF ys 0).fault; omega
                have f1 : ¬ 0 ≤ (row1 ys).fault := by show ¬ 0 ≤ (rowF ys (nx ys (row0 ys).st)).fault; omega
                exact lfZ p2 ((if_neg f0).trans ((if_neg (fun h => h v0)).trans ((if_neg f1).trans ((if_neg (fun h => h v1)).trans ((if_pos z1).trans (by rw [z2]; rfl))))))
            · obtain ⟨u1, v1⟩ := y1 c1
              have f0 : ¬ 0 ≤ (row0 ys).fault := by show ¬ 0 ≤ (rowF ys 0).fault; omega
              have f1 : ¬ 0 ≤ (row1 ys).fault := by show ¬ 0 ≤ (rowF ys (nx ys (row0 ys).st)).fault; omega
              exact lfZ c1 ((if_neg f0).trans ((if_neg (fun h => h v0)).trans ((if_neg f1).trans ((if_pos u1).trans (by rw [v1])))))
          · obtain ⟨z1, z2⟩ := r1.ge p1
            have f0 : ¬ 0 ≤ (row0 ys).fault := by show ¬ 0 ≤ (rowF ys 0).fault; omega
            exact lfZ p1 ((if_neg f0).trans ((if_neg (fun h => h v0)).trans ((if_pos z1).trans (by rw [z2]; rfl))))
        · obtain ⟨u0, v0⟩ := y0 c0
          have f0 : ¬ 0 ≤ (row0 ys).fault := by show ¬ 0 ≤ (rowF ys 0).fault; omega
          exact lfZ c0 ((if_neg f0).trans ((if_pos u0).trans (by rw [v0])))
      · obtain ⟨z1, z2⟩ := r0.ge p0
        have z2 : (dRowF s ds 0).p = (row0 ys).fault := z2
        exact lfZ p0 ((if_pos z1).trans (by rw [z2]))
  · exact (gives_fail hg).elim
end Go.AM
namespace Go.AM
open Dist
set_option maxRecDepth 1000000
set_option maxHeartbeats 0
def dl2 : List OpI := [⟨1,0,0,0,1,0,0,0,1,0,0,0⟩,⟨1,0,0,0,1,0,0,0,1,0,12,12⟩,⟨1,0,0,0,1,0,0,0,1,12,0,12⟩,⟨-1,0,0,0,-1,0,0,0,1,18,6,12⟩,⟨-1,0,0,0,1,0,0,0,-1,6,12,18⟩,⟨0,0,1,1,0,0,0,1,0,0,0,0⟩,⟨0,1,0,1,0,0,0,0,-1,18,6,12⟩,⟨-1,0,0,0,-1,0,0,0,-1,0,0,0⟩,⟨1,0,0,0,1,0,0,0,1,12,12,0⟩,⟨-1,0,0,0,-1,0,0,0,1,18,18,0⟩,⟨-1,0,0,0,1,0,0,0,-1,6,0,6⟩,⟨0,0,1,1,0,0,0,1,0,0,12,12⟩,⟨0,1,0,1,0,0,0,0,-1,18,18,0⟩,⟨-1,0,0,0,-1,0,0,0,-1,0,12,12⟩,⟨-1,0,0,0,-1,0,0,0,1,6,6,0⟩,⟨-1,0,0,0,1,0,0,0,-1,18,12,6⟩,⟨0,0,1,1,0,0,0,1,0,12,0,12⟩,⟨0,1,0,1,0,0,0,0,-1,6,6,0⟩,⟨-1,0,0,0,-1,0,0,0,-1,12,0,12⟩,⟨1,0,0,0,-1,0,0,0,-1,12,18,6⟩,⟨0,0,-1,-1,0,0,0,1,0,18,6,12⟩,⟨0,-1,0,-1,0,0,0,0,-1,0,0,0⟩,⟨1,0,0,0,1,0,0,0,-1,18,6,12⟩,⟨0,0,-1,1,0,0,0,-1,0,6,12,18⟩,⟨0,-1,0,1,0,0,0,0,1,12,18,6⟩,⟨1,0,0,0,-1,0,0,0,1,6,12,18⟩,⟨0,0,1,1,0,0,0,1,0,12,12,0⟩,⟨0,0,1,-1,0,0,0,-1,0,12,18,6⟩,⟨0,1,0,0,0,1,1,0,0,0,0,0⟩,⟨0,0,-1,0,1,0,1,0,0,12,18,6⟩,⟨0,0,-1,-1,0,0,0,-1,0,0,0,0⟩,⟨0,1,0,-1,0,0,0,0,1,6,12,18⟩,⟨1,0,0,0,0,1,0,-1,0,18,6,12⟩,⟨0,-1,0,-1,0,0,0,0,1,18,6,12⟩,⟨1,0,0,0,1,0,0,0,-1,6,18,12⟩,⟨1,0,0,0,-1,0,0,0,1,18,12,6⟩,⟨0,-1,0,-1,0,0,0,0,1,6,18,12⟩,⟨-1,0,0,0,-1,0,0,0,1,6,18,12⟩,⟨-1,0,0,0,1,0,0,0,-1,18,0,18⟩,⟨0,1,0,1,0,0,0,0,-1,6,18,12⟩,⟨-1,0,0,0,-1,0,0,0,-1,12,12,0⟩,⟨1,0,0,0,-1,0,0,0,-1,12,6,18⟩,⟨0,0,-1,-1,0,0,0,1,0,18,18,0⟩,⟨0,-1,0,-1,0,0,0,0,-1,0,12,12⟩,⟨1,0,0,0,1,0,0,0,-1,18,18,0⟩,⟨0,0,-1,1,0,0,0,-1,0,6,0,6⟩,⟨0,-1,0,1,0,0,0,0,1,12,6,18⟩,⟨1,0,0,0,-1,0,0,0,1,6,0,6⟩,⟨0,0,1,-1,0,0,0,-1,0,12,6,18⟩,⟨0,1,0,0,0,1,1,0,0,0,12,12⟩,⟨0,0,-1,0,1,0,1,0,0,12,6,18⟩,⟨0,0,-1,-1,0,0,0,-1,0,0,12,12⟩,⟨0,1,0,-1,0,0,0,0,1,6,0,6⟩,⟨1,0,0,0,0,1,0,-1,0,18,18,0⟩,⟨0,-1,0,-1,0,0,0,0,1,18,18,0⟩,⟨1,0,0,0,1,0,0,0,-1,6,6,0⟩,⟨1,0,0,0,-1,0,0,0,1,18,0,18⟩,⟨0,-1,0,-1,0,0,0,0,1,6,6,0⟩,⟨1,0,0,0,-1,0,0,0,-1,0,18,18⟩,⟨0,0,-1,-1,0,0,0,1,0,6,6,0⟩,⟨0,-1,0,-1,0,0,0,0,-1,12,0,12⟩,⟨0,0,-1,1,0,0,0,-1,0,18,12,6⟩,⟨0,-1,0,1,0,0,0,0,1,0,18,18⟩,⟨0,0,1,-1,0,0,0,-1,0,0,18,18⟩,⟨0,1,0,0,0,1,1,0,0,12,0,12⟩,⟨0,0,-1,0,1,0,1,0,0,0,18,18⟩,⟨0,0,-1,-1,0,0,0,-1,0,12,0,12⟩,⟨0,1,0,-1,0,0,0,0,1,18,12,6⟩,⟨1,0,0,0,0,1,0,-1,0,6,6,0⟩,⟨-1,0,0,0,1,0,0,0,1,12,18,6⟩,⟨0,0,-1,-1,0,0,0,1,0,6,18,12⟩,⟨0,-1,0,0,0,-1,1,0,0,18,6,12⟩,⟨0,0,1,0,-1,0,1,0,0,6,12,18⟩,⟨0,0,1,1,0,0,0,-1,0,18,6,12⟩,⟨-1,0,0,0,0,-1,0,-1,0,0,0,0⟩,⟨0,1,0,1,0,0,0,0,1,0,0,0⟩,⟨-1,0,0,0,1,0,0,0,1,0,18,18⟩,⟨0,1,0,1,0,0,0,0,1,12,12,0⟩,⟨0,0,-1,1,0,0,0,-1,0,18,0,18⟩,⟨0,-1,0,0,0,1,-1,0,0,6,12,18⟩,⟨0,0,1,0,1,0,-1,0,0,18,6,12⟩,⟨0,0,1,-1,0,0,0,1,0,6,12,18⟩,⟨-1,0,0,0,0,1,0,1,0,12,18,6⟩,⟨0,1,0,-1,0,0,0,0,-1,12,18,6⟩,⟨-1,0,0,0,1,0,0,0,1,0,6,6⟩,⟨0,1,0,-1,0,0,0,0,-1,0,6,6⟩,⟨0,0,1,-1,0,0,0,-1,0,0,6,6⟩,⟨0,1,0,0,0,1,1,0,0,12,12,0⟩,⟨0,0,-1,0,1,0,1,0,0,0,6,6⟩,⟨0,0,-1,-1,0,0,0,-1,0,12,12,0⟩,⟨0,1,0,0,0,-1,-1,0,0,12,18,6⟩,⟨0,0,-1,0,-1,0,-1,0,0,0,0,0⟩,⟨0,0,-1,1,0,0,0,1,0,12,18,6⟩,⟨1,0,0,0,0,-1,0,1,0,6,12,18⟩,⟨0,-1,0,0,0,-1,-1,0,0,0,0,0⟩,⟨0,0,1,0,-1,0,-1,0,0,12,18,6⟩,⟨0,0,-1,1,0,0,0,1,0,12,6,18⟩,⟨0,0,1,1,0,0,0,-1,0,6,18,12⟩,⟨0,0,1,0,-1,0,-1,0,0,12,6,18⟩,⟨0,-1,0,1,0,0,0,0,-1,6,12,18⟩,⟨1,0,0,0,0,1,0,-1,0,6,18,12⟩,⟨-1,0,0,0,0,-1,0,1,0,18,6,12⟩,⟨0,-1,0,1,0,0,0,0,-1,6,0,6⟩,⟨-1,0,0,0,1,0,0,0,1,12,6,18⟩,⟨0,0,1,-1,0,0,0,1,0,18,12,6⟩,⟨0,1,0,-1,0,0,0,0,-1,12,6,18⟩,⟨0,-1,0,1,0,0,0,0,-1,18,12,6⟩,⟨-1,0,0,0,0,-1,0,1,0,6,18,12⟩,⟨1,0,0,0,-1,0,0,0,-1,0,6,6⟩,⟨0,-1,0,-1,0,0,0,0,-1,12,12,0⟩,⟨0,-1,0,1,0,0,0,0,1,0,6,6⟩,⟨0,1,0,-1,0,0,0,0,1,18,0,18⟩,⟨0,-1,0,0,0,-1,1,0,0,18,18,0⟩,⟨0,0,1,0,-1,0,1,0,0,6,0,6⟩,⟨0,0,1,1,0,0,0,-1,0,18,18,0⟩,⟨-1,0,0,0,0,-1,0,-1,0,0,12,12⟩,⟨0,1,0,1,0,0,0,0,1,0,12,12⟩,⟨0,1,0,1,0,0,0,0,1,12,0,12⟩,⟨0,-1,0,0,0,1,-1,0,0,6,0,6⟩,⟨0,0,1,0,1,0,-1,0,0,18,18,0⟩,⟨0,0,1,-1,0,0,0,1,0,6,0,6⟩,⟨-1,0,0,0,0,1,0,1,0,12,6,18⟩,⟨0,1,0,-1,0,0,0,0,-1,0,18,18⟩,⟨0,1,0,0,0,-1,-1,0,0,12,6,18⟩,⟨0,0,-1,0,-1,0,-1,0,0,0,12,12⟩,⟨1,0,0,0,0,-1,0,1,0,6,0,6⟩,⟨0,-1,0,0,0,-1,-1,0,0,0,12,12⟩,⟨0,0,1,1,0,0,0,-1,0,6,6,0⟩,⟨-1,0,0,0,0,-1,0,1,0,18,18,0⟩,⟨0,0,1,-1,0,0,0,1,0,18,0,18⟩,⟨0,-1,0,1,0,0,0,0,-1,18,0,18⟩,⟨-1,0,0,0,0,-1,0,1,0,6,6,0⟩,⟨0,-1,0,0,0,-1,1,0,0,6,6,0⟩,⟨0,0,1,0,-1,0,1,0,0,18,12,6⟩,⟨-1,0,0,0,0,-1,0,-1,0,12,0,12⟩,⟨0,-1,0,0,0,1,-1,0,0,18,12,6⟩,⟨0,0,1,0,1,0,-1,0,0,6,6,0⟩,⟨-1,0,0,0,0,1,0,1,0,0,18,18⟩,⟨0,1,0,0,0,-1,-1,0,0,0,18,18⟩,⟨0,0,-1,0,-1,0,-1,0,0,12,0,12⟩,⟨0,0,-1,1,0,0,0,1,0,0,18,18⟩,⟨1,0,0,0,0,-1,0,1,0,18,12,6⟩,⟨0,-1,0,0,0,-1,-1,0,0,12,0,12⟩,⟨0,0,1,0,-1,0,-1,0,0,0,18,18⟩,⟨0,0,-1,1,0,0,0,1,0,0,6,6⟩,⟨0,0,1,0,-1,0,-1,0,0,0,6,6⟩,⟨0,-1,0,0,0,-1,1,0,0,6,18,12⟩,⟨0,0,1,0,-1,0,1,0,0,18,0,18⟩,⟨0,1,0,0,0,1,-1,0,0,18,6,12⟩,⟨0,0,-1,0,1,0,-1,0,0,6,12,18⟩,⟨0,0,-1,0,1,0,-1,0,0,6,0,6⟩,⟨-1,0,0,0,0,-1,0,-1,0,12,12,0⟩,⟨1,0,0,0,0,1,0,1,0,0,0,0⟩,⟨1,0,0,0,0,1,0,1,0,12,12,0⟩,⟨0,-1,0,0,0,1,-1,0,0,18,0,18⟩,⟨0,0,1,0,1,0,-1,0,0,6,18,12⟩,⟨0,1,0,0,0,-1,1,0,0,6,12,18⟩,⟨0,0,-1,0,-1,0,1,0,0,18,6,12⟩,⟨0,0,-1,0,-1,0,1,0,0,18,18,0⟩,⟨-1,0,0,0,0,1,0,1,0,0,6,6⟩,⟨1,0,0,0,0,-1,0,-1,0,12,18,6⟩,⟨1,0,0,0,0,-1,0,-1,0,0,6,6⟩,⟨0,1,0,0,0,-1,-1,0,0,0,6,6⟩,⟨0,0,-1,0,-1,0,-1,0,0,12,12,0⟩,⟨1,0,0,0,0,-1,0,1,0,18,0,18⟩,⟨0,-1,0,0,0,-1,-1,0,0,12,12,0⟩,⟨0,-1,0,0,0,1,1,0,0,12,18,6⟩,⟨0,0,1,0,1,0,1,0,0,0,0,0⟩,⟨0,0,1,0,1,0,1,0,0,0,12,12⟩,⟨-1,0,0,0,0,1,0,-1,0,6,12,18⟩,⟨0,1,0,0,0,-1,1,0,0,18,12,6⟩,⟨0,-1,0,0,0,1,1,0,0,12,6,18⟩,⟨-1,0,0,0,0,1,0,-1,0,18,12,6⟩,⟨0,0,-1,0,-1,0,1,0,0,6,6,0⟩,⟨0,1,0,0,0,1,-1,0,0,6,18,12⟩,⟨0,0,-1,0,1,0,-1,0,0,18,12,6⟩,⟨0,0,-1,0,-1,0,1,0,0,6,18,12⟩,⟨1,0,0,0,0,-1,0,-1,0,0,18,18⟩,⟨0,-1,0,0,0,1,1,0,0,0,18,18⟩,⟨-1,0,0,0,0,1,0,-1,0,6,0,6⟩,⟨1,0,0,0,0,-1,0,-1,0,12,6,18⟩,⟨0,1,0,0,0,1,-1,0,0,18,18,0⟩,⟨1,0,0,0,0,1,0,1,0,0,12,12⟩,⟨1,0,0,0,0,1,0,1,0,12,0,12⟩,⟨0,1,0,0,0,-1,1,0,0,6,0,6⟩,⟨0,1,0,0,0,-1,1,0,0,18,0,18⟩,⟨-1,0,0,0,0,1,0,-1,0,18,0,18⟩,⟨0,1,0,0,0,1,-1,0,0,6,6,0⟩,⟨0,0,-1,0,1,0,-1,0,0,18,0,18⟩,⟨0,-1,0,0,0,1,1,0,0,0,6,6⟩,⟨0,0,1,0,1,0,1,0,0,12,0,12⟩,⟨0,0,1,0,1,0,1,0,0,12,12,0⟩]
theorem dl2_eq : closeD km2 = some dl2 := by kernel_rfl
theorem dl2_perm : dl2.isPerm cl2 = true := by kernel_rfl
end Go.AM
