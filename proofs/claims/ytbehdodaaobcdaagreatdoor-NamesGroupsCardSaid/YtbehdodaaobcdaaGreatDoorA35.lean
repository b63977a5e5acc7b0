import Derived.Test.YtbehdodaaobcdaaGreatDoorA34
set_option maxHeartbeats 4000000
open Go Go.AM Go.Proofs
namespace Go.AM
open Dist
structure DR where
  i : Int
  p : Int
  e0 : Int
  e1 : Int
  e2 : Int
  part : Int
  s0 : Bool
  s1 : Bool
  s2 : Bool
  s3 : Bool
def DR.err (x : DR) (j p : Int) : DR := ⟨j, p, x.e0, x.e1, x.e2, x.part, x.s0, x.s1, x.s2, x.s3⟩
def dLetP (ys : List DTok) (x : DR) (sk j : Int) : DR :=
  if (dk ys j).kind = 120 then (if x.s0 = true then x.err j (dk ys j).pos else ⟨dSkip ys j, -1, sk, x.e1, x.e2, x.part, true, x.s1, x.s2, x.s3⟩)
  else if (dk ys j).kind = 121 then (if x.s1 = true then x.err j (dk ys j).pos else ⟨dSkip ys j, -1, x.e0, sk, x.e2, x.part, x.s0, true, x.s2, x.s3⟩)
  else if (dk ys j).kind = 122 then (if x.s2 = true then x.err j (dk ys j).pos else ⟨dSkip ys j, -1, x.e0, x.e1, sk, x.part, x.s0, x.s1, true, x.s3⟩)
  else x.err j (dk ys j).pos
def isLet (k : Int) : Prop := k = 120 ∨ k = 121 ∨ k = 122
instance (k : Int) : Decidable (isLet k) := inferInstanceAs (Decidable (k = 120 ∨ k = 121 ∨ k = 122))
def dTerm (s : List UInt8) (ys : List DTok) (x : DR) (sg i : Int) : DR :=
  if (dk ys i).kind = 48 then
    (if isLet (dk ys (dSkip ys i)).kind then
      (if dNum s (dk ys i).pos (dk ys i).next 4 < 1 ∨ 1000 < dNum s (dk ys i).pos (dk ys i).next 4 then x.err (dSkip ys i) (dk ys i).pos
      else dLetP ys x (sg * dNum s (dk ys i).pos (dk ys i).next 4) (dSkip ys i))
    else ⟨(dFr s ys (dSkip ys i) (dk ys i).pos (dk ys i).next x.s3).2.1, (dFr s ys (dSkip ys i) (dk ys i).pos (dk ys i).next x.s3).2.2, x.e0, x.e1, x.e2, sg * (dFr s ys (dSkip ys i) (dk ys i).pos (dk ys i).next x.s3).1, x.s0, x.s1, x.s2, true⟩)
  else dLetP ys x sg i
def dStep (s : List UInt8) (ys : List DTok) (x : DR) : DR := dTerm s ys x (dSv ys x.i) (dSi ys x.i)
def dGo (ys : List DTok) (x : DR) : Prop := x.p < 0 ∧ ((dk ys x.i).kind = 43 ∨ (dk ys x.i).kind = 45)
instance (ys : List DTok) (x : DR) : Decidable (dGo ys x) := inferInstanceAs (Decidable (_ ∧ _))
def dRowR (s : List UInt8) (ys : List DTok) : Nat → DR → DR
  | 0, x => x
  | n + 1, x => if dGo ys x then dRowR s ys n (dStep s ys x) else x
def dr0 (i : Int) : DR := ⟨i, -1, 0, 0, 0, 0, false, false, false, false⟩
def dRowF (s : List UInt8) (ys : List DTok) (i : Int) : DR := dRowR s ys (@List.length DTok ys + 1) (dStep s ys (dr0 i))
structure DRok (s : List UInt8) (ys : List DTok) (R : DR) (q : Nat × DR) : Prop where
  h1 : dRowR s ys q.1 q.2 = R
  h2 : q.2.p < 0 → (@List.length DTok ys : Int) - q.2.i < q.1
  h3 : q.2.p < 0 → q.2.p = -1
  h4 : 0 ≤ q.2.i ∧ q.2.i < (@List.length DTok ys : Int)
def annDRi (s : List UInt8) (ys : List DTok) (env : Env) (x : DR) : Env × Heap := (env, [.row 120 [.str s, .ow 1 3 0 (@List.length DTok ys) false, .sym .i64 x.i, .sym .i64 x.p], .own 158 dtkC ys, .row 40 [.con .i64 0, .con .i64 0, .con .i64 0], .row 40 [.sym .i64 x.e0, .sym .i64 x.e1, .sym .i64 x.e2], .row 161 [.sb x.s0, .sb x.s1, .sb x.s2, .sb x.s3], .row 3 [.sym .i64 x.part]])
def annDR (s : List UInt8) (ys : List DTok) (R : DR) : Annos := ⟨2, fun id env _ => if id = 5 then forceE (keepT [0, 2, 4, 5, 6] 0 env) fun env => some ⟨{ q : Nat × DR // DRok s ys R q }, fun q => annDRi s ys env q.1.2, fun q => q.1.1⟩ else none,
  fun id env h => if id = 4 then (match get? h 0 with
    | some (.row _ [.str _, _, .sym _ i, .sym _ _]) => forceE (keepT [0, 2, 4, 5, 6] 0 env) fun env => [⟨{ x : DR // x = dr0 i }, fun x => annDRi s ys (set env 6 (.v (.one (.ptr 5 0)))) x.1, fun _ => 0⟩]
    | _ => []) else if id = 5 then forceE (keepT [0, 2, 4, 5, 6] 0 env) fun env => [⟨{ q : Nat × DR // DRok s ys R q }, fun q => annDRi s ys env q.1.2, fun _ => 0⟩] else if id = 6 then (match get? h 0 with
    | some (.row _ [.str _, _, .sym _ i, .sym _ p]) => forceE (keepT [0, 2, 4, 5, 6] 0 env) fun env => forceH h fun h => [⟨PLift (p < 0 ∧ ((dk ys i).kind = 43 ∨ (dk ys i).kind = 45)), fun _ => (env, h), fun _ => 0⟩]
    | _ => []) else []⟩
end Go.AM
open Go Go.AM Go.Proofs
namespace Go.AM
open Dist
def md24d (x : Int) : Int := (IntKind.i64.wrap (x.tmod 24 + 24)).tmod 24
def qRowD : MSpec dtkC := fun os cs ys => match os, cs with
  | [], [.str s, .ow 1 3 0 len false, .sym .i64 i, .sym .i64 p] => some ((len = @List.length DTok ys ∧ 0 ≤ i ∧ i < (@List.length DTok ys : Int)) ∧ p = -1 ∧ DOk s ys ∧ ((dk ys ((@List.length DTok ys : Int) - 1)).kind = 0 ∨ (dk ys ((@List.length DTok ys : Int) - 1)).kind = 101), .tup [.agg [.sym .i64 (dRowF s ys i).e0, .sym .i64 (dRowF s ys i).e1, .sym .i64 (dRowF s ys i).e2], .one (.sym .i64 (md24d (dRowF s ys i).part))], dC ys s (dRowF s ys i).i (dRowF s ys i).p)
  | _, _ => none
def Z5 (o : OnB) : Sums := (Z4 o).addF 66 qDToks
theorem pZ5 (o : OnB) : OkS P (Z5 o) := (pZ4 o).addFm fine hDToks
theorem dFr_ok {s : List UInt8} {ys : List DTok} {i a b : Int} {g : Bool} (h : 0 ≤ i ∧ i < (@List.length DTok ys : Int)) (ok : DOk s ys) (hd : DigAt s a b) : (-240000 ≤ (dFr s ys i a b g).1 ∧ (dFr s ys i a b g).1 ≤ 240000) ∧ (i ≤ (dFr s ys i a b g).2.1 ∧ (dFr s ys i a b g).2.1 < (@List.length DTok ys : Int)) ∧ ((dFr s ys i a b g).2.2 = -1 ∨ 0 ≤ (dFr s ys i a b g).2.2) := by
  have nb := dNum_bd (m := 3) (by omega) hd
  have ha := hd.1
  have j1 := dSkip_lt h
  have j2 := dSkip_lt j1
  have g1 : i ≤ dSkip ys i := by unfold dSkip; split <;> omega
  have g2 : dSkip ys i ≤ dSkip ys (dSkip ys i) := by rw [dSkip.eq_1 ys (dSkip ys i)]; split <;> omega
  have hp := (ok.2.2 (dSkip ys i)).1
  unfold dFr
  by_cases c1 : dNum s a b 3 < 0 ∨ g = true
  · rw [if_pos c1]
    exact ⟨⟨by simp, by simp⟩, ⟨Int.le_refl _, h.2⟩, .inr ha⟩
  · rw [if_neg c1]
    by_cases c2 : ¬ (dk ys i).kind = 47
    · rw [if_pos c2]
      exact ⟨⟨by simp only; omega, by simp only; omega⟩, ⟨Int.le_refl _, h.2⟩, .inl rfl⟩
    · rw [if_neg c2]
      by_cases c3 : ¬ (dk ys (dSkip ys i)).kind = 48
      · rw [if_pos c3]
        exact ⟨⟨by simp, by simp⟩, ⟨g1, j1.2⟩, .inr hp⟩
      · rw [if_neg c3]
        by_cases c4 : dNum s (dk ys (dSkip ys i)).pos (dk ys (dSkip ys i)).next 3 < 1 ∨ ¬ (24 * dNum s a b 3).tmod (dNum s (dk ys (dSkip ys i)).pos (dk ys (dSkip ys i)).next 3) = 0
        · rw [if_pos c4]
          exact ⟨⟨by simp, by simp⟩, ⟨Int.le_trans g1 g2, j2.2⟩, .inr ha⟩
        · rw [if_neg c4]
          have c5 : 1 ≤ dNum s (dk ys (dSkip ys i)).pos (dk ys (dSkip ys i)).next 3 := by
            by_cases hh : dNum s (dk ys (dSkip ys i)).pos (dk ys (dSkip ys i)).next 3 < 1
            · exact absurd (.inl hh) c4
            · omega
          have c6 : 0 ≤ dNum s a b 3 := by
            by_cases hh : dNum s a b 3 < 0
            · exact absurd (.inl hh) c1
            · omega
          refine ⟨?_, ⟨Int.le_trans g1 g2, j2.2⟩, .inl rfl⟩
          simp only
          rw [Int.tdiv_eq_ediv_of_nonneg (by omega)]
          have b1 : 0 ≤ 24 * dNum s a b 3 / dNum s (dk ys (dSkip ys i)).pos (dk ys (dSkip ys i)).next 3 := Int.ediv_nonneg (by omega) (by omega)
          have b2 : 24 * dNum s a b 3 / dNum s (dk ys (dSkip ys i)).pos (dk ys (dSkip ys i)).next 3 ≤ 24 * dNum s a b 3 := Int.ediv_le_self _ (by omega)
          omega
structure DTok' (ys : List DTok) (i : Int) (D : DR) : Prop where
  p : D.p < 0 → D.p = -1
  lo : i ≤ D.i
  hi : D.i < (@List.length DTok ys : Int)
theorem dLetP_ok {ys : List DTok} {x : DR} {sk i j : Int} (h : 0 ≤ j ∧ j < (@List.length DTok ys : Int)) (hij : i ≤ j) (hp : 0 ≤ (dk ys j).pos) : DTok' ys i (dLetP ys x sk j) := by
  have j1 := dSkip_lt h
  have g1 : j ≤ dSkip ys j := by unfold dSkip; split <;> omega
  have e : DTok' ys i (x.err j (dk ys j).pos) := ⟨fun h => by have h : (dk ys j).pos < 0 := h; omega, hij, h.2⟩
  have f : ∀ D : DR, D.p = -1 → D.i = dSkip ys j → DTok' ys i D := fun D h1 h2 => ⟨fun _ => h1, by omega, by omega⟩
  unfold dLetP
  split
  · split
    · exact e
    · exact f _ rfl rfl
  · split
    · split
      · exact e
      · exact f _ rfl rfl
    · split
      · split
        · exact e
        · exact f _ rfl rfl
      · exact e
theorem dTerm_ok {s : List UInt8} {ys : List DTok} {x : DR} {sg i : Int} (h : 0 ≤ i ∧ i < (@List.length DTok ys : Int)) (ok : DOk s ys) : DTok' ys i (dTerm s ys x sg i) := by
  have j1 := dSkip_lt h
  have g1 : i ≤ dSkip ys i := by unfold dSkip; split <;> omega
  unfold dTerm
  split
  · rename_i hk
    have hd := (ok.2.2 i).2 hk
    split
    · split
      · exact ⟨fun h => by have h : (dk ys i).pos < 0 := h; have := (ok.2.2 i).1; omega, g1, j1.2⟩
      · exact dLetP_ok j1 g1 (ok.2.2 _).1
    · obtain ⟨_, f1, f2⟩ := dFr_ok (g := x.s3) j1 ok hd
      exact ⟨fun h => f2.elim id (fun f => by have h : (dFr s ys (dSkip ys i) (dk ys i).pos (dk ys i).next x.s3).2.2 < 0 := h; omega), Int.le_trans g1 f1.1, f1.2⟩
  · exact dLetP_ok h (Int.le_refl _) (ok.2.2 _).1
theorem dSi_ok {ys : List DTok} {i : Int} (h : 0 ≤ i ∧ i < (@List.length DTok ys : Int)) : i ≤ dSi ys i ∧ 0 ≤ dSi ys i ∧ dSi ys i < (@List.length DTok ys : Int) := by
  have j1 := dSkip_lt h
  have g1 : i ≤ dSkip ys i := by unfold dSkip; split <;> omega
  unfold dSi
  split
  · omega
  · split <;> omega
def Z6 (o : OnB) : Sums := (Z5 o).addSp 68 (stSpec 120 158 dtkC qRowD)
end Go.AM
open Go Go.AM Go.Proofs
namespace Go.AM
open Dist
set_option maxRecDepth 100000
def lNF (ys : List DTok) (j p w e0 e1 e2 pt : Int) (s0 s1 s2 s3 : Bool) (len : Nat) (K : DR → Nat → Prop) : Prop := ∃ (z_4:List dtkC.τ),SameRows dtkC z_4 dtkC ys/\(len=z_4.length/\((0:Int)<=j/\j<(↑z_4.length:Int))/\z_4.length.le 4611686018427387904)/\((dk z_4 j).kind=120->(s0=true->∃ (z:List dtkC.τ),SameRows dtkC z dtkC ys/\(z_4.length=z.length/\((0:Int)<=j/\j<(↑z.length:Int))/\z.length.le 4611686018427387904)/\∃ (z_5:List dtkC.τ),SameRows dtkC z_5 dtkC ys/\z.length=z_5.length/\K ⟨j,(dFail p (dk z j).pos),e0,e1,e2,pt,s0,s1,s2,s3⟩ z_5.length)/\(s0=false->∃ (z_5:List dtkC.τ),SameRows dtkC z_5 dtkC ys/\(z_4.length=z_5.length/\((0:Int)<=j/\j<(↑z_5.length:Int))/\z_5.length.le 4611686018427387904)/\K ⟨(dSkip z_5 j),p,w,e1,e2,pt,true,s1,s2,s3⟩ z_5.length))/\((dk z_4 j).kind=121->(s1=true->∃ (z:List dtkC.τ),SameRows dtkC z dtkC ys/\(z_4.length=z.length/\((0:Int)<=j/\j<(↑z.length:Int))/\z.length.le 4611686018427387904)/\∃ (z_5:List dtkC.τ),SameRows dtkC z_5 dtkC ys/\z.length=z_5.length/\K ⟨j,(dFail p (dk z j).pos),e0,e1,e2,pt,s0,s1,s2,s3⟩ z_5.length)/\(s1=false->∃ (z_5:List dtkC.τ),SameRows dtkC z_5 dtkC ys/\(z_4.length=z_5.length/\((0:Int)<=j/\j<(↑z_5.length:Int))/\z_5.length.le 4611686018427387904)/\K ⟨(dSkip z_5 j),p,e0,w,e2,pt,s0,true,s2,s3⟩ z_5.length))/\((dk z_4 j).kind=122->(s2=true->∃ (z:List dtkC.τ),SameRows dtkC z dtkC ys/\(z_4.length=z.length/\((0:Int)<=j/\j<(↑z.length:Int))/\z.length.le 4611686018427387904)/\∃ (z_5:List dtkC.τ),SameRows dtkC z_5 dtkC ys/\z.length=z_5.length/\K ⟨j,(dFail p (dk z j).pos),e0,e1,e2,pt,s0,s1,s2,s3⟩ z_5.length)/\(s2=false->∃ (z_5:List dtkC.τ),SameRows dtkC z_5 dtkC ys/\(z_4.length=z_5.length/\((0:Int)<=j/\j<(↑z_5.length:Int))/\z_5.length.le 4611686018427387904)/\K ⟨(dSkip z_5 j),p,e0,e1,w,pt,s0,s1,true,s3⟩ z_5.length))/\((dk z_4 j).kind<120\/(122:Int)<(dk z_4 j).kind->∃ (z:List dtkC.τ),SameRows dtkC z dtkC ys/\(z_4.length=z.length/\((0:Int)<=j/\j<(↑z.length:Int))/\z.length.le 4611686018427387904)/\∃ (z_5:List dtkC.τ),SameRows dtkC z_5 dtkC ys/\z.length=z_5.length/\K ⟨j,(dFail p (dk z j).pos),e0,e1,e2,pt,s0,s1,s2,s3⟩ z_5.length)
def nNF (ys : List DTok) (s : List UInt8) (j p sg a b e0 e1 e2 pt : Int) (s0 s1 s2 s3 : Bool) (len : Nat) (K : DR → Nat → Prop) : Prop := ∃ (z_3 : List dtkC.τ), SameRows dtkC z_3 dtkC ys ∧ (len = z_3.length ∧ (4 : Int) ≤ (4 : Int) ∧ s.length.le (65536 : Nat) ∧ (0 : Int) ≤ a ∧ a ≤ b ∧ b ≤ (↑s.length : Int) ∧ ∀ (j : Nat), a.toNat ≤ j → j < b.toNat → digR (bt s j) = true) ∧ (decide (dNum s a b (4 : Int) < (1 : Int)) = true → ∃ (z_4 : List dtkC.τ), SameRows dtkC z_4 dtkC ys ∧ z_3.length = z_4.length ∧ K ⟨j, (dFail p a), e0, e1, e2, pt, s0, s1, s2, s3⟩ z_4.length) ∧ (decide (dNum s a b (4 : Int) < (1 : Int)) = false → (decide ((1000 : Int) < dNum s a b (4 : Int)) = true → ∃ (z_4 : List dtkC.τ), SameRows dtkC z_4 dtkC ys ∧ z_3.length = z_4.length ∧ K ⟨j, (dFail p a), e0, e1, e2, pt, s0, s1, s2, s3⟩ z_4.length) ∧ (decide ((1000 : Int) < dNum s a b (4 : Int)) = false → lNF ys j p (IntKind.i64.wrap (sg * dNum s a b (4 : Int))) e0 e1 e2 pt s0 s1 s2 s3 z_3.length K))
def tNF (ys : List DTok) (s : List UInt8) (i p sg e0 e1 e2 pt : Int) (s0 s1 s2 s3 : Bool) (len : Nat) (K : DR → Nat → Prop) : Prop := ∃ (z:List dtkC.τ),SameRows dtkC z dtkC ys/\(len=z.length/\((0:Int)<=i/\i<(↑z.length:Int))/\z.length.le 4611686018427387904)/\(decide ((dk z i).kind=48)=true->∃ (z_1:List dtkC.τ),SameRows dtkC z_1 dtkC ys/\(z.length=z_1.length/\((0:Int)<=i/\i<(↑z_1.length:Int))/\z_1.length.le 4611686018427387904)/\∃ (z_2:List dtkC.τ),SameRows dtkC z_2 dtkC ys/\(z_1.length=z_2.length/\((0:Int)<=dSkip z_1 i/\dSkip z_1 i<(↑z_2.length:Int))/\z_2.length.le 4611686018427387904)/\((dk z_2 (dSkip z_1 i)).kind=120->nNF ys s (dSkip z_1 i) p sg (dk z i).pos (dk z i).next e0 e1 e2 pt s0 s1 s2 s3 z_2.length K)/\((dk z_2 (dSkip z_1 i)).kind=121->nNF ys s (dSkip z_1 i) p sg (dk z i).pos (dk z i).next e0 e1 e2 pt s0 s1 s2 s3 z_2.length K)/\((dk z_2 (dSkip z_1 i)).kind=122->nNF ys s (dSkip z_1 i) p sg (dk z i).pos (dk z i).next e0 e1 e2 pt s0 s1 s2 s3 z_2.length K)/\((dk z_2 (dSkip z_1 i)).kind<120\/(122:Int)<(dk z_2 (dSkip z_1 i)).kind->∃ (z_3:List dtkC.τ),SameRows dtkC z_3 dtkC ys/\((z_2.length=z_3.length/\(0:Int)<=dSkip z_1 i/\dSkip z_1 i<(↑z_3.length:Int))/\p=(-1:Int)/\(s.length.le 65536/\z_3.length.le 4611686018427387904/\∀ (i:Int),(0:Int)<=(dk z_3 i).pos/\((dk z_3 i).kind=48->(0:Int)<=(dk z_3 i).pos/\(dk z_3 i).pos<=(dk z_3 i).next/\(dk z_3 i).next<=(↑s.length:Int)/\∀ (j:Nat),(dk z_3 i).pos.toNat<=j->j<(dk z_3 i).next.toNat->digR (bt s j)=true))/\(0:Int)<=(dk z i).pos/\(dk z i).pos<=(dk z i).next/\(dk z i).next<=(↑s.length:Int)/\∀ (j:Nat),(dk z i).pos.toNat<=j->j<(dk z i).next.toNat->digR (bt s j)=true)/\K ⟨(dFr s z_3 (dSkip z_1 i) (dk z i).pos (dk z i).next s3).2.1,(dFr s z_3 (dSkip z_1 i) (dk z i).pos (dk z i).next s3).2.2,e0,e1,e2,(IntKind.i64.wrap (sg*(dFr s z_3 (dSkip z_1 i) (dk z i).pos (dk z i).next s3).1)),s0,s1,s2,true⟩ z_3.length))/\(decide ((dk z i).kind=48)=false->lNF ys i p (IntKind.i64.wrap (sg*1)) e0 e1 e2 pt s0 s1 s2 s3 z.length K)
def tK1 (s : List UInt8) (ys : List DTok) (R : DR) : DR → Nat → Prop := fun D l => ∃ (z : { q : Nat × DR // DRok s ys R q }), True ∧ (s = s ∧ ((0 : Nat) = (0 : Nat) ∧ ys.length = l) ∧ z.val.snd.i = D.i ∧ z.val.snd.p = D.p ∧ True) ∧ SameRows dtkC ys dtkC ys ∧ True ∧ (z.val.snd.e0 = D.e0 ∧ z.val.snd.e1 = D.e1 ∧ z.val.snd.e2 = D.e2 ∧ True) ∧ (z.val.snd.s0 = D.s0 ∧ z.val.snd.s1 = D.s1 ∧ z.val.snd.s2 = D.s2 ∧ z.val.snd.s3 = D.s3 ∧ True) ∧ (z.val.snd.part = D.part ∧ True) ∧ True
def tK2 (s : List UInt8) (ys : List DTok) (R : DR) (n : Nat) : DR → Nat → Prop := fun D l => ∃ (z : { q : Nat × DR // DRok s ys R q }), z.val.fst.succ.le n ∧ True ∧ (s = s ∧ ((0 : Nat) = (0 : Nat) ∧ ys.length = l) ∧ z.val.snd.i = D.i ∧ z.val.snd.p = D.p ∧ True) ∧ SameRows dtkC ys dtkC ys ∧ True ∧ (z.val.snd.e0 = D.e0 ∧ z.val.snd.e1 = D.e1 ∧ z.val.snd.e2 = D.e2 ∧ True) ∧ (z.val.snd.s0 = D.s0 ∧ z.val.snd.s1 = D.s1 ∧ z.val.snd.s2 = D.s2 ∧ z.val.snd.s3 = D.s3 ∧ True) ∧ (z.val.snd.part = D.part ∧ True) ∧ True
theorem nfdrow (ys : List DTok) (s : List UInt8) (i p i' p' v0 v1 v2 v3 : Int) (len : Nat) (R : DR) : call P (Z4 stdOn) (annDR s ys R) 1000 Tryz.f68 [.v (.one (.ptr 0 0))] (dH ys s i p len) (dK ys s (.tup [.agg [.sym .i64 v0, .sym .i64 v1, .sym .i64 v2], .one (.sym .i64 v3)]) i' p') = ((∃ (z : { x:DR//x=dr0 i }),True/\(s=s/\(0=0/\ys.length=len)/\z.1.i=i/\z.1.p=p/\True)/\SameRows dtkC ys dtkC ys/\True/\(z.1.e0=0/\z.1.e1=0/\z.1.e2=0/\True)/\(z.1.s0=false/\z.1.s1=false/\z.1.s2=false/\z.1.s3=false/\True)/\(z.1.part=0/\True)/\True)/\∀ (x : { x:DR//x=dr0 i }),(∃ (z:List dtkC.τ),SameRows dtkC z dtkC ys/\(ys.length=z.length/\((0:Int)<=x.1.i/\x.1.i<(↑z.length:Int))/\z.length.le 4611686018427387904)/\tNF ys s (dSi z x.1.i) x.1.p (dSv z x.1.i) x.1.e0 x.1.e1 x.1.e2 x.1.part x.1.s0 x.1.s1 x.1.s2 x.1.s3 z.length (tK1 s ys R))/\∀ (x : { q:Nat × DR//DRok s ys R q }),(∃ (z : { q:Nat × DR//DRok s ys R q }),True/\(s=s/\(0=0/\ys.length=ys.length)/\z.1.2.i=x.1.2.i/\z.1.2.p=x.1.2.p/\True)/\SameRows dtkC ys dtkC ys/\True/\(z.1.2.e0=x.1.2.e0/\z.1.2.e1=x.1.2.e1/\z.1.2.e2=x.1.2.e2/\True)/\(z.1.2.s0=x.1.2.s0/\z.1.2.s1=x.1.2.s1/\z.1.2.s2=x.1.2.s2/\z.1.2.s3=x.1.2.s3/\True)/\(z.1.2.part=x.1.2.part/\True)/\True)/\∀ (x : { q:Nat × DR//DRok s ys R q }),((decide (x.1.2.p<0)=true->∃ (z:List dtkC.τ),SameRows dtkC z dtkC ys/\(ys.length=z.length/\((0:Int)<=x.1.2.i/\x.1.2.i<(↑z.length:Int))/\z.length.le 4611686018427387904)/\(decide ((dk z x.1.2.i).kind=43)=true->∃ (z_1:PLift (x.1.2.p<0/\((dk ys x.1.2.i).kind=43\/(dk ys x.1.2.i).kind=45))),True/\(s=s/\(0=0/\ys.length=z.length)/\x.1.2.i=x.1.2.i/\x.1.2.p=x.1.2.p/\True)/\SameRows dtkC ys dtkC ys/\True/\(x.1.2.e0=x.1.2.e0/\x.1.2.e1=x.1.2.e1/\x.1.2.e2=x.1.2.e2/\True)/\(x.1.2.s0=x.1.2.s0/\x.1.2.s1=x.1.2.s1/\x.1.2.s2=x.1.2.s2/\x.1.2.s3=x.1.2.s3/\True)/\(x.1.2.part=x.1.2.part/\True)/\True)/\(decide ((dk z x.1.2.i).kind=43)=false->∃ (z_1:List dtkC.τ),SameRows dtkC z_1 dtkC ys/\(z.length=z_1.length/\((0:Int)<=x.1.2.i/\x.1.2.i<(↑z_1.length:Int))/\z_1.length.le 4611686018427387904)/\(decide ((dk z_1 x.1.2.i).kind=45)=true->∃ (z:PLift (x.1.2.p<0/\((dk ys x.1.2.i).kind=43\/(dk ys x.1.2.i).kind=45))),True/\(s=s/\(0=0/\ys.length=z_1.length)/\x.1.2.i=x.1.2.i/\x.1.2.p=x.1.2.p/\True)/\SameRows dtkC ys dtkC ys/\True/\(x.1.2.e0=x.1.2.e0/\x.1.2.e1=x.1.2.e1/\x.1.2.e2=x.1.2.e2/\True)/\(x.1.2.s0=x.1.2.s0/\x.1.2.s1=x.1.2.s1/\x.1.2.s2=x.1.2.s2/\x.1.2.s3=x.1.2.s3/\True)/\(x.1.2.part=x.1.2.part/\True)/\True)/\(decide ((dk z_1 x.1.2.i).kind=45)=false->(((v0=x.1.2.e0/\v1=x.1.2.e1/\v2=x.1.2.e2/\True)/\v3=(IntKind.i64.wrap (x.1.2.part.tmod (24:Int)+24)).tmod (24:Int)/\True)/\True)/\(s=s/\(0=0/\ys.length=z_1.length)/\i'=x.1.2.i/\p'=x.1.2.p/\True)/\SameRows dtkC ys dtkC ys/\True)))/\(decide (x.1.2.p<0)=false->(((v0=x.1.2.e0/\v1=x.1.2.e1/\v2=x.1.2.e2/\True)/\v3=(IntKind.i64.wrap (x.1.2.part.tmod (24:Int)+24)).tmod (24:Int)/\True)/\True)/\(s=s/\(0=0/\ys.length=ys.length)/\i'=x.1.2.i/\p'=x.1.2.p/\True)/\SameRows dtkC ys dtkC ys/\True))/\∀ (x_1:PLift (x.1.2.p<0/\((dk ys x.1.2.i).kind=43\/(dk ys x.1.2.i).kind=45))),∃ (z:List dtkC.τ),SameRows dtkC z dtkC ys/\(ys.length=z.length/\((0:Int)<=x.1.2.i/\x.1.2.i<(↑z.length:Int))/\z.length.le 4611686018427387904)/\tNF ys s (dSi z x.1.2.i) x.1.2.p (dSv z x.1.2.i) x.1.2.e0 x.1.2.e1 x.1.2.e2 x.1.2.part x.1.2.s0 x.1.2.s1 x.1.2.s2 x.1.2.s3 z.length (tK2 s ys R x.1.1)) := by kernel_rfl
theorem dLp0 {ys : List DTok} {j sk : Int} {x : DR} (h : (dk ys j).kind = 120) (hs : x.s0 = true) : dLetP ys x sk j = x.err j (dk ys j).pos := by rw [dLetP, if_pos h, if_pos hs]
theorem dLq0 {ys : List DTok} {j sk : Int} {x : DR} (h : (dk ys j).kind = 120) (hs : x.s0 = false) : dLetP ys x sk j = ⟨dSkip ys j, -1, sk, x.e1, x.e2, x.part, true, x.s1, x.s2, x.s3⟩ := by rw [dLetP, if_pos h, if_neg (by rw [hs]; decide)]
theorem dLp1 {ys : List DTok} {j sk : Int} {x : DR} (h : (dk ys j).kind = 121) (hs : x.s1 = true) : dLetP ys x sk j = x.err j (dk ys j).pos := by rw [dLetP, if_neg (by omega), if_pos h, if_pos hs]
theorem dLq1 {ys : List DTok} {j sk : Int} {x : DR} (h : (dk ys j).kind = 121) (hs : x.s1 = false) : dLetP ys x sk j = ⟨dSkip ys j, -1, x.e0, sk, x.e2, x.part, x.s0, true, x.s2, x.s3⟩ := by rw [dLetP, if_neg (by omega), if_pos h, if_neg (by rw [hs]; decide)]
theorem dLp2 {ys : List DTok} {j sk : Int} {x : DR} (h : (dk ys j).kind = 122) (hs : x.s2 = true) : dLetP ys x sk j = x.err j (dk ys j).pos := by rw [dLetP, if_neg (by omega), if_neg (by omega), if_pos h, if_pos hs]
theorem dLq2 {ys : List DTok} {j sk : Int} {x : DR} (h : (dk ys j).kind = 122) (hs : x.s2 = false) : dLetP ys x sk j = ⟨dSkip ys j, -1, x.e0, x.e1, sk, x.part, x.s0, x.s1, true, x.s3⟩ := by rw [dLetP, if_neg (by omega), if_neg (by omega), if_pos h, if_neg (by rw [hs]; decide)]
theorem dLp3 {ys : List DTok} {j sk : Int} {x : DR} (h : (dk ys j).kind < 120 ∨ 122 < (dk ys j).kind) : dLetP ys x sk j = x.err j (dk ys j).pos := by rw [dLetP, if_neg (by omega), if_neg (by omega), if_neg (by omega)]
theorem lNF_of {ys : List DTok} {j w : Int} {x : DR} {K : DR → Nat → Prop} (hj : 0 ≤ j ∧ j < (@List.length DTok ys : Int)) (hb : @List.length DTok ys ≤ 4611686018427387904) (hp : 0 ≤ (dk ys j).pos) (hK : K (dLetP ys x w j) (@List.length DTok ys)) :
    lNF ys j (-1) w x.e0 x.e1 x.e2 x.part x.s0 x.s1 x.s2 x.s3 (@List.length DTok ys) K := by
  have S := sameT (C := dtkC) ys
  have f : dFail (-1) (dk ys j).pos = (dk ys j).pos := if_pos (by omega)
  refine ⟨ys, S, ⟨rfl, hj, hb⟩, fun h => ⟨fun hs => ⟨ys, S, ⟨rfl, hj, hb⟩, ys, S, rfl, ?_⟩, fun hs => ⟨ys, S, ⟨rfl, hj, hb⟩, ?_⟩⟩, fun h => ⟨fun hs => ⟨ys, S, ⟨rfl, hj, hb⟩, ys, S, rfl, ?_⟩, fun hs => ⟨ys, S, ⟨rfl, hj, hb⟩, ?_⟩⟩, fun h => ⟨fun hs => ⟨ys, S, ⟨rfl, hj, hb⟩, ys, S, rfl, ?_⟩, fun hs => ⟨ys, S, ⟨rfl, hj, hb⟩, ?_⟩⟩, fun h => ⟨ys, S, ⟨rfl, hj, hb⟩, ys, S, rfl, ?_⟩⟩
  · rw [dLp0 h hs] at hK; rw [f]; exact hK
  · rw [dLq0 h hs] at hK; exact hK
  · rw [dLp1 h hs] at hK; rw [f]; exact hK
  · rw [dLq1 h hs] at hK; exact hK
  · rw [dLp2 h hs] at hK; rw [f]; exact hK
  · rw [dLq2 h hs] at hK; exact hK
  · rw [dLp3 h] at hK; rw [f]; exact hK
theorem nNF_of {s : List UInt8} {ys : List DTok} {j sg a b : Int} {x : DR} {K : DR → Nat → Prop} (hs : s.length ≤ 65536) (hj : 0 ≤ j ∧ j < (@List.length DTok ys : Int)) (hb : @List.length DTok ys ≤ 4611686018427387904) (hp : 0 ≤ (dk ys j).pos) (hd : DigAt s a b) (hg : sg = 1 ∨ sg = -1)
    (hK : K (if dNum s a b 4 < 1 ∨ 1000 < dNum s a b 4 then x.err j a else dLetP ys x (sg * dNum s a b 4) j) (@List.length DTok ys)) :
    nNF ys s j (-1) sg a b x.e0 x.e1 x.e2 x.part x.s0 x.s1 x.s2 x.s3 (@List.length DTok ys) K := by
  have S := sameT (C := dtkC) ys
  have f : dFail (-1) a = a := if_pos (by omega)
  have nb := dNum_bd (m := 4) (by omega) hd
  have hw : IntKind.i64.wrap (sg * dNum s a b 4) = sg * dNum s a b 4 := by rcases hg with h | h <;> rw [h] <;> exact wr_id (by omega) (by omega)
  refine ⟨ys, S, ⟨rfl, by omega, hs, hd⟩, fun y => ⟨ys, S, rfl, ?_⟩, fun y => ⟨fun z => ⟨ys, S, rfl, ?_⟩, fun z => ?_⟩⟩
  · rw [if_pos (.inl (of_decide_eq_true y))] at hK
    rw [f]; exact hK
  · rw [if_pos (.inr (of_decide_eq_true z))] at hK
    rw [f]; exact hK
  · rw [if_neg (fun h => h.elim (of_decide_eq_false y) (of_decide_eq_false z))] at hK
    rw [hw]
    exact lNF_of hj hb hp hK
theorem tNF_of {s : List UInt8} {ys : List DTok} {i sg : Int} {x : DR} {K : DR → Nat → Prop} (hi : 0 ≤ i ∧ i < (@List.length DTok ys : Int)) (ok : DOk s ys) (hg : sg = 1 ∨ sg = -1) (hK : K (dTerm s ys x sg i) (@List.length DTok ys)) :
    tNF ys s i (-1) sg x.e0 x.e1 x.e2 x.part x.s0 x.s1 x.s2 x.s3 (@List.length DTok ys) K := by
  have S := sameT (C := dtkC) ys
  obtain ⟨k1, k2, k3⟩ := ok
  have j1 := dSkip_lt hi
  refine ⟨ys, S, ⟨rfl, hi, k2⟩, fun y => ⟨ys, S, ⟨rfl, hi, k2⟩, ys, S, ⟨rfl, j1, k2⟩, ?_⟩, fun y => ?_⟩
  · have y : (dk ys i).kind = 48 := of_decide_eq_true y
    have hd := (k3 i).2 y
    rw [dTerm, if_pos y] at hK
    have hl : isLet (dk ys (dSkip ys i)).kind → nNF ys s (dSkip ys i) (-1) sg (dk ys i).pos (dk ys i).next x.e0 x.e1 x.e2 x.part x.s0 x.s1 x.s2 x.s3 (@List.length DTok ys) K := fun h => by
      rw [if_pos h] at hK
      exact nNF_of k1 j1 k2 (k3 _).1 hd hg hK
    refine ⟨fun h => hl (.inl h), fun h => hl (.inr (.inl h)), fun h => hl (.inr (.inr h)), fun h => ⟨ys, S, ⟨⟨rfl, j1⟩, rfl, ⟨k1, k2, k3⟩, hd⟩, ?_⟩⟩
    rw [if_neg (fun e => by rcases e with e | e | e <;> omega)] at hK
    obtain ⟨fb, _, _⟩ := dFr_ok (g := x.s3) j1 ⟨k1, k2, k3⟩ hd
    have hw : IntKind.i64.wrap (sg * (dFr s ys (dSkip ys i) (dk ys i).pos (dk ys i).next x.s3).1) = sg * (dFr s ys (dSkip ys i) (dk ys i).pos (dk ys i).next x.s3).1 := by rcases hg with h | h <;> rw [h] <;> exact wr_id (by omega) (by omega)
    rw [hw]
    exact hK
  · have y : ¬ (dk ys i).kind = 48 := of_decide_eq_false y
    rw [dTerm, if_neg y] at hK
    have hw : IntKind.i64.wrap (sg * 1) = sg := by rcases hg with h | h <;> rw [h] <;> decide
    rw [hw]
    exact lNF_of hi k2 (k3 _).1 hK
theorem dSv_pm (ys : List DTok) (i : Int) : dSv ys i = 1 ∨ dSv ys i = -1 := by unfold dSv; split <;> simp
theorem dRow_end {s : List UInt8} {ys : List DTok} {n : Nat} {x : DR} (h : ¬ dGo ys x) : dRowR s ys n x = x := by
  cases n with
  | zero => rfl
  | succ n => rw [dRowR, if_neg h]
theorem drow_run {s : List UInt8} {ys : List DTok} {i : Int} {len : Nat} (hl : len = @List.length DTok ys) (hi : 0 ≤ i ∧ i < (@List.length DTok ys : Int)) (ok : DOk s ys) (hend : (dk ys ((@List.length DTok ys : Int) - 1)).kind = 0 ∨ (dk ys ((@List.length DTok ys : Int) - 1)).kind = 101) :
    call P (Z4 stdOn) (annDR s ys (dRowF s ys i)) 1000 Tryz.f68 [.v (.one (.ptr 0 0))] (dH ys s i (-1) len) (dK ys s (.tup [.agg [.sym .i64 (dRowF s ys i).e0, .sym .i64 (dRowF s ys i).e1, .sym .i64 (dRowF s ys i).e2], .one (.sym .i64 (md24d (dRowF s ys i).part))]) (dRowF s ys i).i (dRowF s ys i).p) := by
  have S := sameT (C := dtkC) ys
  refine Eq.mpr (nfdrow ys s i (-1) _ _ _ _ _ _ len _) ⟨⟨⟨dr0 i, rfl⟩, trivial, ⟨rfl, ⟨rfl, hl.symm⟩, rfl, rfl, trivial⟩, S, trivial, ⟨rfl, rfl, rfl, trivial⟩, ⟨rfl, rfl, rfl, rfl, trivial⟩, ⟨rfl, trivial⟩, trivial⟩, fun ⟨x, hx⟩ => ?_⟩
  subst hx
  have d1 := dSi_ok hi
  refine ⟨⟨ys, S, ⟨rfl, hi, ok.2.1⟩, tNF_of (x := dr0 i) d1.2 ok (dSv_pm ys i) ?_⟩, fun ⟨⟨n, x⟩, hx⟩ => ⟨⟨⟨(n, x), hx⟩, trivial, ⟨rfl, ⟨rfl, rfl⟩, rfl, rfl, trivial⟩, S, trivial, ⟨rfl, rfl, rfl, trivial⟩, ⟨rfl, rfl, rfl, rfl, trivial⟩, ⟨rfl, trivial⟩, trivial⟩, fun ⟨⟨n, x⟩, hx⟩ => ?_⟩⟩
  · have hD := dTerm_ok (x := dr0 i) (sg := dSv ys i) d1.2 ok
    exact ⟨⟨(@List.length DTok ys + 1, dStep s ys (dr0 i)), ⟨rfl, fun _ => by have := hD.lo; show (@List.length DTok ys : Int) - (dTerm s ys (dr0 i) (dSv ys i) (dSi ys i)).i < ((@List.length DTok ys + 1 : Nat) : Int); omega, hD.p, ⟨Int.le_trans d1.2.1 hD.lo, hD.hi⟩⟩⟩, trivial, ⟨rfl, ⟨rfl, rfl⟩, rfl, rfl, trivial⟩, S, trivial, ⟨rfl, rfl, rfl, trivial⟩, ⟨rfl, rfl, rfl, rfl, trivial⟩, ⟨rfl, trivial⟩, trivial⟩
  · generalize dRowF s ys i = R at *
    obtain ⟨h1, h2, h3, h4⟩ := hx
    simp only at h1 h2 h3 h4
    have fin : ¬ dGo ys x → R = x := fun h => by rw [dRow_end h] at h1; exact h1.symm
    refine ⟨⟨fun y => ⟨ys, S, ⟨rfl, h4, ok.2.1⟩, fun z => ⟨⟨of_decide_eq_true y, .inl (of_decide_eq_true z)⟩, trivial, ⟨rfl, ⟨rfl, rfl⟩, rfl, rfl, trivial⟩, S, trivial, ⟨rfl, rfl, rfl, trivial⟩, ⟨rfl, rfl, rfl, rfl, trivial⟩, ⟨rfl, trivial⟩, trivial⟩, fun z => ⟨ys, S, ⟨rfl, h4, ok.2.1⟩, fun u => ⟨⟨of_decide_eq_true y, .inr (of_decide_eq_true u)⟩, trivial, ⟨rfl, ⟨rfl, rfl⟩, rfl, rfl, trivial⟩, S, trivial, ⟨rfl, rfl, rfl, trivial⟩, ⟨rfl, rfl, rfl, rfl, trivial⟩, ⟨rfl, trivial⟩, trivial⟩, fun u => ?_⟩⟩, fun y => ?_⟩, fun hx => ?_⟩
    · obtain rfl := fin (fun h => h.2.elim (of_decide_eq_false z) (of_decide_eq_false u))
      exact ⟨⟨⟨⟨rfl, rfl, rfl, trivial⟩, rfl, trivial⟩, trivial⟩, ⟨rfl, ⟨rfl, rfl⟩, rfl, rfl, trivial⟩, S, trivial⟩
    · obtain rfl := fin (fun h => of_decide_eq_false y h.1)
      exact ⟨⟨⟨⟨rfl, rfl, rfl, trivial⟩, rfl, trivial⟩, trivial⟩, ⟨rfl, ⟨rfl, rfl⟩, rfl, rfl, trivial⟩, S, trivial⟩
    · have hp : x.p < 0 := hx.down.1
      have hk : (dk ys x.i).kind = 43 ∨ (dk ys x.i).kind = 45 := hx.down.2
      have hp1 := h3 hp
      have hm := h2 hp
      have d1 := dSi_ok h4
      have hne : x.i < (@List.length DTok ys : Int) - 1 := by
        by_cases e : x.i = (@List.length DTok ys : Int) - 1
        · rw [← e] at hend
          omega
        · omega
      have hsi : dSi ys x.i = x.i + 1 := by
        have : dSkip ys x.i = x.i + 1 := if_pos hne
        unfold dSi
        rcases hk with k | k
        · rw [if_neg (by omega), if_pos k, this]
        · rw [if_pos k, this]
      obtain ⟨m, rfl⟩ : ∃ m, n = m + 1 := ⟨n - 1, by omega⟩
      rw [dRowR, if_pos ⟨hp, hk⟩] at h1
      have hD := dTerm_ok (x := x) (sg := dSv ys x.i) d1.2 ok
      have hr := tNF_of (s := s) (x := x) (K := tK2 s ys R (m + 1)) d1.2 ok (dSv_pm ys x.i) ⟨⟨(m, dStep s ys x), ⟨h1, fun _ => by have := hD.lo; show (@List.length DTok ys : Int) - (dTerm s ys x (dSv ys x.i) (dSi ys x.i)).i < (m : Int); omega, hD.p, ⟨Int.le_trans d1.2.1 hD.lo, hD.hi⟩⟩⟩, Nat.le_refl _, trivial, ⟨rfl, ⟨rfl, rfl⟩, rfl, rfl, trivial⟩, S, trivial, ⟨rfl, rfl, rfl, trivial⟩, ⟨rfl, rfl, rfl, rfl, trivial⟩, ⟨rfl, trivial⟩, trivial⟩
      rw [← hp1] at hr
      exact ⟨ys, S, ⟨rfl, h4, ok.2.1⟩, hr⟩
theorem hRowD : HoldsS P 68 120 158 dtkC qRowD := by
  refine ⟨Tryz.f68, by kernel_rfl, by kernel_rfl, fun os cs ys p v cs2 hq hp hno => ?_⟩
  unfold qRowD at hq
  split at hq
  · rename_i s len i pp
    simp only [Option.some.injEq, Prod.mk.injEq] at hq
    obtain ⟨rfl, rfl, rfl⟩ := hq
    obtain ⟨⟨h1, h2⟩, rfl, h4, h5⟩ := hp
    exact ⟨1000, annDR s ys (dRowF s ys i), Z4 stdOn, _, rfl, pZ4 stdOn, hno, fun _ _ h => h, ⟨drow_run h1 h2 h4 h5⟩⟩
  · cases hq
theorem pZ6 (o : OnB) : OkS P (Z6 o) := (pZ5 o).addSt fine hRowD
end Go.AM
