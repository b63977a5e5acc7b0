import Derived.Test.YtbehdodaaobcdaaGreatDoorA21
import Derived.Shelf.Strings.Search2
import Derived.Test.YtbehdodaaobcdaaGreatDoorProg
import Derived.Test.YtbehdodaaobcdaaGreatDoorA06
import Derived.Test.YtbehdodaaobcdaaGreatDoorA17
import Derived.Lib.Bytealg
set_option maxHeartbeats 4000000
open Go Go.AM Go.Proofs
namespace Go.AM
open Dist
theorem nfclose (xs : List OpI) (c : Nat) (K : KV) : call P RC (annClose xs) 100000 Tryz.f23 [.v (.one (.rs 0 12 xs.length c))] [.ro 0 cOp xs] K = (∃ (z:List cOp.τ),SameRows cOp z cOp xs/\(xs.length=xs.length/\True)/\((!decide (mapsE z=0))=true->K (.tup [.one .nils,.one (.sym .i64 (mapsE z))]) [Blk.ro 0 cOp xs])/\((!decide (mapsE z=0))=false->(∃ (z : { p:Nat × List OpI × List (OpI × Int)//p.1<=p.2.1.length/\p.2.1.length<=192/\SeenM p.2.1 p.2.2/\closeL xs=outerC xs (193-p.1) p.1 p.2.1 }),((xs.length=xs.length/\c=c)/\(0=0/\z.1.2.1.length=1)/\(↑z.1.1:Int)=0/\True)/\SameRows cOp xs cOp xs/\SameLit [(2,2),(0+1,0+1),(0,0)] cOp z.1.2.1 1 [.con .i64 ((1:Int)),.con .i64 ((0:Int)),.con .i64 ((0:Int)),.con .i64 ((0:Int)),.con .i64 ((1:Int)),.con .i64 ((0:Int)),.con .i64 ((0:Int)),.con .i64 ((0:Int)),.con .i64 ((1:Int)),.con .i64 ((0:Int)),.con .i64 ((0:Int)),.con .i64 ((0:Int))]/\EntsM cOp z.1.2.2 [(PV.mapS SV.lit (.agg [.con .i64 (1:Int),.con .i64 (0:Int),.con .i64 (0:Int),.con .i64 (0:Int),.con .i64 (1:Int),.con .i64 (0:Int),.con .i64 (0:Int),.con .i64 (0:Int),.con .i64 (1:Int),.con .i64 (0:Int),.con .i64 (0:Int),.con .i64 0]),ofValue (Value.int IntKind.i64 1))]/\True)/\∀ (x : { p:Nat × List OpI × List (OpI × Int)//p.1<=p.2.1.length/\p.2.1.length<=192/\SeenM p.2.1 p.2.2/\closeL xs=outerC xs (193-p.1) p.1 p.2.1 }),(decide ((↑x.1.1:Int)<(↑x.1.2.1.length:Int))=true->(∃ (z : { p:Nat × List OpI × List (OpI × Int)//p.1<=xs.length/\(↑x.1.1:Int).toNat<p.2.1.length/\p.2.1.length<=192/\SeenM p.2.1 p.2.2/\closeL xs=contC xs (192-(↑x.1.1:Int).toNat) (↑x.1.1:Int).toNat (innerC (gt p.2.1 (↑x.1.1:Int).toNat) (List.drop p.1 xs) p.2.1) }),((xs.length=xs.length/\c=c)/\(0=0/\z.1.2.1.length=x.1.2.1.length)/\(↑x.1.1:Int)=(↑x.1.1:Int)/\(xs.length=xs.length/\c=c)/\(↑xs.length:Int)=(↑xs.length:Int)/\(↑z.1.1:Int)=0/\True)/\SameRows cOp xs cOp xs/\SameRows cOp z.1.2.1 cOp x.1.2.1/\SameEnts cOp z.1.2.2 cOp x.1.2.2/\True)/\∀ (x_1 : { p:Nat × List OpI × List (OpI × Int)//p.1<=xs.length/\(↑x.1.1:Int).toNat<p.2.1.length/\p.2.1.length<=192/\SeenM p.2.1 p.2.2/\closeL xs=contC xs (192-(↑x.1.1:Int).toNat) (↑x.1.1:Int).toNat (innerC (gt p.2.1 (↑x.1.1:Int).toNat) (List.drop p.1 xs) p.2.1) }),(decide ((↑x_1.1.1:Int)<(↑xs.length:Int))=true->((0:Int)<=(↑x_1.1.1:Int)/\(↑x_1.1.1:Int)<(↑xs.length:Int))/\(↑x_1.1.1:Int).toNat.succ.le xs.length/\((0:Int)<=(↑x.1.1:Int)/\(↑x.1.1:Int)<(↑x_1.1.2.1.length:Int))/\(0+(↑x.1.1:Int).toNat).succ.le x_1.1.2.1.length/\(decide (oM (gt xs x_1.1.1) (x_1.1.2.1.getD (0+(↑x.1.1:Int).toNat) cOp.d)=0)=true->KeyLaw P 45 cOp/\(decide ((0:Int)<mval cOp x_1.1.2.2 (oR (gt xs x_1.1.1) (x_1.1.2.1.getD (0+(↑x.1.1:Int).toNat) cOp.d)))=true->∃ (z : { p:Nat × List OpI × List (OpI × Int)//p.1<=xs.length/\(↑x.1.1:Int).toNat<p.2.1.length/\p.2.1.length<=192/\SeenM p.2.1 p.2.2/\closeL xs=contC xs (192-(↑x.1.1:Int).toNat) (↑x.1.1:Int).toNat (innerC (gt p.2.1 (↑x.1.1:Int).toNat) (List.drop p.1 xs) p.2.1) }),(xs.length-z.1.1).succ.le (xs.length-x_1.1.1)/\((xs.length=xs.length/\c=c)/\(0=0/\z.1.2.1.length=x_1.1.2.1.length)/\(↑x.1.1:Int)=(↑x.1.1:Int)/\(xs.length=xs.length/\c=c)/\(↑xs.length:Int)=(↑xs.length:Int)/\(↑z.1.1:Int)=IntKind.i64.wrap ((↑x_1.1.1:Int)+1)/\True)/\SameRows cOp xs cOp xs/\SameRows cOp z.1.2.1 cOp x_1.1.2.1/\SameEnts cOp z.1.2.2 cOp x_1.1.2.2/\True)/\(decide ((0:Int)<mval cOp x_1.1.2.2 (oR (gt xs x_1.1.1) (x_1.1.2.1.getD (0+(↑x.1.1:Int).toNat) cOp.d)))=false->((!decide (oM (gt xs x_1.1.1) (x_1.1.2.1.getD (0+(↑x.1.1:Int).toNat) cOp.d)=0))=true->K (.tup [.one .nils,.one (.con .i64 5)]) [Blk.ro 0 cOp xs])/\((!decide (oM (gt xs x_1.1.1) (x_1.1.2.1.getD (0+(↑x.1.1:Int).toNat) cOp.d)=0))=false->(decide ((↑x_1.1.2.1.length:Int)=192)=true->K (.tup [.one .nils,.one (.con .i64 5)]) [Blk.ro 0 cOp xs])/\(decide ((↑x_1.1.2.1.length:Int)=192)=false->KeyLaw P 45 cOp/\(x_1.1.2.1.length=x_1.1.2.1.length/\((x_1.1.2.1.length+1)*96).le 140737488355328/\(x_1.1.2.1.length+1).le 4611686018427387904)/\∃ (z : { p:Nat × List OpI × List (OpI × Int)//p.1<=xs.length/\(↑x.1.1:Int).toNat<p.2.1.length/\p.2.1.length<=192/\SeenM p.2.1 p.2.2/\closeL xs=contC xs (192-(↑x.1.1:Int).toNat) (↑x.1.1:Int).toNat (innerC (gt p.2.1 (↑x.1.1:Int).toNat) (List.drop p.1 xs) p.2.1) }),(xs.length-z.1.1).succ.le (xs.length-x_1.1.1)/\((xs.length=xs.length/\c=c)/\(0=0/\z.1.2.1.length=x_1.1.2.1.length+1)/\(↑x.1.1:Int)=(↑x.1.1:Int)/\(xs.length=xs.length/\c=c)/\(↑xs.length:Int)=(↑xs.length:Int)/\(↑z.1.1:Int)=IntKind.i64.wrap ((↑x_1.1.1:Int)+1)/\True)/\SameRows cOp xs cOp xs/\SameRows cOp z.1.2.1 cOp (x_1.1.2.1++[(oR (gt xs x_1.1.1) (x_1.1.2.1.getD (0+(↑x.1.1:Int).toNat) cOp.d))])/\SameEnts cOp z.1.2.2 cOp (mput cOp x_1.1.2.2 (oR (gt xs x_1.1.1) (x_1.1.2.1.getD (0+(↑x.1.1:Int).toNat) cOp.d)) 1)/\True))))/\(decide (oM (gt xs x_1.1.1) (x_1.1.2.1.getD (0+(↑x.1.1:Int).toNat) cOp.d)=0)=false->((!decide (oM (gt xs x_1.1.1) (x_1.1.2.1.getD (0+(↑x.1.1:Int).toNat) cOp.d)=0))=true->K (.tup [.one .nils,.one (.con .i64 5)]) [Blk.ro 0 cOp xs])/\((!decide (oM (gt xs x_1.1.1) (x_1.1.2.1.getD (0+(↑x.1.1:Int).toNat) cOp.d)=0))=false->(decide ((↑x_1.1.2.1.length:Int)=192)=true->K (.tup [.one .nils,.one (.con .i64 5)]) [Blk.ro 0 cOp xs])/\(decide ((↑x_1.1.2.1.length:Int)=192)=false->KeyLaw P 45 cOp/\(x_1.1.2.1.length=x_1.1.2.1.length/\((x_1.1.2.1.length+1)*96).le 140737488355328/\(x_1.1.2.1.length+1).le 4611686018427387904)/\∃ (z : { p:Nat × List OpI × List (OpI × Int)//p.1<=xs.length/\(↑x.1.1:Int).toNat<p.2.1.length/\p.2.1.length<=192/\SeenM p.2.1 p.2.2/\closeL xs=contC xs (192-(↑x.1.1:Int).toNat) (↑x.1.1:Int).toNat (innerC (gt p.2.1 (↑x.1.1:Int).toNat) (List.drop p.1 xs) p.2.1) }),(xs.length-z.1.1).succ.le (xs.length-x_1.1.1)/\((xs.length=xs.length/\c=c)/\(0=0/\z.1.2.1.length=x_1.1.2.1.length+1)/\(↑x.1.1:Int)=(↑x.1.1:Int)/\(xs.length=xs.length/\c=c)/\(↑xs.length:Int)=(↑xs.length:Int)/\(↑z.1.1:Int)=IntKind.i64.wrap ((↑x_1.1.1:Int)+1)/\True)/\SameRows cOp xs cOp xs/\SameRows cOp z.1.2.1 cOp (x_1.1.2.1++[(oR (gt xs x_1.1.1) (x_1.1.2.1.getD (0+(↑x.1.1:Int).toNat) cOp.d))])/\SameEnts cOp z.1.2.2 cOp (mput cOp x_1.1.2.2 (oR (gt xs x_1.1.1) (x_1.1.2.1.getD (0+(↑x.1.1:Int).toNat) cOp.d)) 1)/\True))))/\(decide ((↑x_1.1.1:Int)<(↑xs.length:Int))=false->∃ (z : { p:Nat × List OpI × List (OpI × Int)//p.1<=p.2.1.length/\p.2.1.length<=192/\SeenM p.2.1 p.2.2/\closeL xs=outerC xs (193-p.1) p.1 p.2.1 }),(192-z.1.1).succ.le (192-x.1.1)/\((xs.length=xs.length/\c=c)/\(0=0/\z.1.2.1.length=x_1.1.2.1.length)/\(↑z.1.1:Int)=IntKind.i64.wrap ((↑x.1.1:Int)+1)/\True)/\SameRows cOp xs cOp xs/\SameRows cOp z.1.2.1 cOp x_1.1.2.1/\SameEnts cOp z.1.2.2 cOp x_1.1.2.2/\True))/\(decide ((↑x.1.1:Int)<(↑x.1.2.1.length:Int))=false->∃ (z:List cOp.τ),SameRows cOp z cOp x.1.2.1/\(x.1.2.1.length=x.1.2.1.length/\(Nat.succ 0).le x.1.2.1.length/\x.1.2.1.length.succ.le 4611686018427387904)/\K (.tup [.one (SV.ow (nat_lit 1) (nat_lit 12) 0 x.1.2.1.length false),.one (.con .i64 0)]) [Blk.ro 0 cOp xs,Blk.own (45) cOp (sortO z),Blk.omp cOp x.1.2.2]))) := by kernel_rfl
theorem leafCs {xs rs : List OpI} {n m : Int} (h : m = n) (hr : rs = []) : MatchTo 1 [.tup [.one .nils, .one (.sym .i64 n)]] [.ro 0 cOp xs] ([(AV.tup [.one (.ow 0 12 0 rs.length false), .one (.sym .i64 m)]).sh 1], .ro 0 cOp xs :: shH 1 [.own 45 cOp rs]) := by
  subst hr h
  exact (show MatchTo 1 [.tup [.one .nils, .one (.sym .i64 m)]] [.ro 0 cOp xs] ([(AV.tup [.one (.ow 0 12 0 ([] : List OpI).length false), .one (.sym .i64 m)]).sh 1], .ro 0 cOp xs :: shH 1 [.own 45 cOp ([] : List OpI)]) = (((((0 : Nat) = 0 ∧ ([] : List OpI).length = 0) ∧ m = m ∧ True) ∧ True) ∧ SameRows cOp xs cOp xs ∧ ([] : List OpI).length = 0 ∧ True) by kernel_rfl).mpr ⟨⟨⟨⟨rfl, rfl⟩, rfl, trivial⟩, trivial⟩, sameR _ _, rfl, trivial⟩
theorem leafC5 {xs rs : List OpI} {m : Int} (h : m = 5) (hr : rs = []) : MatchTo 1 [.tup [.one .nils, .one (.con .i64 5)]] [.ro 0 cOp xs] ([(AV.tup [.one (.ow 0 12 0 rs.length false), .one (.sym .i64 m)]).sh 1], .ro 0 cOp xs :: shH 1 [.own 45 cOp rs]) :=
  (show MatchTo 1 [.tup [.one .nils, .one (.con .i64 5)]] [.ro 0 cOp xs] ([(AV.tup [.one (.ow 0 12 0 rs.length false), .one (.sym .i64 m)]).sh 1], .ro 0 cOp xs :: shH 1 [.own 45 cOp rs]) = (((((0 : Nat) = 0 ∧ rs.length = 0) ∧ m = Int.ofNat 5 ∧ True) ∧ True) ∧ SameRows cOp xs cOp xs ∧ rs.length = 0 ∧ True) by kernel_rfl).mpr ⟨⟨⟨⟨rfl, by rw [hr]; rfl⟩, h, trivial⟩, trivial⟩, sameR _ _, by rw [hr]; rfl, trivial⟩
theorem leafC0 {xs rs al : List OpI} {es : List (OpI × Int)} {m : Int} (h : m = 0) (hr : rs = sortO al) (hl : rs.length = al.length) : MatchTo 1 [.tup [.one (.ow 1 12 0 al.length false), .one (.con .i64 0)]] [.ro 0 cOp xs, .own 45 cOp (sortO al), .omp cOp es] ([(AV.tup [.one (.ow 0 12 0 rs.length false), .one (.sym .i64 m)]).sh 1], .ro 0 cOp xs :: shH 1 [.own 45 cOp rs]) :=
  (show MatchTo 1 [.tup [.one (.ow 1 12 0 al.length false), .one (.con .i64 0)]] [.ro 0 cOp xs, .own 45 cOp (sortO al), .omp cOp es] ([(AV.tup [.one (.ow 0 12 0 rs.length false), .one (.sym .i64 m)]).sh 1], .ro 0 cOp xs :: shH 1 [.own 45 cOp rs]) = (((((0 : Nat) = 0 ∧ rs.length = al.length) ∧ m = Int.ofNat 0 ∧ True) ∧ True) ∧ SameRows cOp xs cOp xs ∧ SameRows cOp rs cOp (sortO al) ∧ True) by kernel_rfl).mpr ⟨⟨⟨⟨rfl, hl⟩, h, trivial⟩, trivial⟩, sameR _ _, by rw [hr]; exact sameR _ _, trivial⟩
theorem sameEn (C : Codec) (es : List (C.τ × Int)) : SameEnts C es C es := ⟨rfl⟩
theorem outer_end {xs all : List OpI} {i : Nat} (h : ¬ i < all.length) : ∀ n, outerC xs n i all = some all
  | 0 => rfl
  | n + 1 => by unfold outerC; rw [if_neg h]
theorem outer_pos {xs : List OpI} : ∀ {n i : Nat} {all r : List OpI}, outerC xs n i all = some r → all.length ≤ 192 → 0 < all.length → 0 < r.length
  | 0, i, all, r, h, hl, hp => by
    simp only [outerC, Option.some.injEq] at h
    subst h
    exact hp
  | n + 1, i, all, r, h, hl, hp => by
    unfold outerC at h
    split at h
    · split at h
      · rename_i l hi
        obtain ⟨h1, m, h2⟩ := inner_len hi hl
        exact outer_pos h h1 (by rw [h2, List.length_append]; omega)
      · cases h
    · simp only [Option.some.injEq] at h
      subst h
      exact hp
theorem outer_in {xs all : List OpI} {i : Nat} (h : i < all.length) (hl : all.length ≤ 192) : outerC xs (193 - i) i all = contC xs (192 - i) i (innerC (gt all i) xs all) := by
  have e : 193 - i = (192 - i) + 1 := by omega
  rw [e]
  conv => lhs; unfold outerC
  rw [if_pos h]
  rfl
theorem gt_app {all : List OpI} {p : OpI} {i : Nat} (h : i < all.length) : gt (all ++ [p]) i = gt all i := by
  unfold gt
  simp [List.getD_eq_getElem?_getD, List.getElem?_append_left h]
theorem callClose (xs : List OpI) (c : Nat) : CallR P RC (annClose xs) 100000 Tryz.f23 [.v (.one (.rs 0 12 xs.length c))] [.ro 0 cOp xs] (fun v' h' => MatchTo 1 [v'] h' ([(AV.tup [.one (.ow 0 12 0 (closeR xs).length false), .one (.sym .i64 (closeE xs))]).sh 1], .ro 0 cOp xs :: shH 1 [.own 45 cOp (closeR xs)])) := by
  refine ⟨?_⟩
  rw [nfclose]
  refine ⟨xs, sameR _ _, ⟨rfl, trivial⟩, fun h => ?_, fun h => ?_⟩
  · have h : mapsE xs ≠ 0 := by simpa using h
    exact leafCs (by rw [closeE, if_pos h]) (by rw [closeR, if_pos h])
  have h : mapsE xs = 0 := by simpa using h
  have h192 : xs.length ≤ 192 := by
    unfold mapsE at h
    split at h
    · cases h
    · omega
  have nope : closeL xs = none → MatchTo 1 [.tup [.one .nils, .one (.con .i64 5)]] [.ro 0 cOp xs] ([(AV.tup [.one (.ow 0 12 0 (closeR xs).length false), .one (.sym .i64 (closeE xs))]).sh 1], .ro 0 cOp xs :: shH 1 [.own 45 cOp (closeR xs)]) := fun h5 =>
    leafC5 (by rw [closeE, if_neg (by simpa using h), h5]) (by rw [closeR, if_neg (by simpa using h), h5])
  refine ⟨⟨⟨(0, [oneO], mput cOp [] oneO 1), Nat.zero_le _, by decide, seen_one, rfl⟩, ⟨⟨rfl, rfl⟩, ⟨rfl, rfl⟩, rfl, trivial⟩, sameR _ _, ?_, ?_, trivial⟩, fun x => ⟨fun hk => ?_, fun hk => ?_⟩⟩
  · exact ⟨rfl, (show eqsL _ (flatC cOp [oneO]) _ = ((1 : Int) = 1 ∧ (0 : Int) = 0 ∧ (0 : Int) = 0 ∧ (0 : Int) = 0 ∧ (1 : Int) = 1 ∧ (0 : Int) = 0 ∧ (0 : Int) = 0 ∧ (0 : Int) = 0 ∧ (1 : Int) = 1 ∧ (0 : Int) = 0 ∧ (0 : Int) = 0 ∧ (0 : Int) = 0 ∧ True) by kernel_rfl).mpr ⟨rfl, rfl, rfl, rfl, rfl, rfl, rfl, rfl, rfl, rfl, rfl, rfl, trivial⟩⟩
  · exact ⟨(show eqsM [] (omE cOp (mput cOp [] oneO 1)) _ = (((1 : Int) = 1 ∧ (0 : Int) = 0 ∧ (0 : Int) = 0 ∧ (0 : Int) = 0 ∧ (1 : Int) = 1 ∧ (0 : Int) = 0 ∧ (0 : Int) = 0 ∧ (0 : Int) = 0 ∧ (1 : Int) = 1 ∧ (0 : Int) = 0 ∧ (0 : Int) = 0 ∧ (0 : Int) = 0 ∧ True) ∧ (1 : Int) = 1 ∧ True) by kernel_rfl).mpr ⟨⟨rfl, rfl, rfl, rfl, rfl, rfl, rfl, rfl, rfl, rfl, rfl, rfl, trivial⟩, rfl, trivial⟩⟩
  · obtain ⟨⟨i, al, es⟩, h1, h2, h3, h4⟩ := x
    have h1 : i ≤ al.length := h1
    have h2 : al.length ≤ 192 := h2
    have h3 : SeenM al es := h3
    have h4 : closeL xs = outerC xs (193 - i) i al := h4
    have hk : (i : Int) < al.length := of_decide_eq_true hk
    have hk' : i < al.length := by omega
    rw [outer_in hk' h2] at h4
    refine ⟨⟨⟨(0, al, es), Nat.zero_le _, hk', h2, h3, h4⟩, ⟨⟨rfl, rfl⟩, ⟨rfl, rfl⟩, rfl, ⟨rfl, rfl⟩, rfl, rfl, trivial⟩, sameR _ _, sameR _ _, sameEn _ _, trivial⟩, fun y => ⟨fun hm => ?_, fun hm => ?_⟩⟩
    · obtain ⟨⟨j, bl, fs⟩, g1, g2, g3, g4, g5⟩ := y
      have g1 : j ≤ xs.length := g1
      have g2 : i < bl.length := g2
      have g3 : bl.length ≤ 192 := g3
      have g4 : SeenM bl fs := g4
      have g5 : closeL xs = contC xs (192 - i) i (innerC (gt bl i) (xs.drop j) bl) := g5
      have hm : (j : Int) < xs.length := of_decide_eq_true hm
      have hm' : j < xs.length := by omega
      have w3 := wr_id (n := (j : Int) + 1) (by omega) (by omega)
      rw [drop_gt hm'] at g5
      have eg : gt bl i = bl.getD (0 + i) cOp.d := by rw [Nat.zero_add]; rfl
      have next : ∀ bl' fs', i < bl'.length → bl'.length ≤ 192 → SeenM bl' fs' → closeL xs = contC xs (192 - i) i (innerC (gt bl' i) (xs.drop (j + 1)) bl') → ∃ (z : { p : Nat × List OpI × List (OpI × Int) // p.fst ≤ xs.length ∧ (↑i : Int).toNat < p.snd.fst.length ∧ p.snd.fst.length ≤ (192 : Nat) ∧ SeenM p.snd.fst p.snd.snd ∧ closeL xs = contC xs ((192 : Nat) - (↑i : Int).toNat) (↑i : Int).toNat (innerC (gt p.snd.fst (↑i : Int).toNat) (List.drop p.fst xs) p.snd.fst) }), (xs.length - z.val.fst).succ.le (xs.length - j) ∧ ((xs.length = xs.length ∧ c = c) ∧ ((0 : Nat) = (0 : Nat) ∧ z.val.snd.fst.length = bl'.length) ∧ (↑i : Int) = (↑i : Int) ∧ (xs.length = xs.length ∧ c = c) ∧ (↑xs.length : Int) = (↑xs.length : Int) ∧ (↑z.val.fst : Int) = IntKind.i64.wrap ((↑j : Int) + (1 : Int)) ∧ True) ∧ SameRows cOp xs cOp xs ∧ SameRows cOp z.val.snd.fst cOp bl' ∧ SameEnts cOp z.val.snd.snd cOp fs' ∧ True := fun bl' fs' k1 k2 k3 k4 =>
        ⟨⟨(j + 1, bl', fs'), hm', k1, k2, k3, k4⟩, show xs.length - (j + 1) < xs.length - j by omega, ⟨⟨rfl, rfl⟩, ⟨rfl, rfl⟩, rfl, ⟨rfl, rfl⟩, rfl, w3.symm, trivial⟩, sameR _ _, sameR _ _, sameEn _ _, trivial⟩
      refine ⟨⟨by show (0 : Int) ≤ (j : Int); omega, hm⟩, hm', ⟨by show (0 : Int) ≤ (i : Int); omega, by show (i : Int) < (bl.length : Int); omega⟩, by show 0 + i < bl.length; omega, fun hM => ?_, fun hM => ?_⟩
      · have hM : oM (gt xs j) (gt bl i) = 0 := by rw [eg]; exact of_decide_eq_true hM
        have g6 : closeL xs = contC xs (192 - i) i (if oR (gt xs j) (gt bl i) ∈ bl then innerC (gt bl i) (xs.drop (j + 1)) bl else if bl.length = 192 then none else innerC (gt bl i) (xs.drop (j + 1)) (bl ++ [oR (gt xs j) (gt bl i)])) := by
          rw [g5]
          conv => lhs; unfold innerC
          rw [if_pos hM]
        refine ⟨keyOp, fun hs => ?_, fun hs => ⟨fun hz => ?_, fun hz => ⟨fun hn => ?_, fun hn => ?_⟩⟩⟩
        · have hs : 0 < mval cOp fs (oR (gt xs j) (gt bl i)) := by rw [eg]; exact of_decide_eq_true hs
          rw [if_pos ((g4.pos _).1 hs)] at g6
          exact next bl fs g2 g3 g4 g6
        · have hz : (!decide (oM (gt xs j) (gt bl i) = 0)) = true := by rw [eg]; exact hz
          simp [hM] at hz
        · have hs : ¬ 0 < mval cOp fs (oR (gt xs j) (gt bl i)) := by rw [eg]; exact of_decide_eq_false hs
          have hn : (bl.length : Int) = 192 := of_decide_eq_true hn
          rw [if_neg (fun e => hs ((g4.pos _).2 e)), if_pos (show bl.length = 192 by omega)] at g6
          exact nope g6
        · have hs : ¬ 0 < mval cOp fs (oR (gt xs j) (gt bl i)) := by rw [eg]; exact of_decide_eq_false hs
          have hn : ¬ (bl.length : Int) = 192 := of_decide_eq_false hn
          rw [if_neg (fun e => hs ((g4.pos _).2 e)), if_neg (show ¬ bl.length = 192 by omega)] at g6
          have hx := next (bl ++ [oR (gt xs j) (gt bl i)]) (mput cOp fs (oR (gt xs j) (gt bl i)) 1) (by rw [List.length_append]; omega) (by rw [List.length_append, List.length_singleton]; omega) (g4.put _) (by rw [gt_app g2]; exact g6)
          rw [List.length_append, List.length_singleton, eg] at hx
          exact ⟨keyOp, ⟨rfl, by show (bl.length + 1) * 96 ≤ _; omega, by show bl.length + 1 ≤ _; omega⟩, hx⟩
      · have hM : ¬ oM (gt xs j) (gt bl i) = 0 := by rw [eg]; exact of_decide_eq_false hM
        have g6 : closeL xs = none := by
          rw [g5]
          conv => lhs; unfold innerC
          rw [if_neg hM]
          rfl
        refine ⟨fun _ => nope g6, fun hz => ?_⟩
        have hz : (!decide (oM (gt xs j) (gt bl i) = 0)) = false := by rw [eg]; exact hz
        simp [hM] at hz
    · obtain ⟨⟨j, bl, fs⟩, g1, g2, g3, g4, g5⟩ := y
      have g1 : j ≤ xs.length := g1
      have g2 : i < bl.length := g2
      have g3 : bl.length ≤ 192 := g3
      have g4 : SeenM bl fs := g4
      have g5 : closeL xs = contC xs (192 - i) i (innerC (gt bl i) (xs.drop j) bl) := g5
      have hm : ¬ (j : Int) < xs.length := of_decide_eq_false hm
      obtain rfl : j = xs.length := by omega
      rw [List.drop_length] at g5
      have w3 := wr_id (n := (i : Int) + 1) (by omega) (by omega)
      have e : 193 - (i + 1) = 192 - i := by omega
      exact ⟨⟨(i + 1, bl, fs), g2, g3, g4, by show closeL xs = outerC xs (193 - (i + 1)) (i + 1) bl; rw [e]; exact g5⟩, show 192 - (i + 1) < 192 - i by omega, ⟨⟨rfl, rfl⟩, ⟨rfl, rfl⟩, w3.symm, trivial⟩, sameR _ _, sameR _ _, sameEn _ _, trivial⟩
  · obtain ⟨⟨i, al, es⟩, h1, h2, h3, h4⟩ := x
    have h1 : i ≤ al.length := h1
    have h2 : al.length ≤ 192 := h2
    have h4 : closeL xs = outerC xs (193 - i) i al := h4
    have hk : ¬ (i : Int) < al.length := of_decide_eq_false hk
    have hk' : ¬ i < al.length := by omega
    rw [outer_end hk'] at h4
    have hpos : 0 < al.length := outer_pos h4 (by decide) (by decide)
    have hr : closeR xs = sortO al := by rw [closeR, if_neg (by simpa using h), h4]
    refine ⟨al, sameR _ _, ⟨rfl, hpos, by show al.length < _; omega⟩, leafC0 (by rw [closeE, if_neg (by simpa using h), h4]) hr (by rw [hr, sortO, List.length_mergeSort])⟩
def qClose : RSpec cOp := fun os xs => match os with
  | [] => some (True, .tup [.one (.ow 0 12 0 (closeR xs).length false), .one (.sym .i64 (closeE xs))], [.own 45 cOp (closeR xs)])
  | _ => none
theorem hrClose : HoldsR P 23 0 cOp qClose := by
  refine ⟨Tryz.f23, by kernel_rfl, by kernel_rfl, fun os (xs : List OpI) p v hs hq hp hno c => ?_⟩
  match os, hq with
  | [], hq =>
    have := Option.some.inj hq
    simp only [Prod.mk.injEq] at this
    obtain ⟨rfl, rfl, rfl⟩ := this
    exact ⟨100000, annClose xs, RC, rfl, pRC, callClose xs c⟩
end Go.AM

namespace Go.Proofs
open Go.Shelf
def Tryz.lays219_ren : Go.Shelf.Ren := ⟨fun | 219 => 54 | 217 => 78 | 225 => 79 | 224 => 80 | 267 => 81 | 266 => 118 | 314 => 119 | n => n, fun | 9 => 9 | 3 => 3 | 4 => 4 | 5 => 5 | 46 => 114 | 146 => 187 | 51 => 131 | n => n, fun | 1 => 2 | n => n⟩
theorem Tryz.lays219 : Lays.n219 Tryz.prog Tryz.lays219_ren := {
  mixed := by kernel_rfl
  f217 := Tryz.func78.trans (congrArg some (by kernel_rfl))
  f219 := Tryz.func54.trans (congrArg some (by kernel_rfl))
  f224 := Tryz.func80.trans (congrArg some (by kernel_rfl))
  f225 := Tryz.func79.trans (congrArg some (by kernel_rfl))
  f266 := Tryz.func118.trans (congrArg some (by kernel_rfl))
  f267 := Tryz.func81.trans (congrArg some (by kernel_rfl))
  f314 := Tryz.func119.trans (congrArg some (by kernel_rfl))
  t3 := Tryz.underlying3
  a3 := Tryz.isAgg3
  z3 := Tryz.sizeOf3
  v3 := Tryz.zeroValue3
  t4 := Tryz.underlying4
  a4 := Tryz.isAgg4
  z4 := Tryz.sizeOf4
  v4 := Tryz.zeroValue4
  t5 := Tryz.underlying5
  a5 := Tryz.isAgg5
  z5 := Tryz.sizeOf5
  v5 := Tryz.zeroValue5
  t9 := Tryz.underlying9
  a9 := Tryz.isAgg9
  z9 := Tryz.sizeOf9
  v9 := Tryz.zeroValue9
  t46 := Tryz.underlying114
  a46 := Tryz.isAgg114
  z46 := Tryz.sizeOf114
  v46 := Tryz.zeroValue114
  t51 := Tryz.underlying131
  a51 := Tryz.isAgg131
  z51 := Tryz.sizeOf131
  v51 := Tryz.zeroValue131
  t146 := Tryz.underlying187
  a146 := Tryz.isAgg187
  z146 := Tryz.sizeOf187
  v146 := Tryz.zeroValue187
  g1 := by kernel_rfl }
def Tryz.lays157_ren : Go.Shelf.Ren := ⟨fun | 157 => 28 | 229 => 45 | 199 => 46 | 261 => 72 | 311 => 114 | 312 => 115 | n => n, fun | 9 => 9 | 31 => 23 | 3 => 3 | 5 => 5 | 4 => 4 | 119 => 93 | 0 => 0 | 40 => 95 | 152 => 128 | 21 => 21 | 154 => 130 | 51 => 131 | 141 => 133 | 196 => 174 | 193 => 171 | 198 => 177 | 49 => 175 | 194 => 172 | 201 => 180 | 226 => 199 | 46 => 114 | 227 => 200 | n => n, fun | 0 => 0 | 6 => 1 | n => n⟩
theorem Tryz.lays157 : Lays.n157 Tryz.prog Tryz.lays157_ren := {
  mixed := by kernel_rfl
  f157 := Tryz.func28.trans (congrArg some (by kernel_rfl))
  f199 := Tryz.func46.trans (congrArg some (by kernel_rfl))
  f229 := Tryz.func45.trans (congrArg some (by kernel_rfl))
  f261 := Tryz.func72.trans (congrArg some (by kernel_rfl))
  f311 := Tryz.func114.trans (congrArg some (by kernel_rfl))
  f312 := Tryz.func115.trans (congrArg some (by kernel_rfl))
  t0 := Tryz.underlying0
  a0 := Tryz.isAgg0
  z0 := Tryz.sizeOf0
  v0 := Tryz.zeroValue0
  t3 := Tryz.underlying3
  a3 := Tryz.isAgg3
  z3 := Tryz.sizeOf3
  v3 := Tryz.zeroValue3
  t4 := Tryz.underlying4
  a4 := Tryz.isAgg4
  z4 := Tryz.sizeOf4
  v4 := Tryz.zeroValue4
  t5 := Tryz.underlying5
  a5 := Tryz.isAgg5
  z5 := Tryz.sizeOf5
  v5 := Tryz.zeroValue5
  t9 := Tryz.underlying9
  a9 := Tryz.isAgg9
  z9 := Tryz.sizeOf9
  v9 := Tryz.zeroValue9
  t21 := Tryz.underlying21
  a21 := Tryz.isAgg21
  z21 := Tryz.sizeOf21
  v21 := Tryz.zeroValue21
  t31 := Tryz.underlying23
  a31 := Tryz.isAgg23
  z31 := Tryz.sizeOf23
  v31 := Tryz.zeroValue23
  t40 := Tryz.underlying95
  a40 := Tryz.isAgg95
  z40 := Tryz.sizeOf95
  v40 := Tryz.zeroValue95
  t46 := Tryz.underlying114
  a46 := Tryz.isAgg114
  z46 := Tryz.sizeOf114
  v46 := Tryz.zeroValue114
  t49 := Tryz.underlying175
  a49 := Tryz.isAgg175
  z49 := Tryz.sizeOf175
  v49 := Tryz.zeroValue175
  t51 := Tryz.underlying131
  a51 := Tryz.isAgg131
  z51 := Tryz.sizeOf131
  v51 := Tryz.zeroValue131
  t119 := Tryz.underlying93
  a119 := Tryz.isAgg93
  z119 := Tryz.sizeOf93
  t141 := Tryz.underlying133
  a141 := Tryz.isAgg133
  z141 := Tryz.sizeOf133
  v141 := Tryz.zeroValue133
  t152 := Tryz.underlying128
  a152 := Tryz.isAgg128
  z152 := Tryz.sizeOf128
  v152 := Tryz.zeroValue128
  t154 := Tryz.underlying130
  a154 := Tryz.isAgg130
  z154 := Tryz.sizeOf130
  v154 := Tryz.zeroValue130
  t193 := Tryz.underlying171
  a193 := Tryz.isAgg171
  z193 := Tryz.sizeOf171
  v193 := Tryz.zeroValue171
  t194 := Tryz.underlying172
  a194 := Tryz.isAgg172
  z194 := Tryz.sizeOf172
  v194 := Tryz.zeroValue172
  t196 := Tryz.underlying174
  a196 := Tryz.isAgg174
  z196 := Tryz.sizeOf174
  v196 := Tryz.zeroValue174
  t198 := Tryz.underlying177
  a198 := Tryz.isAgg177
  z198 := Tryz.sizeOf177
  v198 := Tryz.zeroValue177
  t201 := Tryz.underlying180
  a201 := Tryz.isAgg180
  z201 := Tryz.sizeOf180
  v201 := Tryz.zeroValue180
  t226 := Tryz.underlying199
  a226 := Tryz.isAgg199
  z226 := Tryz.sizeOf199
  v226 := Tryz.zeroValue199
  t227 := Tryz.underlying200
  a227 := Tryz.isAgg200
  z227 := Tryz.sizeOf200
  v227 := Tryz.zeroValue200
  g0 := by kernel_rfl
  g6 := by kernel_rfl }
end Go.Proofs
namespace Go.AM
open Go Go.Proofs Go.RowKit
def idxB : List UInt8 → Nat → Nat → Int
  | [], _, _ => -1
  | b :: l, c, n => if b.toNat = c then (n : Int) else idxB l c (n + 1)
theorem idxB_eq (c : UInt8) : ∀ (l : List UInt8) (n : Nat), idxB l c.toNat n = if Lib.indexByte l c = -1 then -1 else (n : Int) + Lib.indexByte l c
  | [], _ => rfl
  | b :: l, n => by
    have h1 : (b == c) = true ↔ b.toNat = c.toNat := by
      rw [beq_iff_eq]
      exact ⟨fun h => by rw [h], fun h => UInt8.toNat.inj h⟩
    have h2 := idxB_eq c l (n + 1)
    have h3 := Lib.indexByte_ge l c
    unfold idxB Lib.indexByte
    by_cases e : b.toNat = c.toNat
    · rw [if_pos e, if_pos (h1.2 e)]
      simp
    · rw [if_neg e, if_neg (fun h => e (h1.1 h)), h2]
      by_cases e2 : Lib.indexByte l c = -1
      · simp [e2]
      · have e3 : (Lib.indexByte l c == -1) = false := by simp [e2]
        have e4 : Lib.indexByte l c + 1 ≠ -1 := by omega
        simp only [e2, e3, e4, if_false, Bool.false_eq_true]
        push_cast
        omega
def idxQ : PSpec := fun args => match args with
  | [.v (.one (.str s)), .v (.one (.str [c]))] => .ok (.v (.one (.sym .i64 (idxB s c.toNat 0))))
  | _ => .fail
theorem hIdx : HoldsC P 54 idxQ := by
  refine ⟨_, Tryz.func54, by kernel_rfl, fun args av hg => ?_⟩
  unfold idxQ at hg
  split at hg
  · rename_i s c
    have := gives_ok hg
    subst this
    refine ⟨rfl, _, rfl, fun w vals _ hA => ?_⟩
    obtain ⟨v1, v2, rfl⟩ : ∃ v1 v2, vals = [v1, v2] := by
      match vals, hA.length with
      | [a, b], _ => exact ⟨a, b, rfl⟩
    have e1 := str_R hA.1
    have e2 := str_R hA.2.1
    rw [e1, e2]
    refine (Any.stringslite_Index_one Tryz.lays219 ⟨s.toArray⟩ c w).mono ?_
    rintro e w' ⟨rfl, rfl⟩
    refine ⟨?_, rfl, rfl, rfl, Nat.le_refl _, fun _ _ _ => rfl⟩
    rw [idxB_eq]
    split
    · rename_i h; simp only [h]
    · simp
  · exact (gives_fail hg).elim
end Go.AM
