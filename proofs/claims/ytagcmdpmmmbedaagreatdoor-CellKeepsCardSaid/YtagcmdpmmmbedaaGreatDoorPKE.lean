import Derived.Test.YtagcmdpmmmbedaaGreatDoorKC
/- The document's Check of a group, on open lists: its parts. -/
open Go Go.AM Go.Proofs
namespace Go.AM
/-- the document's product -/
def rO (o q : OpI) : OpI := ⟨tn o.a o.b o.c q.a q.d q.g, tn o.a o.b o.c q.b q.e q.h, tn o.a o.b o.c q.c q.f q.i, tn o.d o.e o.f q.a q.d q.g, tn o.d o.e o.f q.b q.e q.h, tn o.d o.e o.f q.c q.f q.i, tn o.g o.h o.i q.a q.d q.g, tn o.g o.h o.i q.b q.e q.h, tn o.g o.h o.i q.c q.f q.i, rt o.a o.b o.c q.x q.y q.z o.x, rt o.d o.e o.f q.x q.y q.z o.y, rt o.g o.h o.i q.x q.y q.z o.z⟩
def qRmulO : PSpec
  | [.v (.agg [.sym .i64 a, .sym .i64 b, .sym .i64 c, .sym .i64 d, .sym .i64 e, .sym .i64 f, .sym .i64 g, .sym .i64 h, .sym .i64 i, .sym .i64 x, .sym .i64 y, .sym .i64 z]), .v (.agg [.sym .i64 p, .sym .i64 q, .sym .i64 r, .sym .i64 s, .sym .i64 t, .sym .i64 u, .sym .i64 v, .sym .i64 w, .sym .i64 k, .sym .i64 l, .sym .i64 m, .sym .i64 n])] => .ok (.v (.agg (opS (rO ⟨a, b, c, d, e, f, g, h, i, x, y, z⟩ ⟨p, q, r, s, t, u, v, w, k, l, m, n⟩))))
  | _ => .fail
theorem ohRmulO : Holds P O9 51 qRmulO := by
  obtain ⟨fn, h1, h2, h3⟩ := oh_rmul
  refine ⟨fn, h1, h2, fun args av hg => ?_⟩
  unfold qRmulO at hg
  split at hg
  · rename_i a b c d e f g h i x y z p q r s t u v w k l m n
    rw [gives_ok hg]
    exact h3 _ _ (show (qRmul [.v (.agg [.sym .i64 a, .sym .i64 b, .sym .i64 c, .sym .i64 d, .sym .i64 e, .sym .i64 f, .sym .i64 g, .sym .i64 h, .sym .i64 i, .sym .i64 x, .sym .i64 y, .sym .i64 z]), .v (.agg [.sym .i64 p, .sym .i64 q, .sym .i64 r, .sym .i64 s, .sym .i64 t, .sym .i64 u, .sym .i64 v, .sym .i64 w, .sym .i64 k, .sym .i64 l, .sym .i64 m, .sym .i64 n])]).gives _ from .inl rfl)
  · exact (gives_fail hg).elim
def qOneO : PSpec
  | [] => .ok (.v (.agg (opS oneO)))
  | _ => .fail
theorem nfrone (K : KV) : call P O9 noAnn 1000 Tryz.f50 [] [] K = K (AV.v (PV.agg [SV.con IntKind.i64 1, SV.con IntKind.i64 0, SV.con IntKind.i64 0, SV.con IntKind.i64 0, SV.con IntKind.i64 1, SV.con IntKind.i64 0, SV.con IntKind.i64 0, SV.con IntKind.i64 0, SV.con IntKind.i64 1, SV.con IntKind.i64 0, SV.con IntKind.i64 0, SV.con IntKind.i64 0])) [] := by kernel_rfl
theorem ohRone : Holds P O9 50 qOneO := by
  refine holds_okA (fn := Tryz.f50) noAnn 1000 rfl (by kernel_rfl) (by kernel_rfl) fun args av hg => ?_
  unfold qOneO at hg
  split at hg
  · rw [gives_ok hg]
    refine ⟨rfl, _, rfl, ?_⟩
    rw [nfrone]
    exact ⟨rfl, rfl⟩
  · exact (gives_fail hg).elim
def T0 : Sums := ((R3.add 51 qRmulO).add 48 qCmpO).addR 50 qOneO
theorem pT0 : OkS P T0 := ((pR3.add1 fine pO9 ohRmulO).add1 fine pO9 oh_rcmp12).addR fine (ohRone.toE pO9)
/-- where a map stands in a list -/
def placeL (o : OpI) : List OpI → Int → Int
  | [], _ => -1
  | q :: l, i => if q = o then i else placeL o l (i + 1)
def placeI (xs : List OpI) (o : OpI) : Int := placeL o xs 0
def annDMaps (xs : List OpI) : Annos := ⟨1, fun id env h => if id = 3 then forceE (keepS [0, 3, 7, 8, 9] 0 env) fun env => some ⟨{ p : Nat × Int // p.1 ≤ xs.length ∧ mapsL xs 0 = mapsL (xs.drop p.1) p.2 }, fun p => (set (set env 9 (I' (p.1.1 : Int))) 3 (I' p.1.2), headH 1 h), fun p => xs.length - p.1.1⟩ else none, fun _ => none⟩
def annPlace (xs : List OpI) (o : OpI) : Annos := ⟨1, fun id env h => if id = 2 then forceE (keepS [0, 3, 7, 8, 9] 0 env) fun env => some ⟨{ i : Nat // i ≤ xs.length ∧ placeI xs o = placeL o (xs.drop i) i }, fun i => (set env 9 (I' (i.1 : Int)), headH 2 h), fun i => xs.length - i.1⟩ else none, fun _ => none⟩
end Go.AM
/- The document's Maps and Place, on open lists. -/
open Go Go.AM Go.Proofs
namespace Go.AM
open Dist
set_option maxRecDepth 100000
theorem nfDMaps (xs : List OpI) (c : Nat) (K : KV) : call P T0 (annDMaps xs) 100000 Tryz.f47 [.v (.one (.rs 0 12 xs.length c))] [.ro 0 cOp xs] K = ((∃ (z : { p : Nat × Int // p.fst ≤ xs.length ∧ mapsL xs (0 : Int) = mapsL (List.drop p.fst xs) p.snd }), ((xs.length = xs.length ∧ c = c) ∧ z.val.snd = (0 : Int) ∧ (xs.length = xs.length ∧ c = c) ∧ (↑xs.length : Int) = (↑xs.length : Int) ∧ (↑z.val.fst : Int) = (0 : Int) ∧ True) ∧ SameRows cOp xs cOp xs ∧ True) ∧ ∀ (x : { p : Nat × Int // p.fst ≤ xs.length ∧ mapsL xs (0 : Int) = mapsL (List.drop p.fst xs) p.snd }), (decide ((↑x.val.fst : Int) < (↑xs.length : Int)) = true → ((0 : Int) ≤ (↑x.val.fst : Int) ∧ (↑x.val.fst : Int) < (↑xs.length : Int)) ∧ (↑x.val.fst : Int).toNat.succ.le xs.length ∧ ((!ovO (gt xs x.val.fst)) = true → ((24 : Int) = (0 : Int) → False) ∧ ((!(decide ((gt xs x.val.fst).x = modR (gt xs x.val.fst).x (24 : Int)) && (decide ((gt xs x.val.fst).y = modR (gt xs x.val.fst).y (24 : Int)) && (decide ((gt xs x.val.fst).z = modR (gt xs x.val.fst).z (24 : Int)) && true)))) = true → K (AV.v (PV.one (SV.con IntKind.i64 (3 : Int)))) [Blk.ro 0 cOp xs]) ∧ ((!(decide ((gt xs x.val.fst).x = modR (gt xs x.val.fst).x (24 : Int)) && (decide ((gt xs x.val.fst).y = modR (gt xs x.val.fst).y (24 : Int)) && (decide ((gt xs x.val.fst).z = modR (gt xs x.val.fst).z (24 : Int)) && true)))) = false → ((!ovO (gt xs x.val.fst)) = true → ((!decide (rdet9 (gt xs x.val.fst).a (gt xs x.val.fst).b (gt xs x.val.fst).c (gt xs x.val.fst).d (gt xs x.val.fst).e (gt xs x.val.fst).f (gt xs x.val.fst).g (gt xs x.val.fst).h (gt xs x.val.fst).i = (1 : Int))) = true → ((!decide (rdet9 (gt xs x.val.fst).a (gt xs x.val.fst).b (gt xs x.val.fst).c (gt xs x.val.fst).d (gt xs x.val.fst).e (gt xs x.val.fst).f (gt xs x.val.fst).g (gt xs x.val.fst).h (gt xs x.val.fst).i = (-1 : Int))) = true → K (AV.v (PV.one (SV.con IntKind.i64 (3 : Int)))) [Blk.ro 0 cOp xs]) ∧ ((!decide (rdet9 (gt xs x.val.fst).a (gt xs x.val.fst).b (gt xs x.val.fst).c (gt xs x.val.fst).d (gt xs x.val.fst).e (gt xs x.val.fst).f (gt xs x.val.fst).g (gt xs x.val.fst).h (gt xs x.val.fst).i = (-1 : Int))) = false → ((!!ovO (gt xs x.val.fst)) = true → ∃ (z : { p : Nat × Int // p.fst ≤ xs.length ∧ mapsL xs (0 : Int) = mapsL (List.drop p.fst xs) p.snd }), (xs.length - z.val.fst).succ.le (xs.length - x.val.fst) ∧ ((xs.length = xs.length ∧ c = c) ∧ z.val.snd = Int.ofNat (nat_lit 3 + (1 : Nat)) ∧ (xs.length = xs.length ∧ c = c) ∧ (↑xs.length : Int) = (↑xs.length : Int) ∧ (↑z.val.fst : Int) = IntKind.i64.wrap ((↑x.val.fst : Int) + (1 : Int)) ∧ True) ∧ SameRows cOp xs cOp xs ∧ True) ∧ ((!!ovO (gt xs x.val.fst)) = false → ∃ (z : { p : Nat × Int // p.fst ≤ xs.length ∧ mapsL xs (0 : Int) = mapsL (List.drop p.fst xs) p.snd }), (xs.length - z.val.fst).succ.le (xs.length - x.val.fst) ∧ ((xs.length = xs.length ∧ c = c) ∧ z.val.snd = x.val.snd ∧ (xs.length = xs.length ∧ c = c) ∧ (↑xs.length : Int) = (↑xs.length : Int) ∧ (↑z.val.fst : Int) = IntKind.i64.wrap ((↑x.val.fst : Int) + (1 : Int)) ∧ True) ∧ SameRows cOp xs cOp xs ∧ True))) ∧ ((!decide (rdet9 (gt xs x.val.fst).a (gt xs x.val.fst).b (gt xs x.val.fst).c (gt xs x.val.fst).d (gt xs x.val.fst).e (gt xs x.val.fst).f (gt xs x.val.fst).g (gt xs x.val.fst).h (gt xs x.val.fst).i = (1 : Int))) = false → ((!!ovO (gt xs x.val.fst)) = true → ∃ (z : { p : Nat × Int // p.fst ≤ xs.length ∧ mapsL xs (0 : Int) = mapsL (List.drop p.fst xs) p.snd }), (xs.length - z.val.fst).succ.le (xs.length - x.val.fst) ∧ ((xs.length = xs.length ∧ c = c) ∧ z.val.snd = Int.ofNat (nat_lit 3 + (1 : Nat)) ∧ (xs.length = xs.length ∧ c = c) ∧ (↑xs.length : Int) = (↑xs.length : Int) ∧ (↑z.val.fst : Int) = IntKind.i64.wrap ((↑x.val.fst : Int) + (1 : Int)) ∧ True) ∧ SameRows cOp xs cOp xs ∧ True) ∧ ((!!ovO (gt xs x.val.fst)) = false → ∃ (z : { p : Nat × Int // p.fst ≤ xs.length ∧ mapsL xs (0 : Int) = mapsL (List.drop p.fst xs) p.snd }), (xs.length - z.val.fst).succ.le (xs.length - x.val.fst) ∧ ((xs.length = xs.length ∧ c = c) ∧ z.val.snd = x.val.snd ∧ (xs.length = xs.length ∧ c = c) ∧ (↑xs.length : Int) = (↑xs.length : Int) ∧ (↑z.val.fst : Int) = IntKind.i64.wrap ((↑x.val.fst : Int) + (1 : Int)) ∧ True) ∧ SameRows cOp xs cOp xs ∧ True))) ∧ ((!ovO (gt xs x.val.fst)) = false → ((!!ovO (gt xs x.val.fst)) = true → ∃ (z : { p : Nat × Int // p.fst ≤ xs.length ∧ mapsL xs (0 : Int) = mapsL (List.drop p.fst xs) p.snd }), (xs.length - z.val.fst).succ.le (xs.length - x.val.fst) ∧ ((xs.length = xs.length ∧ c = c) ∧ z.val.snd = Int.ofNat (nat_lit 3 + (1 : Nat)) ∧ (xs.length = xs.length ∧ c = c) ∧ (↑xs.length : Int) = (↑xs.length : Int) ∧ (↑z.val.fst : Int) = IntKind.i64.wrap ((↑x.val.fst : Int) + (1 : Int)) ∧ True) ∧ SameRows cOp xs cOp xs ∧ True) ∧ ((!!ovO (gt xs x.val.fst)) = false → ∃ (z : { p : Nat × Int // p.fst ≤ xs.length ∧ mapsL xs (0 : Int) = mapsL (List.drop p.fst xs) p.snd }), (xs.length - z.val.fst).succ.le (xs.length - x.val.fst) ∧ ((xs.length = xs.length ∧ c = c) ∧ z.val.snd = x.val.snd ∧ (xs.length = xs.length ∧ c = c) ∧ (↑xs.length : Int) = (↑xs.length : Int) ∧ (↑z.val.fst : Int) = IntKind.i64.wrap ((↑x.val.fst : Int) + (1 : Int)) ∧ True) ∧ SameRows cOp xs cOp xs ∧ True)))) ∧ ((!ovO (gt xs x.val.fst)) = false → ((24 : Int) = (0 : Int) → False) ∧ ((!(decide ((gt xs x.val.fst).x = modR (gt xs x.val.fst).x (24 : Int)) && (decide ((gt xs x.val.fst).y = modR (gt xs x.val.fst).y (24 : Int)) && (decide ((gt xs x.val.fst).z = modR (gt xs x.val.fst).z (24 : Int)) && true)))) = true → K (AV.v (PV.one (SV.con IntKind.i64 (3 : Int)))) [Blk.ro 0 cOp xs]) ∧ ((!(decide ((gt xs x.val.fst).x = modR (gt xs x.val.fst).x (24 : Int)) && (decide ((gt xs x.val.fst).y = modR (gt xs x.val.fst).y (24 : Int)) && (decide ((gt xs x.val.fst).z = modR (gt xs x.val.fst).z (24 : Int)) && true)))) = false → ((!ovO (gt xs x.val.fst)) = true → K (AV.v (PV.one (SV.con IntKind.i64 (3 : Int)))) [Blk.ro 0 cOp xs]) ∧ ((!ovO (gt xs x.val.fst)) = false → ((!!ovO (gt xs x.val.fst)) = true → ∃ (z : { p : Nat × Int // p.fst ≤ xs.length ∧ mapsL xs (0 : Int) = mapsL (List.drop p.fst xs) p.snd }), (xs.length - z.val.fst).succ.le (xs.length - x.val.fst) ∧ ((xs.length = xs.length ∧ c = c) ∧ z.val.snd = Int.ofNat (nat_lit 3 + (1 : Nat)) ∧ (xs.length = xs.length ∧ c = c) ∧ (↑xs.length : Int) = (↑xs.length : Int) ∧ (↑z.val.fst : Int) = IntKind.i64.wrap ((↑x.val.fst : Int) + (1 : Int)) ∧ True) ∧ SameRows cOp xs cOp xs ∧ True) ∧ ((!!ovO (gt xs x.val.fst)) = false → ∃ (z : { p : Nat × Int // p.fst ≤ xs.length ∧ mapsL xs (0 : Int) = mapsL (List.drop p.fst xs) p.snd }), (xs.length - z.val.fst).succ.le (xs.length - x.val.fst) ∧ ((xs.length = xs.length ∧ c = c) ∧ z.val.snd = x.val.snd ∧ (xs.length = xs.length ∧ c = c) ∧ (↑xs.length : Int) = (↑xs.length : Int) ∧ (↑z.val.fst : Int) = IntKind.i64.wrap ((↑x.val.fst : Int) + (1 : Int)) ∧ True) ∧ SameRows cOp xs cOp xs ∧ True))))) ∧ (decide ((↑x.val.fst : Int) < (↑xs.length : Int)) = false → K (AV.v (PV.one (SV.sym IntKind.i64 x.val.snd))) [Blk.ro 0 cOp xs])) := by kernel_rfl
theorem nfPlace (xs : List OpI) (c : Nat) (o : OpI) (K : KV) : call P T0 (annPlace xs o) 100000 Tryz.f49 [.v (.one (.rs 0 12 xs.length c)), .v (.agg (opS o))] [.ro 0 cOp xs] K = ((∃ (z : { i : Nat // i ≤ xs.length ∧ placeI xs o = placeL o (List.drop i xs) (↑i : Int) }), ((xs.length = xs.length ∧ c = c) ∧ (xs.length = xs.length ∧ c = c) ∧ (↑xs.length : Int) = (↑xs.length : Int) ∧ (↑z.val : Int) = (0 : Int) ∧ True) ∧ SameRows cOp xs cOp xs ∧ (o.a = o.a ∧ o.b = o.b ∧ o.c = o.c ∧ o.d = o.d ∧ o.e = o.e ∧ o.f = o.f ∧ o.g = o.g ∧ o.h = o.h ∧ o.i = o.i ∧ o.x = o.x ∧ o.y = o.y ∧ o.z = o.z ∧ True) ∧ True) ∧ ∀ (x : { i : Nat // i ≤ xs.length ∧ placeI xs o = placeL o (List.drop i xs) (↑i : Int) }), (decide ((↑x.val : Int) < (↑xs.length : Int)) = true → ((0 : Int) ≤ (↑x.val : Int) ∧ (↑x.val : Int) < (↑xs.length : Int)) ∧ (↑x.val : Int).toNat.succ.le xs.length ∧ ((decide ((gt xs x.val).a = o.a) && (decide ((gt xs x.val).b = o.b) && (decide ((gt xs x.val).c = o.c) && true)) && (decide ((gt xs x.val).d = o.d) && (decide ((gt xs x.val).e = o.e) && (decide ((gt xs x.val).f = o.f) && true)) && (decide ((gt xs x.val).g = o.g) && (decide ((gt xs x.val).h = o.h) && (decide ((gt xs x.val).i = o.i) && true)) && true)) && (decide ((gt xs x.val).x = o.x) && (decide ((gt xs x.val).y = o.y) && (decide ((gt xs x.val).z = o.z) && true)) && true)) = true → K (AV.v (PV.one (SV.sym IntKind.i64 (↑x.val : Int)))) [Blk.ro 0 cOp xs]) ∧ ((decide ((gt xs x.val).a = o.a) && (decide ((gt xs x.val).b = o.b) && (decide ((gt xs x.val).c = o.c) && true)) && (decide ((gt xs x.val).d = o.d) && (decide ((gt xs x.val).e = o.e) && (decide ((gt xs x.val).f = o.f) && true)) && (decide ((gt xs x.val).g = o.g) && (decide ((gt xs x.val).h = o.h) && (decide ((gt xs x.val).i = o.i) && true)) && true)) && (decide ((gt xs x.val).x = o.x) && (decide ((gt xs x.val).y = o.y) && (decide ((gt xs x.val).z = o.z) && true)) && true)) = false → ∃ (z : { i : Nat // i ≤ xs.length ∧ placeI xs o = placeL o (List.drop i xs) (↑i : Int) }), (xs.length - z.val).succ.le (xs.length - x.val) ∧ ((xs.length = xs.length ∧ c = c) ∧ (xs.length = xs.length ∧ c = c) ∧ (↑xs.length : Int) = (↑xs.length : Int) ∧ (↑z.val : Int) = IntKind.i64.wrap ((↑x.val : Int) + (1 : Int)) ∧ True) ∧ SameRows cOp xs cOp xs ∧ (o.a = o.a ∧ o.b = o.b ∧ o.c = o.c ∧ o.d = o.d ∧ o.e = o.e ∧ o.f = o.f ∧ o.g = o.g ∧ o.h = o.h ∧ o.i = o.i ∧ o.x = o.x ∧ o.y = o.y ∧ o.z = o.z ∧ True) ∧ True)) ∧ (decide ((↑x.val : Int) < (↑xs.length : Int)) = false → K (AV.v (PV.one (SV.con IntKind.i64 (-1 : Int)))) [Blk.ro 0 cOp xs])) := by kernel_rfl
theorem oE_doc (o : OpI) : oM oneO o = if ¬ (modR o.x 24 = o.x ∧ modR o.y 24 = o.y ∧ modR o.z 24 = o.z) ∨ (ovO o = false ∧ rdet9 o.a o.b o.c o.d o.e o.f o.g o.h o.i ≠ 1 ∧ rdet9 o.a o.b o.c o.d o.e o.f o.g o.h o.i ≠ -1) then 3 else if ovO o = true then 4 else 0 :=
  (mulE_one ..).trans (opE_doc ..)
def modB (o : OpI) : Bool := decide (o.x = modR o.x 24) && (decide (o.y = modR o.y 24) && (decide (o.z = modR o.z 24) && true))
theorem modB_iff (o : OpI) : modB o = true ↔ modR o.x 24 = o.x ∧ modR o.y 24 = o.y ∧ modR o.z 24 = o.z := by
  unfold modB
  simp only [Bool.and_true, Bool.and_eq_true, decide_eq_true_eq]
  constructor <;> intro ⟨h1, h2, h3⟩ <;> exact ⟨h1.symm, h2.symm, h3.symm⟩
theorem e3_mod {o : OpI} (h : (!modB o) = true) : oM oneO o = 3 := by
  rw [oE_doc, if_pos (.inl (fun hm => by rw [(modB_iff o).2 hm] at h; cases h))]
theorem e3_det {o : OpI} (h : (!ovO o) = true) (h1 : (!decide (rdet9 o.a o.b o.c o.d o.e o.f o.g o.h o.i = 1)) = true) (h2 : (!decide (rdet9 o.a o.b o.c o.d o.e o.f o.g o.h o.i = -1)) = true) : oM oneO o = 3 := by
  rw [oE_doc, if_pos (.inr ⟨by simpa using h, by simpa using h1, by simpa using h2⟩)]
theorem e4 {o : OpI} (hm : (!modB o) = false) (h : (!!ovO o) = true) : oM oneO o = 4 := by
  have ho : ovO o = true := by simpa using h
  have hm := (modB_iff o).1 (by simpa using hm)
  rw [oE_doc, if_neg (by rw [ho]; intro h; rcases h with h | h; exact h hm; cases h.1), if_pos ho]
theorem e0 {o : OpI} (hm : (!modB o) = false) (h : (!!ovO o) = false) (hd : rdet9 o.a o.b o.c o.d o.e o.f o.g o.h o.i = 1 ∨ rdet9 o.a o.b o.c o.d o.e o.f o.g o.h o.i = -1) : oM oneO o = 0 := by
  have ho : ovO o = false := by simpa using h
  have hm := (modB_iff o).1 (by simpa using hm)
  rw [oE_doc, if_neg (by intro h; rcases h with h | h; exact h hm; rcases hd with hd | hd; exact h.2.1 hd; exact h.2.2 hd), ho]
  rfl
def qDMaps : RSpec cOp := fun os xs => match os with
  | [] => some (xs.length ≤ 4611686018427387904, I' (mapsL xs 0), [])
  | _ => none
theorem callDMaps (xs : List OpI) (c : Nat) (hl : xs.length ≤ 4611686018427387904) : CallR P T0 (annDMaps xs) 100000 Tryz.f47 [.v (.one (.rs 0 12 xs.length c))] [.ro 0 cOp xs] (fun v' h' => MatchTo 1 [v'] h' ([(I' (mapsL xs 0)).sh 1], .ro 0 cOp xs :: shH 1 [])) := by
  refine ⟨?_⟩
  rw [nfDMaps]
  refine ⟨⟨⟨(0, 0), Nat.zero_le _, rfl⟩, ⟨⟨rfl, rfl⟩, rfl, ⟨rfl, rfl⟩, rfl, rfl, trivial⟩, sameR _ _, trivial⟩, fun x => ⟨fun hk => ?_, fun hk => leafRS ?_⟩⟩
  · obtain ⟨⟨k, w⟩, hle, hx⟩ := x
    have hk : (k : Int) < xs.length := of_decide_eq_true hk
    have hk' : k < xs.length := by omega
    have hw := wr_id (n := (k : Int) + 1) (by omega) (by omega)
    have hx : mapsL xs 0 = mapsL (xs.drop k) w := hx
    have hst := mapsL_step (w := w) hk'
    have r3 : oM oneO (gt xs k) = 3 → mapsL xs 0 = 3 := fun h => by rw [hx, hst, if_pos h]
    have c4 : oM oneO (gt xs k) = 4 → mapsL xs 0 = mapsL (xs.drop (k + 1)) 4 := fun h => by rw [hx, hst, if_neg (by omega), if_pos h]
    have c0 : oM oneO (gt xs k) = 0 → mapsL xs 0 = mapsL (xs.drop (k + 1)) w := fun h => by rw [hx, hst, if_neg (by omega), if_neg (by omega)]
    have lt : xs.length - (k + 1) < xs.length - k := by omega
    refine ⟨⟨show (0 : Int) ≤ (k : Int) by omega, hk⟩, hk', fun h1 => ⟨fun h => absurd h (by decide), fun h2 => leafRC (r3 (e3_mod h2)), fun h2 => ⟨fun h3 => ⟨fun h4 => ⟨fun h5 => leafRC (r3 (e3_det h3 h4 h5)), fun h5 => ⟨fun h6 => ⟨⟨(k + 1, 4), hk', c4 (e4 h2 h6)⟩, lt, ⟨⟨rfl, rfl⟩, rfl, ⟨rfl, rfl⟩, rfl, hw.symm, trivial⟩, sameR _ _, trivial⟩, fun h6 => ⟨⟨(k + 1, w), hk', c0 (e0 h2 h6 (.inr (by simpa using h5)))⟩, lt, ⟨⟨rfl, rfl⟩, rfl, ⟨rfl, rfl⟩, rfl, hw.symm, trivial⟩, sameR _ _, trivial⟩⟩⟩,
        fun h4 => ⟨fun h6 => ⟨⟨(k + 1, 4), hk', c4 (e4 h2 h6)⟩, lt, ⟨⟨rfl, rfl⟩, rfl, ⟨rfl, rfl⟩, rfl, hw.symm, trivial⟩, sameR _ _, trivial⟩, fun h6 => ⟨⟨(k + 1, w), hk', c0 (e0 h2 h6 (.inl (by simpa using h4)))⟩, lt, ⟨⟨rfl, rfl⟩, rfl, ⟨rfl, rfl⟩, rfl, hw.symm, trivial⟩, sameR _ _, trivial⟩⟩⟩,
      fun h3 => absurd h1 (by rw [h3]; simp)⟩⟩, fun h1 => ⟨fun h => absurd h (by decide), fun h2 => leafRC (r3 (e3_mod h2)), fun h2 => ⟨fun h3 => absurd h3 (by rw [h1]; simp), fun h3 => ⟨fun h6 => ⟨⟨(k + 1, 4), hk', c4 (e4 h2 h6)⟩, lt, ⟨⟨rfl, rfl⟩, rfl, ⟨rfl, rfl⟩, rfl, hw.symm, trivial⟩, sameR _ _, trivial⟩, fun h6 => absurd h6 (by rw [h1]; simp)⟩⟩⟩⟩
  · obtain ⟨⟨k, w⟩, hle, hx⟩ := x
    have hk : ¬ (k : Int) < xs.length := of_decide_eq_false hk
    have : k = xs.length := by have : k ≤ xs.length := hle; omega
    subst this
    have hx : mapsL xs 0 = mapsL (xs.drop xs.length) w := hx
    show mapsL xs 0 = w
    rw [hx, List.drop_length]
    rfl
theorem hrDMaps : HoldsR P 47 0 cOp qDMaps := by
  refine ⟨Tryz.f47, by kernel_rfl, by kernel_rfl, fun os (xs : List OpI) p v hs hq hp hno c => ?_⟩
  match os, hq with
  | [], hq =>
    have := Option.some.inj hq
    simp only [Prod.mk.injEq] at this
    obtain ⟨rfl, rfl, rfl⟩ := this
    exact ⟨100000, annDMaps xs, T0, rfl, pT0, callDMaps xs c hp⟩
theorem placeL_step {xs : List OpI} {o : OpI} {k : Nat} (h : k < xs.length) (i : Int) : placeL o (xs.drop k) i = if gt xs k = o then i else placeL o (xs.drop (k + 1)) (i + 1) := by
  rw [drop_gt h]
  rfl
def qPlace : RSpec cOp := fun os xs => match os with
  | [.v (.agg [.sym .i64 a, .sym .i64 b, .sym .i64 c, .sym .i64 d, .sym .i64 e, .sym .i64 f, .sym .i64 g, .sym .i64 h, .sym .i64 i, .sym .i64 x, .sym .i64 y, .sym .i64 z])] => some (xs.length ≤ 4611686018427387904, I' (placeI xs ⟨a, b, c, d, e, f, g, h, i, x, y, z⟩), [])
  | _ => none
theorem callPlace (xs : List OpI) (c : Nat) (o : OpI) (hl : xs.length ≤ 4611686018427387904) : CallR P T0 (annPlace xs o) 100000 Tryz.f49 [.v (.one (.rs 0 12 xs.length c)), .v (.agg (opS o))] [.ro 0 cOp xs] (fun v' h' => MatchTo 1 [v'] h' ([(I' (placeI xs o)).sh 1], .ro 0 cOp xs :: shH 1 [])) := by
  refine ⟨?_⟩
  rw [nfPlace]
  refine ⟨⟨⟨0, Nat.zero_le _, rfl⟩, ⟨⟨rfl, rfl⟩, ⟨rfl, rfl⟩, rfl, rfl, trivial⟩, sameR _ _, ⟨rfl, rfl, rfl, rfl, rfl, rfl, rfl, rfl, rfl, rfl, rfl, rfl, trivial⟩, trivial⟩, fun x => ⟨fun hk => ?_, fun hk => leafRC ?_⟩⟩
  · obtain ⟨k, hle, hx⟩ := x
    have hk : (k : Int) < xs.length := of_decide_eq_true hk
    have hk' : k < xs.length := by omega
    have hw := wr_id (n := (k : Int) + 1) (by omega) (by omega)
    have hst := placeL_step (o := o) hk' (k : Int)
    refine ⟨⟨show (0 : Int) ≤ (k : Int) by omega, hk⟩, hk', fun h => leafRS ?_, fun h => ⟨⟨k + 1, hk', ?_⟩, show xs.length - (k + 1) < xs.length - k by omega, ⟨⟨rfl, rfl⟩, ⟨rfl, rfl⟩, rfl, hw.symm, trivial⟩, sameR _ _, ⟨rfl, rfl, rfl, rfl, rfl, rfl, rfl, rfl, rfl, rfl, rfl, rfl, trivial⟩, trivial⟩⟩
    · have h : eqO (gt xs k) o = true := h
      show placeI xs o = (k : Int)
      rw [hx, hst, if_pos ((eqO_iff _ _).1 h).symm]
    · have h : eqO (gt xs k) o = false := h
      show placeI xs o = placeL o (xs.drop (k + 1)) ((k + 1 : Nat) : Int)
      rw [hx, hst, if_neg (fun he => by rw [(eqO_iff _ _).2 he.symm] at h; cases h)]
      rfl
  · obtain ⟨k, hle, hx⟩ := x
    have hk : ¬ (k : Int) < xs.length := of_decide_eq_false hk
    have : k = xs.length := by omega
    subst this
    show placeI xs o = -1
    rw [hx, List.drop_length]
    rfl
theorem hrPlace : HoldsR P 49 0 cOp qPlace := by
  refine ⟨Tryz.f49, by kernel_rfl, by kernel_rfl, fun os (xs : List OpI) p v hs hq hp hno cc => ?_⟩
  unfold qPlace at hq
  split at hq
  · rename_i a b c d e f g h i x y z
    have := Option.some.inj hq
    simp only [Prod.mk.injEq] at this
    obtain ⟨rfl, rfl, rfl⟩ := this
    exact ⟨100000, annPlace xs _, T0, rfl, pT0, callPlace xs cc ⟨a, b, c, d, e, f, g, h, i, x, y, z⟩ hp⟩
  · cases hq
theorem placeI_neg {xs : List OpI} {o : OpI} : placeI xs o < 0 ↔ o ∉ xs := by
  have key : ∀ (l : List OpI) (i : Int), 0 ≤ i → (placeL o l i < 0 ↔ o ∉ l) := by
    intro l
    induction l with
    | nil => intro i _; simp [placeL]
    | cons q l ih =>
      intro i hi
      rw [placeL]
      by_cases h : q = o
      · rw [if_pos h]; subst h; simp; omega
      · rw [if_neg h, ih (i + 1) (by omega)]
        simp [Ne.symm h]
  exact key xs 0 (by omega)
def T1 : Sums := (T0.addSp 47 (rowSpec 0 cOp qDMaps)).addSp 49 (rowSpec 0 cOp qPlace)
theorem pT1 : OkS P T1 := (pT0.addRow fine hrDMaps).addRow fine hrPlace
end Go.AM
/- The document's Check of a group. -/
open Go Go.AM Go.Proofs
namespace Go.AM
def pairR (xs : List OpI) (o q : OpI) : Bool := decide (rO o q ∈ xs)
def rowR (xs : List OpI) (o : OpI) : Bool := xs.all (pairR xs o)
def closedR (xs : List OpI) : Bool := xs.all (rowR xs)
def dcheckP (xs : List OpI) : Int := if mapsE xs ≠ 0 then mapsE xs else if sortedB xs && (decide (oneO ∈ xs) && closedR xs) then 0 else 5
def annDCheck (xs : List OpI) : Annos := ⟨1, fun id env h =>
  if id = 7 then forceE (keepS [0, 4] 0 env) fun env => some ⟨{ i : Nat // 1 ≤ i ∧ i ≤ max 1 xs.length ∧ sortedB xs = sortedB (xs.drop (i - 1)) }, fun i => (set env 4 (I' (i.1 : Int)), headH 1 h), fun i => xs.length - i.1⟩
  else if id = 14 then forceE (keepS [0, 38, 39, 40] 0 env) fun env => some ⟨{ i : Nat // i ≤ xs.length ∧ closedR xs = (xs.drop i).all (rowR xs) }, fun i => (set env 40 (I' (i.1 : Int)), headH 1 h), fun i => xs.length - i.1⟩
  else if id = 17 then forceE (keepS [0, 6, 38, 39, 40, 44, 45, 46] 0 env) fun env => withI (getD env 40 AV.any) fun i => some ⟨{ j : Nat // j ≤ xs.length ∧ rowR xs (gt xs i.toNat) = (xs.drop j).all (pairR xs (gt xs i.toNat)) }, fun j => (set env 46 (I' (j.1 : Int)), headH 2 h), fun j => xs.length - j.1⟩
  else none, fun _ => none⟩
end Go.AM
/- The document's Check of a group is the program's. -/
open Go Go.AM Go.Proofs
namespace Go.AM
open Dist
set_option maxRecDepth 100000
theorem nfDCheck (xs : List OpI) (c : Nat) (K : KV) : call P T1 (annDCheck xs) 100000 Tryz.f26 [.v (.one (.rs 0 12 xs.length c))] [.ro 0 cOp xs] K = ((decide ((192 : Int) < (↑xs.length : Int)) = true → K (AV.v (PV.one (SV.con IntKind.i64 (2 : Int)))) [Blk.ro 0 cOp xs]) ∧ (decide ((192 : Int) < (↑xs.length : Int)) = false → ∃ (z : List cOp.τ), SameRows cOp z cOp xs ∧ (xs.length = xs.length ∧ z.length.le (4611686018427387904 : Nat)) ∧ ((!decide (mapsL z (0 : Int) = (0 : Int))) = true → K (AV.v (PV.one (SV.sym IntKind.i64 (mapsL z (0 : Int))))) [Blk.ro 0 cOp xs]) ∧ ((!decide (mapsL z (0 : Int) = (0 : Int))) = false → (∃ (z : { i : Nat // (1 : Nat) ≤ i ∧ i ≤ max (1 : Nat) xs.length ∧ sortedB xs = sortedB (List.drop (i - (1 : Nat)) xs) }), ((xs.length = xs.length ∧ c = c) ∧ (↑z.val : Int) = (1 : Int) ∧ True) ∧ SameRows cOp xs cOp xs ∧ True) ∧ ∀ (x : { i : Nat // (1 : Nat) ≤ i ∧ i ≤ max (1 : Nat) xs.length ∧ sortedB xs = sortedB (List.drop (i - (1 : Nat)) xs) }), (decide ((↑x.val : Int) < (↑xs.length : Int)) = true → ((0 : Int) ≤ IntKind.i64.wrap ((↑x.val : Int) - (1 : Int)) ∧ IntKind.i64.wrap ((↑x.val : Int) - (1 : Int)) < (↑xs.length : Int)) ∧ (IntKind.i64.wrap ((↑x.val : Int) - (1 : Int))).toNat.succ.le xs.length ∧ ((0 : Int) ≤ (↑x.val : Int) ∧ (↑x.val : Int) < (↑xs.length : Int)) ∧ (↑x.val : Int).toNat.succ.le xs.length ∧ (decide ((0 : Int) ≤ oC (xs.getD (IntKind.i64.wrap ((↑x.val : Int) - (1 : Int))).toNat cOp.d) (gt xs x.val)) = true → K (AV.v (PV.one (SV.con IntKind.i64 (5 : Int)))) [Blk.ro 0 cOp xs]) ∧ (decide ((0 : Int) ≤ oC (xs.getD (IntKind.i64.wrap ((↑x.val : Int) - (1 : Int))).toNat cOp.d) (gt xs x.val)) = false → ∃ (z : { i : Nat // (1 : Nat) ≤ i ∧ i ≤ max (1 : Nat) xs.length ∧ sortedB xs = sortedB (List.drop (i - (1 : Nat)) xs) }), (xs.length - z.val).succ.le (xs.length - x.val) ∧ ((xs.length = xs.length ∧ c = c) ∧ (↑z.val : Int) = IntKind.i64.wrap ((↑x.val : Int) + (1 : Int)) ∧ True) ∧ SameRows cOp xs cOp xs ∧ True)) ∧ (decide ((↑x.val : Int) < (↑xs.length : Int)) = false → ∃ (z : List cOp.τ), SameRows cOp z cOp xs ∧ (xs.length = xs.length ∧ z.length.le (4611686018427387904 : Nat)) ∧ (decide (placeI z oneO < (0 : Int)) = true → K (AV.v (PV.one (SV.con IntKind.i64 (5 : Int)))) [Blk.ro 0 cOp xs]) ∧ (decide (placeI z oneO < (0 : Int)) = false → (∃ (z : { i : Nat // i ≤ xs.length ∧ closedR xs = (List.drop i xs).all (rowR xs) }), ((xs.length = xs.length ∧ c = c) ∧ (xs.length = xs.length ∧ c = c) ∧ (↑xs.length : Int) = (↑xs.length : Int) ∧ (↑z.val : Int) = (0 : Int) ∧ True) ∧ SameRows cOp xs cOp xs ∧ True) ∧ ∀ (x : { i : Nat // i ≤ xs.length ∧ closedR xs = (List.drop i xs).all (rowR xs) }), (decide ((↑x.val : Int) < (↑xs.length : Int)) = true → ((0 : Int) ≤ (↑x.val : Int) ∧ (↑x.val : Int) < (↑xs.length : Int)) ∧ (↑x.val : Int).toNat.succ.le xs.length ∧ (∃ (z : { j : Nat // j ≤ xs.length ∧ rowR xs (gt xs (↑x.val : Int).toNat) = (List.drop j xs).all (pairR xs (gt xs (↑x.val : Int).toNat)) }), ((xs.length = xs.length ∧ c = c) ∧ (xs.length = xs.length ∧ c = c) ∧ (↑xs.length : Int) = (↑xs.length : Int) ∧ (↑x.val : Int) = (↑x.val : Int) ∧ (xs.length = xs.length ∧ c = c) ∧ (↑xs.length : Int) = (↑xs.length : Int) ∧ (↑z.val : Int) = (0 : Int) ∧ True) ∧ SameRows cOp xs cOp xs ∧ ((gt xs x.val).a = (gt xs x.val).a ∧ (gt xs x.val).b = (gt xs x.val).b ∧ (gt xs x.val).c = (gt xs x.val).c ∧ (gt xs x.val).d = (gt xs x.val).d ∧ (gt xs x.val).e = (gt xs x.val).e ∧ (gt xs x.val).f = (gt xs x.val).f ∧ (gt xs x.val).g = (gt xs x.val).g ∧ (gt xs x.val).h = (gt xs x.val).h ∧ (gt xs x.val).i = (gt xs x.val).i ∧ (gt xs x.val).x = (gt xs x.val).x ∧ (gt xs x.val).y = (gt xs x.val).y ∧ (gt xs x.val).z = (gt xs x.val).z ∧ True) ∧ True) ∧ ∀ (x_1 : { j : Nat // j ≤ xs.length ∧ rowR xs (gt xs (↑x.val : Int).toNat) = (List.drop j xs).all (pairR xs (gt xs (↑x.val : Int).toNat)) }), (decide ((↑x_1.val : Int) < (↑xs.length : Int)) = true → ((0 : Int) ≤ (↑x_1.val : Int) ∧ (↑x_1.val : Int) < (↑xs.length : Int)) ∧ (↑x_1.val : Int).toNat.succ.le xs.length ∧ ∃ (z : List cOp.τ), SameRows cOp z cOp xs ∧ (xs.length = xs.length ∧ z.length.le (4611686018427387904 : Nat)) ∧ (decide (placeI z (rO (gt xs x.val) (gt xs x_1.val)) < (0 : Int)) = true → K (AV.v (PV.one (SV.con IntKind.i64 (5 : Int)))) [Blk.ro 0 cOp xs]) ∧ (decide (placeI z (rO (gt xs x.val) (gt xs x_1.val)) < (0 : Int)) = false → ∃ (z : { j : Nat // j ≤ xs.length ∧ rowR xs (gt xs (↑x.val : Int).toNat) = (List.drop j xs).all (pairR xs (gt xs (↑x.val : Int).toNat)) }), (xs.length - z.val).succ.le (xs.length - x_1.val) ∧ ((xs.length = xs.length ∧ c = c) ∧ (xs.length = xs.length ∧ c = c) ∧ (↑xs.length : Int) = (↑xs.length : Int) ∧ (↑x.val : Int) = (↑x.val : Int) ∧ (xs.length = xs.length ∧ c = c) ∧ (↑xs.length : Int) = (↑xs.length : Int) ∧ (↑z.val : Int) = IntKind.i64.wrap ((↑x_1.val : Int) + (1 : Int)) ∧ True) ∧ SameRows cOp xs cOp xs ∧ ((gt xs x.val).a = (gt xs x.val).a ∧ (gt xs x.val).b = (gt xs x.val).b ∧ (gt xs x.val).c = (gt xs x.val).c ∧ (gt xs x.val).d = (gt xs x.val).d ∧ (gt xs x.val).e = (gt xs x.val).e ∧ (gt xs x.val).f = (gt xs x.val).f ∧ (gt xs x.val).g = (gt xs x.val).g ∧ (gt xs x.val).h = (gt xs x.val).h ∧ (gt xs x.val).i = (gt xs x.val).i ∧ (gt xs x.val).x = (gt xs x.val).x ∧ (gt xs x.val).y = (gt xs x.val).y ∧ (gt xs x.val).z = (gt xs x.val).z ∧ True) ∧ True)) ∧ (decide ((↑x_1.val : Int) < (↑xs.length : Int)) = false → ∃ (z : { i : Nat // i ≤ xs.length ∧ closedR xs = (List.drop i xs).all (rowR xs) }), (xs.length - z.val).succ.le (xs.length - x.val) ∧ ((xs.length = xs.length ∧ c = c) ∧ (xs.length = xs.length ∧ c = c) ∧ (↑xs.length : Int) = (↑xs.length : Int) ∧ (↑z.val : Int) = IntKind.i64.wrap ((↑x.val : Int) + (1 : Int)) ∧ True) ∧ SameRows cOp xs cOp xs ∧ True)) ∧ (decide ((↑x.val : Int) < (↑xs.length : Int)) = false → K (AV.v (PV.one (SV.con IntKind.i64 (0 : Int)))) [Blk.ro 0 cOp xs])))))) := by kernel_rfl
theorem mapsE_le {xs : List OpI} (h : mapsE xs = 0) : xs.length ≤ 192 := by
  unfold mapsE at h
  split at h
  · cases h
  · omega
theorem callDCheck (xs : List OpI) (c : Nat) : CallR P T1 (annDCheck xs) 100000 Tryz.f26 [.v (.one (.rs 0 12 xs.length c))] [.ro 0 cOp xs] (fun v' h' => MatchTo 1 [v'] h' ([(I' (dcheckP xs)).sh 1], .ro 0 cOp xs :: shH 1 [])) := by
  refine ⟨?_⟩
  rw [nfDCheck]
  refine ⟨fun h => leafRC ?_, fun h => ?_⟩
  · have h : (192 : Int) < xs.length := of_decide_eq_true h
    have e : mapsE xs = 2 := by rw [mapsE, if_pos h]
    rw [dcheckP, e]
    rfl
  have h192 : ¬ (192 : Int) < xs.length := of_decide_eq_false h
  have em : mapsE xs = mapsL xs 0 := by rw [mapsE, if_neg h192]
  have hlen : xs.length ≤ 4611686018427387904 := by omega
  refine ⟨xs, sameR _ _, ⟨rfl, hlen⟩, fun h => leafRS ?_, fun h => ?_⟩
  · have h : ¬ mapsL xs 0 = 0 := by simpa using h
    show dcheckP xs = mapsL xs 0
    rw [← em] at h ⊢
    rw [dcheckP, if_pos h]
  have h : mapsL xs 0 = 0 := by simpa using h
  have h : mapsE xs = 0 := by rw [em, h]
  have five : (sortedB xs = false ∨ oneO ∉ xs ∨ closedR xs = false) → dcheckP xs = 5 := fun h5 => by
    rw [dcheckP, if_neg (by simpa using h), if_neg]
    simp only [Bool.and_eq_true, decide_eq_true_eq]
    rintro ⟨h1, h2, h3⟩
    rcases h5 with h5 | h5 | h5
    · rw [h1] at h5; cases h5
    · exact h5 h2
    · rw [h3] at h5; cases h5
  refine ⟨⟨⟨1, Nat.le_refl _, by omega, rfl⟩, ⟨⟨rfl, rfl⟩, rfl, trivial⟩, sameR _ _, trivial⟩, fun x => ⟨fun hk => ?_, fun hk => ?_⟩⟩
  · obtain ⟨i, h1, h2, h3⟩ := x
    have hk : (i : Int) < xs.length := of_decide_eq_true hk
    have hk' : i < xs.length := by omega
    have w1 := wr_id (n := (i : Int) - 1) (by omega) (by omega)
    have w2 := wr_id (n := (i : Int) + 1) (by omega) (by omega)
    have hst := sortedB_step hk' h1
    show ((0 : Int) ≤ IntKind.i64.wrap ((i : Int) - (1 : Int)) ∧ IntKind.i64.wrap ((i : Int) - (1 : Int)) < (xs.length : Int)) ∧ (IntKind.i64.wrap ((i : Int) - (1 : Int))).toNat < xs.length ∧ _ ∧ i < xs.length ∧ (decide ((0 : Int) ≤ oC (gt xs (IntKind.i64.wrap ((i : Int) - (1 : Int))).toNat) (gt xs i)) = true → _) ∧ (decide ((0 : Int) ≤ oC (gt xs (IntKind.i64.wrap ((i : Int) - (1 : Int))).toNat) (gt xs i)) = false → _)
    rw [w1, show ((i : Int) - 1).toNat = i - 1 by omega]
    refine ⟨⟨by omega, by omega⟩, by omega, ⟨by show (0 : Int) ≤ (i : Int); omega, hk⟩, hk', fun h4 => leafRC (five (.inl ?_)), fun h4 => ⟨⟨i + 1, by omega, by omega, ?_⟩, show xs.length - (i + 1) < xs.length - i by omega, ⟨⟨rfl, rfl⟩, w2.symm, trivial⟩, sameR _ _, trivial⟩⟩
    · have h4 : ¬ oC (gt xs (i - 1)) (gt xs i) < 0 := by have := of_decide_eq_true h4; omega
      rw [h3, hst, decide_eq_false h4]
      rfl
    · have h4 : oC (gt xs (i - 1)) (gt xs i) < 0 := by have := of_decide_eq_false h4; omega
      rw [h3, hst, decide_eq_true h4]
      rfl
  · obtain ⟨i, h1, h2, h3⟩ := x
    have hk : ¬ (i : Int) < xs.length := of_decide_eq_false hk
    have hso : sortedB xs = true := by rw [h3]; exact sortedB_end (by omega) h1
    refine ⟨xs, sameR _ _, ⟨rfl, hlen⟩, fun h4 => leafRC (five (.inr (.inl ?_))), fun h4 => ?_⟩
    · exact placeI_neg.1 (of_decide_eq_true h4)
    have hone : oneO ∈ xs := Decidable.byContradiction fun hn => absurd (placeI_neg.2 hn) (of_decide_eq_false h4)
    refine ⟨⟨⟨0, Nat.zero_le _, rfl⟩, ⟨⟨rfl, rfl⟩, ⟨rfl, rfl⟩, rfl, rfl, trivial⟩, sameR _ _, trivial⟩, fun x => ⟨fun hk => ?_, fun hk => ?_⟩⟩
    · obtain ⟨i, hi1, hi2⟩ := x
      have hk : (i : Int) < xs.length := of_decide_eq_true hk
      have hk' : i < xs.length := by omega
      have w2 := wr_id (n := (i : Int) + 1) (by omega) (by omega)
      have hst := all_step (f := rowR xs) hk'
      refine ⟨⟨by show (0 : Int) ≤ (i : Int); omega, hk⟩, hk', ⟨⟨0, Nat.zero_le _, rfl⟩, ⟨⟨rfl, rfl⟩, ⟨rfl, rfl⟩, rfl, rfl, ⟨rfl, rfl⟩, rfl, rfl, trivial⟩, sameR _ _, ⟨rfl, rfl, rfl, rfl, rfl, rfl, rfl, rfl, rfl, rfl, rfl, rfl, trivial⟩, trivial⟩, fun y => ⟨fun hm => ?_, fun hm => ?_⟩⟩
      · obtain ⟨j, hj1, hj2⟩ := y
        have hm : (j : Int) < xs.length := of_decide_eq_true hm
        have hm' : j < xs.length := by omega
        have w3 := wr_id (n := (j : Int) + 1) (by omega) (by omega)
        have hst2 := all_step (f := pairR xs (gt xs i)) hm'
        have hj2 : rowR xs (gt xs i) = (xs.drop j).all (pairR xs (gt xs i)) := hj2
        have bad : pairR xs (gt xs i) (gt xs j) = false → dcheckP xs = 5 := fun hp => five (.inr (.inr (by rw [hi2, hst, hj2, hst2, hp]; rfl)))
        refine ⟨⟨by show (0 : Int) ≤ (j : Int); omega, hm⟩, hm', xs, sameR _ _, ⟨rfl, hlen⟩, fun h5 => leafRC (bad ?_), fun h6 => ⟨⟨j + 1, by omega, ?_⟩, show xs.length - (j + 1) < xs.length - j by omega, ⟨⟨rfl, rfl⟩, ⟨rfl, rfl⟩, rfl, rfl, ⟨rfl, rfl⟩, rfl, w3.symm, trivial⟩, sameR _ _, ⟨rfl, rfl, rfl, rfl, rfl, rfl, rfl, rfl, rfl, rfl, rfl, rfl, trivial⟩, trivial⟩⟩
        · have h5 : placeI xs (rO (gt xs i) (gt xs j)) < 0 := of_decide_eq_true h5
          have h5 := placeI_neg.1 h5
          simp [pairR, h5]
        · have h6 : ¬ placeI xs (rO (gt xs i) (gt xs j)) < 0 := of_decide_eq_false h6
          have h6 : rO (gt xs i) (gt xs j) ∈ xs := Decidable.byContradiction fun hn => absurd (placeI_neg.2 hn) h6
          show rowR xs (gt xs i) = (xs.drop (j + 1)).all (pairR xs (gt xs i))
          rw [hj2, hst2]
          simp [pairR, h6]
      · obtain ⟨j, hj1, hj2⟩ := y
        have hm : ¬ (j : Int) < xs.length := of_decide_eq_false hm
        have hj2 : rowR xs (gt xs i) = (xs.drop j).all (pairR xs (gt xs i)) := hj2
        refine ⟨⟨i + 1, by omega, ?_⟩, show xs.length - (i + 1) < xs.length - i by omega, ⟨⟨rfl, rfl⟩, ⟨rfl, rfl⟩, rfl, w2.symm, trivial⟩, sameR _ _, trivial⟩
        have hj : j = xs.length := by omega
        rw [hj, List.drop_length] at hj2
        rw [hi2, hst, hj2]
        rfl
    · obtain ⟨i, hi1, hi2⟩ := x
      have hk : ¬ (i : Int) < xs.length := of_decide_eq_false hk
      have hj : i = xs.length := by omega
      rw [hj, List.drop_length] at hi2
      have hcl : closedR xs = true := hi2
      refine leafRC ?_
      rw [dcheckP, if_neg (by simpa using h), hso, hcl, decide_eq_true hone]
      rfl
theorem mapsE_forms {xs : List OpI} (h : mapsE xs = 0) : ∀ o ∈ xs, oE o = 0 := by
  unfold mapsE at h
  split at h
  · cases h
  · exact (mapsL_zero (.inl rfl) h).2
/-- in form: the two products are one -/
theorem rO_oP {o q : OpI} (ho : oE o = 0) (hq : oE q = 0) : rO o q = oP o q := by
  obtain ⟨a1, a2, a3⟩ := opE_zero.1 ho
  obtain ⟨b1, b2, b3⟩ := opE_zero.1 hq
  obtain ⟨ha, hb, hc, hd, he, hf, hg, hh, hi⟩ := over9_false.1 a2
  obtain ⟨ka, kb, kc, kd, ke, kf, kg, kh, ki⟩ := over9_false.1 b2
  obtain ⟨t1, t2, t3⟩ := tbad_false.1 a1
  obtain ⟨s1, s2, s3⟩ := tbad_false.1 b1
  unfold rO oP
  rw [rmul_pr ha hb hc ka kd kg, rmul_pr ha hb hc kb ke kh, rmul_pr ha hb hc kc kf ki, rmul_pr hd he hf ka kd kg, rmul_pr hd he hf kb ke kh, rmul_pr hd he hf kc kf ki, rmul_pr hg hh hi ka kd kg, rmul_pr hg hh hi kb ke kh, rmul_pr hg hh hi kc kf ki,
    rt_tr ha hb hc s1 s2 s3 t1, rt_tr hd he hf s1 s2 s3 t2, rt_tr hg hh hi s1 s2 s3 t3]
theorem pairR_B {xs : List OpI} (h : ∀ o ∈ xs, oE o = 0) {o q : OpI} (ho : o ∈ xs) (hq : q ∈ xs) : pairR xs o q = pairB xs o q := by
  have e := rO_oP (h o ho) (h q hq)
  unfold pairR pairB
  rw [e]
  by_cases hm : oM o q = 0
  · simp [oR, hm]
  · have : oP o q ∉ xs := fun hin => hm (by
      have h1 := opE_zero.1 (h _ hin)
      exact mulE_zero.2 ⟨h o ho, h q hq, h1.2.1⟩)
    simp [hm, this]
theorem dcheck_eq (xs : List OpI) : dcheckP xs = checkP xs := by
  unfold dcheckP checkP
  by_cases h : mapsE xs = 0
  · have hf := mapsE_forms h
    have e : closedR xs = closedB xs := by
      unfold closedR closedB
      rw [Bool.eq_iff_iff, List.all_eq_true, List.all_eq_true]
      refine forall_congr' fun o => forall_congr' fun ho => ?_
      unfold rowR rowB
      rw [List.all_eq_true, List.all_eq_true]
      exact forall_congr' fun q => forall_congr' fun hq => by rw [pairR_B hf ho hq]
    rw [e]
  · rw [if_pos h, if_pos h]
theorem hrDCheck : HoldsR P 26 0 cOp qCheck := by
  refine ⟨Tryz.f26, by kernel_rfl, by kernel_rfl, fun os (xs : List OpI) p v hs hq hp hno c => ?_⟩
  match os, hq with
  | [], hq =>
    have := Option.some.inj hq
    simp only [Prod.mk.injEq] at this
    obtain ⟨rfl, rfl, rfl⟩ := this
    rw [← dcheck_eq]
    exact ⟨100000, annDCheck xs, T1, rfl, pT1, callDCheck xs c⟩
end Go.AM
