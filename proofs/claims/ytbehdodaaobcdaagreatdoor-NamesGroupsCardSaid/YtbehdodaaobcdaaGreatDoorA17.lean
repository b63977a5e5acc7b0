import Derived.Test.YtbehdodaaobcdaaGreatDoorA15
import Derived.ProofKit
import Derived.OpenShut
import Derived.Test.YtbehdodaaobcdaaGreatDoorA16
import Derived.SizedLaws
import Derived.Deep.Slices
import Derived.Lib.Join
import Derived.Lib.LaidTab
import Derived.Below
import Derived.Test.YtbehdodaaobcdaaGreatDoorA00
import Derived.Test.YtbehdodaaobcdaaGreatDoorA06
import Derived.KernelRfl
set_option maxHeartbeats 4000000
namespace Go.AM
open Go Go.ChangeShapes Go.WideShapes
section
variable {H : Type} {enc : TypeId × Value → H} {P : Program} {w : World} {base : Nat} {spare : Nat → Bool} {held : Bool}
theorem kept_of_fr {w0 w : World} (h : Fr w0 (fun _ => False) w) (may : MemPlace → Prop) : w0.keptBut w may := by
  refine ⟨h.os, h.output, fun i hi => ?_⟩
  rw [h.block i hi id]
  exact (World.keptBut_refl w0 may).2.2 i hi
theorem post_plain {f : Func} {s : ChangeSpec} {apart fresh handsOn again : Bool} {W W' : World} {args : Array Value} {v : Value} {ds gs : List (DataW H)}
    (hW : DataW.Whole enc P f.params.toList s.vars apart W args.toList ds gs [])
    (hres : ∀ (b : Nat) (sp : Nat → Bool) (hd : Bool), DataW.TrodAll enc P W' b sp hd f.resultTypes.toList (v.resultList f.resultTypes.size) (s.fn H (ds ++ gs)).results [])
    (hargs : ∀ sp : Nat → Bool, DataW.TrodAll enc P W' 0 sp true f.params.toList args.toList (s.fn H (ds ++ gs)).args [])
    (hvars : ∀ sp : Nat → Bool, DataW.TrodVars enc P W' sp s.vars (s.fn H (ds ++ gs)).vars [])
    (hk : Fr W (fun _ => False) W')
    (hok : ∀ (j : Nat) (t : TypeId) (r : Value), f.resultTypes[j]? = some t → (v.resultList f.resultTypes.size)[j]? = some r → Value.okWide P W' .any 0 t r) :
    s.post enc P f apart fresh handsOn again W args v W' := by
  refine ⟨ds, gs, [], [], [], [], hW, hres _ _ _, hargs _, hvars _, kept_of_fr hk _, fun _ => ?_⟩
  obtain ⟨_, _, _, _, _, hz, hn⟩ := hW
  refine ⟨hok, _, _, ([] ++ []) ++ [], ⟨[] ++ [], [], trodAll_append (hargs _) (hres _ _ _), hvars _, rfl, ?_, ?_⟩, ?_⟩
  · intro b off hp
    cases hp
  · intro ha
    exact List.nodup_nil
  · intro p hp _
    cases hp
end
end Go.AM
namespace Go.AM
open Go Go.ChangeShapes Go.WideShapes
section
variable {H : Type} {enc : TypeId × Value → H} {P : Program} {w : World} {base : Nat} {spare : Nat → Bool} {held : Bool}
end
end Go.AM
namespace Go.AM
open Go Go.ChangeShapes Go.WideShapes
section
variable {H : Type} {enc : TypeId × Value → H} {P : Program} {w : World}
end
end Go.AM
namespace Go.AM
open Go Go.RowKit
section
variable {P : Program}
def HoldsC [Glob] (P : Program) (f : Nat) (q : PSpec) : Prop :=
  ∃ fn, P.funcs[f]? = some fn ∧ fn.body.isSome = true ∧ ∀ args av, (q args).gives av → noPtrs args = true ∧ ∃ v, av.valOf = some v ∧ ∀ (w : World) (vals : List Value), Glob.tab w → ArgsR [] args vals → Calls P f vals.toArray w (fun e w' => e = .returned v ∧ Fr w (fun _ => False) w')
theorem PureOk.addC [Glob] {S : Sums} (hP : PureOk P S) {f : Nat} {q : PSpec} (hq : HoldsC P f q) (hnd : Glob.dr → False) {m : List Bool} : PureOk P (S.add f q m) := by
  obtain ⟨fn, hf, hfb, hp⟩ := hq
  have core : ∀ args av, (q args).gives av → ∀ w0 Sx pl h vals, ArgsR pl args vals → ∃ v, ∀ w, HRel w0 Sx pl h w → av.R pl v ∧ Calls P f vals.toArray w (fun e w' => e = .returned v ∧ HRel w0 Sx pl h w') := by
    intro args av hg w0 Sx pl h vals hargs
    obtain ⟨h1, v, h2, h3⟩ := hp args av hg
    refine ⟨v, fun w hw => ⟨(AV.valOf_spec h2).1.ext (fun b p hp => by simp at hp), (h3 w vals hw.tabw (noPtrs_R h1 hargs)).mono ?_⟩⟩
    rintro e w' ⟨rfl, hfr⟩
    exact ⟨rfl, hw.later hfr fun d => (hnd d).elim⟩
  intro g p hg
  by_cases e : g = f
  · subst e
    simp only [Sums.add, if_true] at hg
    cases hg
    refine ⟨⟨fn, hf, hfb⟩, fun args av hgv w0 Sx pl h vals hargs => ?_⟩
    have hargs' := ArgsR_era (m := m) hargs
    unfold liftQ at hgv
    split at hgv
    · obtain ⟨av', h1, rfl⟩ := gives_map hgv
      obtain ⟨v, hv⟩ := core _ _ h1 w0 Sx pl h vals hargs'
      exact ⟨v, fun w hw => ⟨(AV.R_map lit_ok.1 lit_ok.2).2 (hv w hw).1, (hv w hw).2⟩⟩
    · exact core _ _ hgv w0 Sx pl h vals hargs'
  · simp only [Sums.add, if_neg e] at hg
    exact hP g p hg
theorem OkS.addC [Glob] {S : Sums} (h : OkS P S) {f : Nat} {q : PSpec} (hq : HoldsC P f q) {m : List Bool} (hnd : Glob.dr → False := by exact fun h => h) : OkS P (S.add f q m) := ⟨h.pure.addC hq hnd, h.spec, h.mono⟩
theorem Fr.of_below {w w' : World} (h : Below w.heap.size w w') : Fr w (fun _ => False) w' := ⟨h.os, h.tape, h.output, h.size, fun k hk _ => h.block k hk⟩
def atoiQ (J : List UInt8 → Option Int) : PSpec
  | [.v (.one (.str s))] => .iff (s.length ≤ 18 ∧ (J s).isSome = true) (.tup [.one (.sym .i64 ((J s).getD 0)), .one .nili])
  | _ => .fail
theorem atoi_ok [Glob] {f : Nat} {J : List UInt8 → Option Int} (hb : ∃ fn, P.funcs[f]? = some fn ∧ fn.body.isSome = true)
    (hj : ∀ (s : List UInt8) (n : Int) (w : World), s.length ≤ 18 → J s = some n → Calls P f #[.string ⟨s.toArray⟩] w fun e w' => e = .returned (.tuple #[.int .i64 n, .nilIface]) ∧ Fr w (fun _ => False) w') : HoldsC P f (atoiQ J) := by
  obtain ⟨fn, h1, h2⟩ := hb
  refine ⟨fn, h1, h2, fun args av hg => ?_⟩
  unfold atoiQ at hg
  split at hg
  · rename_i s
    rcases hg with hg | ⟨q, hg, hc⟩
    · cases hg
    · injection hg with e1 e2
      rw [← e1] at hc
      subst e2
      refine ⟨rfl, _, rfl, fun w vals ht hargs => ?_⟩
      match vals, hargs with
      | [x], hargs =>
        have hx := str_R hargs.1
        subst hx
        obtain ⟨n, hn⟩ := Option.isSome_iff_exists.1 hc.2
        have := hj s n w hc.1 hn
        rw [hn]
        exact this
      | [], hargs => exact hargs.elim
      | _ :: _ :: _, hargs => exact hargs.2.elim
  · exact (gives_fail hg).elim
end
end Go.AM
namespace Go.AM
open Go Go.Proofs Go.RowKit
def X0 : Sums := { pure := fun _ => none, spec := fun _ => none }
theorem pX0 : OkS P X0 := ⟨fun f p h => (by cases h), ⟨fun f p h => (by cases h), fun f p h => (by cases h), fun f g h => (by cases h)⟩, fun f p h => (by cases h)⟩
theorem hAtoi : HoldsC P 82 (atoiQ Lib.atoi) := by
  refine atoi_ok ⟨_, Tryz.func82, by kernel_rfl⟩ fun s n w hl hn => ?_
  refine (Any.strconv_Atoi Tryz.lays172 ⟨s.toArray⟩ n (by simpa [ByteArray.size] using hl) (by simpa using hn) w).mono ?_
  rintro e w' ⟨rfl, t, rfl⟩
  exact ⟨rfl, Fr.of_below ⟨rfl, rfl, rfl, by rw [Lib.bytesWorld_size]; omega, fun k hk => Lib.bytesWorld_at_old w _ _ k hk⟩⟩
def X1 : Sums := X0.add 82 (atoiQ Lib.atoi)
theorem pX1 : OkS P X1 := pX0.addC hAtoi
end Go.AM
open Go Go.AM Go.Proofs
namespace Go.AM
def G0 : Sums := X1
end Go.AM
open Go Go.AM Go.Proofs
namespace Go.AM
abbrev I (n : Int) : AV := .v (.one (.sym .i64 n))
abbrev B (b : Bool) : AV := .v (.one (.sb b))
abbrev V (a b c : Int) : AV := .v (.agg [.sym .i64 a, .sym .i64 b, .sym .i64 c])
abbrev M (a b c d e f g h i : Int) : AV := .v (.agg [.sym .i64 a, .sym .i64 b, .sym .i64 c, .sym .i64 d, .sym .i64 e, .sym .i64 f, .sym .i64 g, .sym .i64 h, .sym .i64 i])
abbrev C (n : Int) : AV := .v (.one (.con .i64 n))
def modF (n m : Int) : Int := (IntKind.i64.wrap (n.tmod m + m)).tmod m
def qMod : PSpec
  | [.v (.one (.sym .i64 n)), .v (.one (.sym .i64 m))] => .iff (m ≠ 0) (I (modF n m))
  | _ => .fail
def beyond (x m : Int) : Bool := decide (x < IntKind.i64.wrap (0 - m)) || decide (m < x)
def right (m : Int) : Bool := decide (m = 24) || (decide (m = 48) || (decide (m = 96) || decide (m = 192)))
theorem holds_ok {S : Sums} {f : Nat} {fn : Func} {q : PSpec} (hf : P.funcs[f]? = some fn) (hb : fn.body.isSome = true)
    (h : ∀ args av, (q args).gives av → noPtrs args = true ∧ ∃ v, av.valOf = some v ∧ call P S noAnn 100000 fn args [] (fun v' h => v'.valOf = some v ∧ h = [])) : Holds P S f q :=
  ⟨fn, hf, hb, fun args av hg => by
    obtain ⟨h1, v, h2, h3⟩ := h args av hg
    exact ⟨h1, v, 100000, noAnn, rfl, h2, h3⟩⟩
theorem leafB {b c : Bool} (h : b = true ↔ c = true) : (AV.v (.one (.cb b))).valOf = some (.bool c) ∧ ([] : Heap) = [] := by have h := Bool.eq_iff_iff.2 h; subst h; exact ⟨rfl, rfl⟩
theorem leafS {b c : Bool} (h : b = true ↔ c = true) : (AV.v (.one (.sb b))).valOf = some (.bool c) ∧ ([] : Heap) = [] := by have h := Bool.eq_iff_iff.2 h; subst h; exact ⟨rfl, rfl⟩
theorem nf19 (n m : Int) (K : KV) : call P G0 noAnn 100000 Tryz.f85 [I n, I m] [] K = ((m = 0 → False) ∧ (m = 0 → False) ∧ K (AV.v (PV.one (SV.sym IntKind.i64 ((IntKind.i64.wrap (n.tmod m + m)).tmod m)))) []) := by kernel_rfl
theorem h19 : Holds P G0 85 qMod := by
  refine holds_ok (fn := Tryz.f85) (by kernel_rfl) (by kernel_rfl) fun args av h => ?_
  unfold qMod at h
  split at h
  · rename_i n m
    rcases h with h | ⟨p, h, hp⟩
    · cases h
    · injection h with h1 h2
      subst h2
      rw [← h1] at hp
      exact ⟨rfl, _, rfl, (nf19 n m _).mpr ⟨hp, hp, rfl, rfl⟩⟩
  · exact (gives_fail h).elim
theorem leafI {k : IntKind} {n m : Int} (h : n = m) : (AV.v (.one (.con k n))).valOf = some (.int k m) ∧ ([] : Heap) = [] := by subst h; exact ⟨rfl, rfl⟩
def out (m a : Int) : Bool := decide (a < 0) || decide (m ≤ a)
end Go.AM
open Go Go.AM Go.Proofs
namespace Go.AM
def O0 : Sums := G0.add 85 qMod
def oq65 : PSpec
  | [.v (.one (.sym .i64 n))] => .ok (I (modF n 24))
  | _ => .fail
theorem onf65 (n : Int) (K : KV) : call P O0 noAnn 100000 Tryz.f123 [I n] [] K = (K (AV.v (PV.one (SV.sym IntKind.i64 ((IntKind.i64.wrap (n.tmod 24 + 24)).tmod 24)))) []) := by kernel_rfl
theorem oh65 : Holds P O0 123 oq65 := by
  refine holds_ok (fn := Tryz.f123) (by kernel_rfl) (by kernel_rfl) fun args av h => ?_
  unfold oq65 at h
  split at h
  · rename_i n
    rw [gives_ok h]
    exact ⟨rfl, _, rfl, (onf65 n _).mpr ⟨rfl, rfl⟩⟩
  · exact (gives_fail h).elim
def oq46 : PSpec
  | [.v (.one (.sym .i64 x)), .v (.one (.sym .i64 m))] => .ok (B (beyond x m))
  | _ => .fail
theorem onf46 (x m : Int) (K : KV) : call P O0 noAnn 100000 Tryz.f116 [I x, I m] [] K = ((decide (x < IntKind.i64.wrap (0 - m)) = true → K (AV.v (PV.one (SV.cb true))) []) ∧ (decide (x < IntKind.i64.wrap (0 - m)) = false → K (AV.v (PV.one (SV.sb (decide (m < x))))) [])) := by kernel_rfl
theorem oh46 : Holds P O0 116 oq46 := by
  refine holds_ok (fn := Tryz.f116) (by kernel_rfl) (by kernel_rfl) fun args av h => ?_
  unfold oq46 at h
  split at h
  · rename_i x m
    rw [gives_ok h]
    refine ⟨rfl, _, rfl, ?_⟩
    rw [onf46 x m]
    repeat' (first | apply leafB | apply leafS | apply And.intro | intro _)
    all_goals
      simp only [decide_eq_true_eq, decide_eq_false_iff_not] at *
      simp only [beyond, Bool.or_eq_true, decide_eq_true_eq, true_iff, Bool.false_eq_true, false_iff]
      omega
  · exact (gives_fail h).elim
def O1 : Sums := ((O0.add 123 oq65).add 116 oq46)
end Go.AM
open Go Go.AM Go.Proofs
namespace Go.AM
def oq38 : PSpec
  | [] => .ok (AV.v (PV.agg [SV.con IntKind.i64 1, SV.con IntKind.i64 0, SV.con IntKind.i64 0, SV.con IntKind.i64 0, SV.con IntKind.i64 1, SV.con IntKind.i64 0, SV.con IntKind.i64 0, SV.con IntKind.i64 0, SV.con IntKind.i64 1]))
  | _ => .fail
theorem onf38  (K : KV) : call P O1 noAnn 100000 Tryz.f31 [] [] K = (K (AV.v (PV.agg [SV.con IntKind.i64 1, SV.con IntKind.i64 0, SV.con IntKind.i64 0, SV.con IntKind.i64 0, SV.con IntKind.i64 1, SV.con IntKind.i64 0, SV.con IntKind.i64 0, SV.con IntKind.i64 0, SV.con IntKind.i64 1])) []) := by kernel_rfl
theorem oh38 : Holds P O1 31 oq38 := by
  refine holds_ok (fn := Tryz.f31) (by kernel_rfl) (by kernel_rfl) fun args av h => ?_
  unfold oq38 at h
  split at h
  · rw [gives_ok h]
    refine ⟨rfl, _, rfl, ?_⟩
    rw [onf38]
    exact ⟨rfl, rfl⟩
  · exact (gives_fail h).elim
def oq29 : PSpec
  | [] => .ok (AV.v (PV.agg [SV.con IntKind.i64 1, SV.con IntKind.i64 0, SV.con IntKind.i64 0, SV.con IntKind.i64 0, SV.con IntKind.i64 1, SV.con IntKind.i64 0, SV.con IntKind.i64 0, SV.con IntKind.i64 0, SV.con IntKind.i64 1, SV.con IntKind.i64 0, SV.con IntKind.i64 0, SV.con IntKind.i64 0]))
  | _ => .fail
theorem onf29  (K : KV) : call P O1 noAnn 100000 Tryz.f17 [] [] K = (K (AV.v (PV.agg [SV.con IntKind.i64 1, SV.con IntKind.i64 0, SV.con IntKind.i64 0, SV.con IntKind.i64 0, SV.con IntKind.i64 1, SV.con IntKind.i64 0, SV.con IntKind.i64 0, SV.con IntKind.i64 0, SV.con IntKind.i64 1, SV.con IntKind.i64 0, SV.con IntKind.i64 0, SV.con IntKind.i64 0])) []) := by kernel_rfl
theorem oh29 : Holds P O1 17 oq29 := by
  refine holds_ok (fn := Tryz.f17) (by kernel_rfl) (by kernel_rfl) fun args av h => ?_
  unfold oq29 at h
  split at h
  · rw [gives_ok h]
    refine ⟨rfl, _, rfl, ?_⟩
    rw [onf29]
    exact ⟨rfl, rfl⟩
  · exact (gives_fail h).elim
def oq51 : PSpec
  | [.v (.agg [.sym .i64 a, .sym .i64 b, .sym .i64 c, .sym .i64 d, .sym .i64 e, .sym .i64 f, .sym .i64 g, .sym .i64 h, .sym .i64 i]), .v (.agg [.sym .i64 x, .sym .i64 y, .sym .i64 z])] => .ok (AV.v (PV.agg [SV.sym IntKind.i64 (modF (IntKind.i64.wrap (modF (IntKind.i64.wrap (modF (IntKind.i64.wrap (0 + IntKind.i64.wrap (modF a 24 * x))) 24 + IntKind.i64.wrap (modF b 24 * y))) 24 + IntKind.i64.wrap (modF c 24 * z))) 24), SV.sym IntKind.i64 (modF (IntKind.i64.wrap (modF (IntKind.i64.wrap (modF (IntKind.i64.wrap (0 + IntKind.i64.wrap (modF d 24 * x))) 24 + IntKind.i64.wrap (modF e 24 * y))) 24 + IntKind.i64.wrap (modF f 24 * z))) 24), SV.sym IntKind.i64 (modF (IntKind.i64.wrap (modF (IntKind.i64.wrap (modF (IntKind.i64.wrap (0 + IntKind.i64.wrap (modF g 24 * x))) 24 + IntKind.i64.wrap (modF h 24 * y))) 24 + IntKind.i64.wrap (modF i 24 * z))) 24)]))
  | _ => .fail
open IntKind in
theorem onf51 (a b c d e f g h i x y z : Int) (K : KV) : call P O1 noAnn 100000 Tryz.f87 [M a b c d e f g h i, V x y z] [] K = (K (.v (.agg [.sym .i64 (modF (i64.wrap (modF (i64.wrap (modF (i64.wrap (0+i64.wrap (modF a 24*x))) 24+i64.wrap (modF b 24*y))) 24+i64.wrap (modF c 24*z))) 24),.sym .i64 (modF (i64.wrap (modF (i64.wrap (modF (i64.wrap (0+i64.wrap (modF d 24*x))) 24+i64.wrap (modF e 24*y))) 24+i64.wrap (modF f 24*z))) 24),.sym .i64 (modF (i64.wrap (modF (i64.wrap (modF (i64.wrap (0+i64.wrap (modF g 24*x))) 24+i64.wrap (modF h 24*y))) 24+i64.wrap (modF i 24*z))) 24)])) []) := by kernel_rfl
theorem oh51 : Holds P O1 87 oq51 := by
  refine holds_ok (fn := Tryz.f87) (by kernel_rfl) (by kernel_rfl) fun args av h => ?_
  unfold oq51 at h
  split at h
  · rw [gives_ok h]
    refine ⟨rfl, _, rfl, ?_⟩
    rw [onf51]
    exact ⟨rfl, rfl⟩
  · exact (gives_fail h).elim
def oq63 : PSpec
  | [.v (.agg [.sym .i64 a, .sym .i64 b, .sym .i64 c, .sym .i64 d, .sym .i64 e, .sym .i64 f, .sym .i64 g, .sym .i64 h, .sym .i64 i]), .v (.agg [.sym .i64 p, .sym .i64 q, .sym .i64 r, .sym .i64 s, .sym .i64 t, .sym .i64 u, .sym .i64 v, .sym .i64 w, .sym .i64 x])] => .ok (AV.v (PV.agg [SV.sym IntKind.i64 (IntKind.i64.wrap (IntKind.i64.wrap (IntKind.i64.wrap (a * p) + IntKind.i64.wrap (b * s)) + IntKind.i64.wrap (c * v))), SV.sym IntKind.i64 (IntKind.i64.wrap (IntKind.i64.wrap (IntKind.i64.wrap (a * q) + IntKind.i64.wrap (b * t)) + IntKind.i64.wrap (c * w))), SV.sym IntKind.i64 (IntKind.i64.wrap (IntKind.i64.wrap (IntKind.i64.wrap (a * r) + IntKind.i64.wrap (b * u)) + IntKind.i64.wrap (c * x))), SV.sym IntKind.i64 (IntKind.i64.wrap (IntKind.i64.wrap (IntKind.i64.wrap (d * p) + IntKind.i64.wrap (e * s)) + IntKind.i64.wrap (f * v))), SV.sym IntKind.i64 (IntKind.i64.wrap (IntKind.i64.wrap (IntKind.i64.wrap (d * q) + IntKind.i64.wrap (e * t)) + IntKind.i64.wrap (f * w))), SV.sym IntKind.i64 (IntKind.i64.wrap (IntKind.i64.wrap (IntKind.i64.wrap (d * r) + IntKind.i64.wrap (e * u)) + IntKind.i64.wrap (f * x))), SV.sym IntKind.i64 (IntKind.i64.wrap (IntKind.i64.wrap (IntKind.i64.wrap (g * p) + IntKind.i64.wrap (h * s)) + IntKind.i64.wrap (i * v))), SV.sym IntKind.i64 (IntKind.i64.wrap (IntKind.i64.wrap (IntKind.i64.wrap (g * q) + IntKind.i64.wrap (h * t)) + IntKind.i64.wrap (i * w))), SV.sym IntKind.i64 (IntKind.i64.wrap (IntKind.i64.wrap (IntKind.i64.wrap (g * r) + IntKind.i64.wrap (h * u)) + IntKind.i64.wrap (i * x)))]))
  | _ => .fail
open IntKind in
theorem onf63 (a b c d e f g h i p q r s t u v w x : Int) (K : KV) : call P O1 noAnn 100000 Tryz.f122 [M a b c d e f g h i, M p q r s t u v w x] [] K = (K (.v (.agg [.sym .i64 (i64.wrap (i64.wrap (i64.wrap (a*p)+i64.wrap (b*s))+i64.wrap (c*v))),.sym .i64 (i64.wrap (i64.wrap (i64.wrap (a*q)+i64.wrap (b*t))+i64.wrap (c*w))),.sym .i64 (i64.wrap (i64.wrap (i64.wrap (a*r)+i64.wrap (b*u))+i64.wrap (c*x))),.sym .i64 (i64.wrap (i64.wrap (i64.wrap (d*p)+i64.wrap (e*s))+i64.wrap (f*v))),.sym .i64 (i64.wrap (i64.wrap (i64.wrap (d*q)+i64.wrap (e*t))+i64.wrap (f*w))),.sym .i64 (i64.wrap (i64.wrap (i64.wrap (d*r)+i64.wrap (e*u))+i64.wrap (f*x))),.sym .i64 (i64.wrap (i64.wrap (i64.wrap (g*p)+i64.wrap (h*s))+i64.wrap (i*v))),.sym .i64 (i64.wrap (i64.wrap (i64.wrap (g*q)+i64.wrap (h*t))+i64.wrap (i*w))),.sym .i64 (i64.wrap (i64.wrap (i64.wrap (g*r)+i64.wrap (h*u))+i64.wrap (i*x)))])) []) := by kernel_rfl
theorem oh63 : Holds P O1 122 oq63 := by
  refine holds_ok (fn := Tryz.f122) (by kernel_rfl) (by kernel_rfl) fun args av h => ?_
  unfold oq63 at h
  split at h
  · rw [gives_ok h]
    refine ⟨rfl, _, rfl, ?_⟩
    rw [onf63]
    exact ⟨rfl, rfl⟩
  · exact (gives_fail h).elim
def O2 : Sums := ((((O1.add 31 oq38).add 17 oq29).add 87 oq51).add 122 oq63)
end Go.AM
open Go Go.AM Go.Proofs
namespace Go.AM
def cof (a b c d : Int) : Int := IntKind.i64.wrap (IntKind.i64.wrap (a * d) - IntKind.i64.wrap (b * c))
def over9 (a b c d e f g h i : Int) : Bool := beyond a 1000 || (beyond b 1000 || (beyond c 1000 || (beyond d 1000 || (beyond e 1000 || (beyond f 1000 || (beyond g 1000 || (beyond h 1000 || beyond i 1000)))))))
def oq47 : PSpec
  | [.v (.agg [.sym .i64 a, .sym .i64 b, .sym .i64 c, .sym .i64 d, .sym .i64 e, .sym .i64 f, .sym .i64 g, .sym .i64 h, .sym .i64 i]), .v (.one (.con .i64 x)), .v (.one (.con .i64 y))] => if x = 0 then (if y = 0 then .ok (I (cof e f h i)) else if y = 1 then .ok (I (cof f d i g)) else if y = 2 then .ok (I (cof d e g h)) else .fail) else .fail
  | _ => .fail
theorem onf47_0 (a b c d e f g h i : Int) (K : KV) : call P O2 noAnn 100000 Tryz.f117 [M a b c d e f g h i, C 0, C 0] [] K = (K (AV.v (PV.one (SV.sym IntKind.i64 (IntKind.i64.wrap (IntKind.i64.wrap (e * i) - IntKind.i64.wrap (f * h)))))) []) := by kernel_rfl
theorem onf47_1 (a b c d e f g h i : Int) (K : KV) : call P O2 noAnn 100000 Tryz.f117 [M a b c d e f g h i, C 0, C 1] [] K = (K (AV.v (PV.one (SV.sym IntKind.i64 (IntKind.i64.wrap (IntKind.i64.wrap (f * g) - IntKind.i64.wrap (d * i)))))) []) := by kernel_rfl
theorem onf47_2 (a b c d e f g h i : Int) (K : KV) : call P O2 noAnn 100000 Tryz.f117 [M a b c d e f g h i, C 0, C 2] [] K = (K (AV.v (PV.one (SV.sym IntKind.i64 (IntKind.i64.wrap (IntKind.i64.wrap (d * h) - IntKind.i64.wrap (e * g)))))) []) := by kernel_rfl
theorem oh47 : Holds P O2 117 oq47 := by
  refine holds_ok (fn := Tryz.f117) (by kernel_rfl) (by kernel_rfl) fun args av hg => ?_
  unfold oq47 at hg
  split at hg
  · split at hg
    · rename_i hx
      subst hx
      split at hg
      · rename_i hy
        subst hy
        rw [gives_ok hg]
        refine ⟨rfl, _, rfl, ?_⟩
        rw [onf47_0]
        exact ⟨rfl, rfl⟩
      · split at hg
        · rename_i hy
          subst hy
          rw [gives_ok hg]
          refine ⟨rfl, _, rfl, ?_⟩
          rw [onf47_1]
          exact ⟨rfl, rfl⟩
        · split at hg
          · rename_i hy
            subst hy
            rw [gives_ok hg]
            refine ⟨rfl, _, rfl, ?_⟩
            rw [onf47_2]
            exact ⟨rfl, rfl⟩
          · exact (gives_fail hg).elim
    · exact (gives_fail hg).elim
  · exact (gives_fail hg).elim
def oq33 : PSpec
  | [.v (.agg [.sym .i64 a, .sym .i64 b, .sym .i64 c, .sym .i64 d, .sym .i64 e, .sym .i64 f, .sym .i64 g, .sym .i64 h, .sym .i64 i])] => .ok (I (if over9 a b c d e f g h i then 4 else 0))
  | _ => .fail
theorem onf33 (a b c d e f g h i : Int) (K : KV) : call P O2 noAnn 100000 Tryz.f73 [M a b c d e f g h i] [] K = ((beyond a 1000=true->K (.v (.one (.con .i64 4))) [])/\(beyond a 1000=false->(beyond b 1000=true->K (.v (.one (.con .i64 4))) [])/\(beyond b 1000=false->(beyond c 1000=true->K (.v (.one (.con .i64 4))) [])/\(beyond c 1000=false->(beyond d 1000=true->K (.v (.one (.con .i64 4))) [])/\(beyond d 1000=false->(beyond e 1000=true->K (.v (.one (.con .i64 4))) [])/\(beyond e 1000=false->(beyond f 1000=true->K (.v (.one (.con .i64 4))) [])/\(beyond f 1000=false->(beyond g 1000=true->K (.v (.one (.con .i64 4))) [])/\(beyond g 1000=false->(beyond h 1000=true->K (.v (.one (.con .i64 4))) [])/\(beyond h 1000=false->(beyond i 1000=true->K (.v (.one (.con .i64 4))) [])/\(beyond i 1000=false->K (.v (.one (.con .i64 0))) [])))))))))) := by kernel_rfl
theorem oh33 : Holds P O2 73 oq33 := by
  refine holds_ok (fn := Tryz.f73) (by kernel_rfl) (by kernel_rfl) fun args av hg => ?_
  unfold oq33 at hg
  split at hg
  · rw [gives_ok hg]
    refine ⟨rfl, _, rfl, ?_⟩
    rw [onf33]
    repeat' (first | apply leafI | apply And.intro | intro _)
    all_goals simp [over9, *]
  · exact (gives_fail hg).elim
def oq50 : PSpec
  | [.v (.agg [.sym .i64 a, .sym .i64 b, .sym .i64 c]), .v (.agg [.sym .i64 d, .sym .i64 e, .sym .i64 f])] => .ok (V (modF (IntKind.i64.wrap (a.tmod 24 + d.tmod 24)) 24) (modF (IntKind.i64.wrap (b.tmod 24 + e.tmod 24)) 24) (modF (IntKind.i64.wrap (c.tmod 24 + f.tmod 24)) 24))
  | _ => .fail
theorem onf50 (a b c d e f : Int) (K : KV) : call P O2 noAnn 100000 Tryz.f60 [V a b c, V d e f] [] K = (((24:Int)=0->False)/\((24:Int)=0->False)/\((24:Int)=0->False)/\K (.v (.agg [.sym .i64 (modF (IntKind.i64.wrap (a.tmod 24+d.tmod 24)) 24),.sym .i64 (modF (IntKind.i64.wrap (b.tmod 24+e.tmod 24)) 24),.sym .i64 (modF (IntKind.i64.wrap (c.tmod 24+f.tmod 24)) 24)])) []) := by kernel_rfl
theorem oh50 : Holds P O2 60 oq50 := by
  refine holds_ok (fn := Tryz.f60) (by kernel_rfl) (by kernel_rfl) fun args av hg => ?_
  unfold oq50 at hg
  split at hg
  · rw [gives_ok hg]
    refine ⟨rfl, _, rfl, ?_⟩
    rw [onf50]
    exact ⟨by decide, by decide, by decide, rfl, rfl⟩
  · exact (gives_fail hg).elim
def O3 : Sums := (((O2.add 117 oq47 [false, true, true]).add 73 oq33).add 60 oq50)
end Go.AM
open Go Go.AM Go.Proofs
namespace Go.AM
def zb (bad : Bool) (x : Int) : Int := if bad then 0 else x
def oq34 : PSpec
  | [.v (.agg [.sym .i64 a, .sym .i64 b, .sym .i64 c, .sym .i64 d, .sym .i64 e, .sym .i64 f, .sym .i64 g, .sym .i64 h, .sym .i64 i])] => .ok (I (IntKind.i64.wrap (IntKind.i64.wrap (IntKind.i64.wrap (a * cof e f h i) + IntKind.i64.wrap (b * cof f d i g)) + IntKind.i64.wrap (c * cof d e g h))))
  | _ => .fail
theorem onf34 (a b c d e f g h i : Int) (K : KV) : call P O3 noAnn 100000 Tryz.f74 [M a b c d e f g h i] [] K = (K (AV.v (PV.one (SV.sym IntKind.i64 (IntKind.i64.wrap (IntKind.i64.wrap (IntKind.i64.wrap (a * cof e f h i) + IntKind.i64.wrap (b * cof f d i g)) + IntKind.i64.wrap (c * cof d e g h)))))) []) := by kernel_rfl
theorem oh34 : Holds P O3 74 oq34 := by
  refine holds_ok (fn := Tryz.f74) (by kernel_rfl) (by kernel_rfl) fun args av hg => ?_
  unfold oq34 at hg
  split at hg
  · rw [gives_ok hg]
    refine ⟨rfl, _, rfl, ?_⟩
    rw [onf34]
    exact ⟨rfl, rfl⟩
  · exact (gives_fail hg).elim
def oq40 : PSpec
  | [.v (.agg [.sym .i64 a, .sym .i64 b, .sym .i64 c, .sym .i64 d, .sym .i64 e, .sym .i64 f, .sym .i64 g, .sym .i64 h, .sym .i64 i, .sym .i64 x, .sym .i64 y, .sym .i64 z])] => .ok (.tup [.agg [.sym .i64 (zb (over9 a b c d e f g h i) a), .sym .i64 (zb (over9 a b c d e f g h i) b), .sym .i64 (zb (over9 a b c d e f g h i) c), .sym .i64 (zb (over9 a b c d e f g h i) d), .sym .i64 (zb (over9 a b c d e f g h i) e), .sym .i64 (zb (over9 a b c d e f g h i) f), .sym .i64 (zb (over9 a b c d e f g h i) g), .sym .i64 (zb (over9 a b c d e f g h i) h), .sym .i64 (zb (over9 a b c d e f g h i) i), .sym .i64 (zb (over9 a b c d e f g h i) x), .sym .i64 (zb (over9 a b c d e f g h i) y), .sym .i64 (zb (over9 a b c d e f g h i) z)], .one (.sym .i64 (if over9 a b c d e f g h i then 4 else 0))])
  | _ => .fail
theorem onf40 (a b c d e f g h i x y z : Int) (K : KV) : call P O3 noAnn 100000 Tryz.f61 [.v (.agg [.sym .i64 a, .sym .i64 b, .sym .i64 c, .sym .i64 d, .sym .i64 e, .sym .i64 f, .sym .i64 g, .sym .i64 h, .sym .i64 i, .sym .i64 x, .sym .i64 y, .sym .i64 z])] [] K = (((!decide ((if over9 a b c d e f g h i=true then (4:Int) else (0:Int))=0))=true->K (.tup [.agg [.con .i64 (0:Int),.con .i64 (0:Int),.con .i64 (0:Int),.con .i64 (0:Int),.con .i64 (0:Int),.con .i64 (0:Int),.con .i64 (0:Int),.con .i64 (0:Int),.con .i64 (0:Int),.con .i64 (0:Int),.con .i64 (0:Int),.con .i64 0],.one (.sym .i64 (if over9 a b c d e f g h i=true then (4:Int) else (0:Int)))]) [])/\((!decide ((if over9 a b c d e f g h i=true then (4:Int) else (0:Int))=0))=false->K (.tup [.agg [.sym .i64 a,.sym .i64 b,.sym .i64 c,.sym .i64 d,.sym .i64 e,.sym .i64 f,.sym .i64 g,.sym .i64 h,.sym .i64 i,.sym .i64 x,.sym .i64 y,.sym .i64 z],.one (.con .i64 0)]) [])) := by kernel_rfl
theorem oh40 : Holds P O3 61 oq40 := by
  refine holds_ok (fn := Tryz.f61) (by kernel_rfl) (by kernel_rfl) fun args av hg => ?_
  unfold oq40 at hg
  split at hg
  · rename_i a b c d e f g h i x y z
    rw [gives_ok hg]
    refine ⟨rfl, _, rfl, ?_⟩
    rw [onf40]
    cases h1 : over9 a b c d e f g h i with
    | false => exact ⟨fun h => absurd h (by decide), fun _ => ⟨rfl, rfl⟩⟩
    | true => exact ⟨fun _ => ⟨rfl, rfl⟩, fun h => absurd h (by decide)⟩
  · exact (gives_fail hg).elim
def oq49 : PSpec
  | [.v (.agg [.sym .i64 a, .sym .i64 b, .sym .i64 c, .sym .i64 d, .sym .i64 e, .sym .i64 f, .sym .i64 g, .sym .i64 h, .sym .i64 i]), .v (.agg [.sym .i64 p, .sym .i64 q, .sym .i64 r, .sym .i64 s, .sym .i64 t, .sym .i64 u, .sym .i64 v, .sym .i64 w, .sym .i64 x])] => .ok (.tup [.agg [.sym .i64 (zb (over9 a b c d e f g h i || over9 p q r s t u v w x) (IntKind.i64.wrap (IntKind.i64.wrap (IntKind.i64.wrap (a * p) + IntKind.i64.wrap (b * s)) + IntKind.i64.wrap (c * v)))), .sym .i64 (zb (over9 a b c d e f g h i || over9 p q r s t u v w x) (IntKind.i64.wrap (IntKind.i64.wrap (IntKind.i64.wrap (a * q) + IntKind.i64.wrap (b * t)) + IntKind.i64.wrap (c * w)))), .sym .i64 (zb (over9 a b c d e f g h i || over9 p q r s t u v w x) (IntKind.i64.wrap (IntKind.i64.wrap (IntKind.i64.wrap (a * r) + IntKind.i64.wrap (b * u)) + IntKind.i64.wrap (c * x)))), .sym .i64 (zb (over9 a b c d e f g h i || over9 p q r s t u v w x) (IntKind.i64.wrap (IntKind.i64.wrap (IntKind.i64.wrap (d * p) + IntKind.i64.wrap (e * s)) + IntKind.i64.wrap (f * v)))), .sym .i64 (zb (over9 a b c d e f g h i || over9 p q r s t u v w x) (IntKind.i64.wrap (IntKind.i64.wrap (IntKind.i64.wrap (d * q) + IntKind.i64.wrap (e * t)) + IntKind.i64.wrap (f * w)))), .sym .i64 (zb (over9 a b c d e f g h i || over9 p q r s t u v w x) (IntKind.i64.wrap (IntKind.i64.wrap (IntKind.i64.wrap (d * r) + IntKind.i64.wrap (e * u)) + IntKind.i64.wrap (f * x)))), .sym .i64 (zb (over9 a b c d e f g h i || over9 p q r s t u v w x) (IntKind.i64.wrap (IntKind.i64.wrap (IntKind.i64.wrap (g * p) + IntKind.i64.wrap (h * s)) + IntKind.i64.wrap (i * v)))), .sym .i64 (zb (over9 a b c d e f g h i || over9 p q r s t u v w x) (IntKind.i64.wrap (IntKind.i64.wrap (IntKind.i64.wrap (g * q) + IntKind.i64.wrap (h * t)) + IntKind.i64.wrap (i * w)))), .sym .i64 (zb (over9 a b c d e f g h i || over9 p q r s t u v w x) (IntKind.i64.wrap (IntKind.i64.wrap (IntKind.i64.wrap (g * r) + IntKind.i64.wrap (h * u)) + IntKind.i64.wrap (i * x))))], .one (.sym .i64 (if (over9 a b c d e f g h i || over9 p q r s t u v w x) then 4 else 0))])
  | _ => .fail
open IntKind in
theorem onf49 (a b c d e f g h i p q r s t u v w x : Int) (K : KV) : call P O3 noAnn 100000 Tryz.f86 [M a b c d e f g h i, M p q r s t u v w x] [] K = (((!decide ((if over9 a b c d e f g h i=true then (4:Int) else (0:Int))=0))=true->K (.tup [.agg [.con .i64 (0:Int),.con .i64 (0:Int),.con .i64 (0:Int),.con .i64 (0:Int),.con .i64 (0:Int),.con .i64 (0:Int),.con .i64 (0:Int),.con .i64 (0:Int),.con .i64 0],.one (.con .i64 4)]) [])/\((!decide ((if over9 a b c d e f g h i=true then (4:Int) else (0:Int))=0))=false->((!decide ((if over9 p q r s t u v w x=true then (4:Int) else (0:Int))=0))=true->K (.tup [.agg [.con .i64 (0:Int),.con .i64 (0:Int),.con .i64 (0:Int),.con .i64 (0:Int),.con .i64 (0:Int),.con .i64 (0:Int),.con .i64 (0:Int),.con .i64 (0:Int),.con .i64 0],.one (.con .i64 4)]) [])/\((!decide ((if over9 p q r s t u v w x=true then (4:Int) else (0:Int))=0))=false->K (.tup [.agg [.sym .i64 (i64.wrap (i64.wrap (i64.wrap (a*p)+i64.wrap (b*s))+i64.wrap (c*v))),.sym .i64 (i64.wrap (i64.wrap (i64.wrap (a*q)+i64.wrap (b*t))+i64.wrap (c*w))),.sym .i64 (i64.wrap (i64.wrap (i64.wrap (a*r)+i64.wrap (b*u))+i64.wrap (c*x))),.sym .i64 (i64.wrap (i64.wrap (i64.wrap (d*p)+i64.wrap (e*s))+i64.wrap (f*v))),.sym .i64 (i64.wrap (i64.wrap (i64.wrap (d*q)+i64.wrap (e*t))+i64.wrap (f*w))),.sym .i64 (i64.wrap (i64.wrap (i64.wrap (d*r)+i64.wrap (e*u))+i64.wrap (f*x))),.sym .i64 (i64.wrap (i64.wrap (i64.wrap (g*p)+i64.wrap (h*s))+i64.wrap (i*v))),.sym .i64 (i64.wrap (i64.wrap (i64.wrap (g*q)+i64.wrap (h*t))+i64.wrap (i*w))),.sym .i64 (i64.wrap (i64.wrap (i64.wrap (g*r)+i64.wrap (h*u))+i64.wrap (i*x)))],.one (.con .i64 0)]) []))) := by kernel_rfl
theorem oh49 : Holds P O3 86 oq49 := by
  refine holds_ok (fn := Tryz.f86) (by kernel_rfl) (by kernel_rfl) fun args av hg => ?_
  unfold oq49 at hg
  split at hg
  · rename_i a b c d e f g h i p q r s t u v w x
    rw [gives_ok hg]
    refine ⟨rfl, _, rfl, ?_⟩
    rw [onf49]
    cases h1 : over9 a b c d e f g h i with
    | true => exact ⟨fun _ => ⟨rfl, rfl⟩, fun h => absurd h (by decide)⟩
    | false =>
      cases h2 : over9 p q r s t u v w x with
      | true => exact ⟨fun h => absurd h (by decide), fun _ => ⟨fun _ => ⟨rfl, rfl⟩, fun h => absurd h (by decide)⟩⟩
      | false => exact ⟨fun h => absurd h (by decide), fun _ => ⟨fun h => absurd h (by decide), fun _ => ⟨rfl, rfl⟩⟩⟩
  · exact (gives_fail hg).elim
def O4 : Sums := (((O3.add 74 oq34).add 61 oq40).add 86 oq49)
end Go.AM
