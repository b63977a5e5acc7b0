import Derived.Test.YtbehdodaaobcdaaGreatDoorA41
import Derived.Test.YtbehdodaaobcdaaGreatDoorA19
import Derived.Test.YtbehdodaaobcdaaGreatDoorA40
import Derived.Test.YtbehdodaaobcdaaGreatDoorA16
import Derived.Test.YtbehdodaaobcdaaGreatDoorA20
import Derived.Test.YtbehdodaaobcdaaGreatDoorA17
import Derived.Test.YtbehdodaaobcdaaGreatDoorRows
import Derived.LaidMore
import Derived.LaidSub
import Derived.ChangeMaps5
set_option maxHeartbeats 4000000
open Go Go.AM Go.Proofs
namespace Go.AM
open Dist
set_option maxRecDepth 100000
end Go.AM
namespace Go.AM
set_option maxRecDepth 100000
structure Mp where
  r : M9
  x : Int
  y : Int
  z : Int
def tz (u : Mp) (n : Nat) : Prop := ((n : Int) * u.x) % 24 = 0 ∧ ((n : Int) * u.y) % 24 = 0 ∧ ((n : Int) * u.z) % 24 = 0
instance (u : Mp) (n : Nat) : Decidable (tz u n) := by unfold tz; infer_instance
end Go.AM
open Go Go.AM Go.Proofs
namespace Go.AM
open Dist
set_option maxRecDepth 100000
theorem b1 {x : Int} (h : -1 ≤ x ∧ x ≤ 1) : B1 x := by unfold B1; omega
end Go.AM
namespace Go.AM
open Go
section
variable {P : Program}
def HoldsL [Glob] (P : Program) (f : Nat) (q : PSpec) : Prop :=
  ∃ fn, P.funcs[f]? = some fn ∧ fn.body.isSome = true ∧ ∀ args av, (q args).gives av → noPtrs (mapA SV.lit args) = true ∧ ∃ v n A S, A.q = 0 ∧ OkS P S ∧ av.valOf = some v ∧ call P S A n fn (mapA SV.lit args) [] (fun v' h => v'.valOf = some v ∧ h = [])
theorem PureOk.addL [Glob] (hF : Fine P) {S : Sums} (hP : PureOk P S) {f : Nat} {q : PSpec} (hq : HoldsL P f q) {m : List Bool} : PureOk P (S.add f q m) := by
  obtain ⟨fn, hf, hfb, hp⟩ := hq
  have core : ∀ args av, (q args).gives av → ∀ w0 Sx pl h vals, ArgsR pl args vals → ∃ v, ∀ w, HRel w0 Sx pl h w → av.R pl v ∧ Calls P f vals.toArray w (fun e w' => e = .returned v ∧ HRel w0 Sx pl h w') := by
    intro args av hg w0 Sx pl h vals hargs
    obtain ⟨h1, v, n, A, S0, hq0, hS0, h2, h3⟩ := hp args av hg
    exact ⟨v, pure_sound hF hS0.pure hS0.spec hS0.mono hf h1 h2 h3 hq0 ((ArgsR_map lit_ok.1 lit_ok.2).2 hargs)⟩
  intro g p hg
  by_cases e : g = f
  · subst e
    simp only [Sums.add, if_true] at hg
    cases hg
    refine ⟨⟨fn, hf, hfb⟩, fun args av hgv w0 Sx pl h vals hargs => ?_⟩
    have hargs' := ArgsR_era (m := m) hargs
    unfold liftQ at hgv
    split at hgv
    · obtain ⟨av', h1, rfl⟩ := gives_map hgv
      obtain ⟨v, hv⟩ := core _ _ h1 w0 Sx pl h vals hargs'
      exact ⟨v, fun w hw => ⟨(AV.R_map lit_ok.1 lit_ok.2).2 (hv w hw).1, (hv w hw).2⟩⟩
    · exact core _ _ hgv w0 Sx pl h vals hargs'
  · simp only [Sums.add, if_neg e] at hg
    exact hP g p hg
theorem OkS.addL [Glob] (hF : Fine P) {S : Sums} (h : OkS P S) {f : Nat} {q : PSpec} (hq : HoldsL P f q) {m : List Bool} : OkS P (S.add f q m) := ⟨h.pure.addL hF hq, h.spec, h.mono⟩
end
end Go.AM
open Go Go.AM Go.Proofs
namespace Go.AM
open Dist
set_option maxRecDepth 100000
def qPowD : PSpec
  | [.v (.agg [.sym .i64 a, .sym .i64 b, .sym .i64 c, .sym .i64 d, .sym .i64 e, .sym .i64 f, .sym .i64 g, .sym .i64 h, .sym .i64 i]), .v (.one (.sym .i64 n))] => if decide (0 ≤ n) && decide (n ≤ 1000) then .ok (.v (.one (.sb (powB ⟨a, b, c, d, e, f, g, h, i⟩ n.toNat)))) else .fail
  | _ => .fail
theorem hPowD : HoldsE P 76 qPowD := HoldsE.cases hPower hPower fun args av hg => .inl (by
  unfold qPowD at hg
  split at hg
  · split at hg
    · rename_i h
      rw [Bool.and_eq_true, decide_eq_true_eq, decide_eq_true_eq] at h
      rw [gives_ok hg]
      exact ⟨_, .inr ⟨_, rfl, h⟩, rfl⟩
    · exact (gives_fail hg).elim
  · exact (gives_fail hg).elim)
def MC (o : OnB) : Sums := (Y6 o).add 76 qPowD
theorem pMC (o : OnB) : OkS P (MC o) := (pY6 o).add fine hPowD
def rwL (m : M9) : List SV := [.con .i64 m.a, .con .i64 m.b, .con .i64 m.c, .con .i64 m.d, .con .i64 m.e, .con .i64 m.f, .con .i64 m.g, .con .i64 m.h, .con .i64 m.i]
def voP (m : M9) : Prop := ∀ K : KV, call P (MC pruneOn) noAnn 10000 Tryz.f50 [.v (.agg (rwL m))] [] K = K (.tup [.one (.con .i64 (ordM m)), .one (.con .i64 0)]) []
end Go.AM
open Go Go.AM Go.Proofs
namespace Go.AM
open Dist
set_option maxRecDepth 100000
theorem vo24_0 : voP ⟨1, 0, 0, 0, 1, 0, 0, 0, 1⟩ := fun K => by kernel_rfl
theorem vo24_1 : voP ⟨1, -1, 0, 1, 0, 0, 0, 0, 1⟩ := fun K => by kernel_rfl
theorem vo24_2 : voP ⟨0, -1, 0, 1, -1, 0, 0, 0, 1⟩ := fun K => by kernel_rfl
theorem vo24_3 : voP ⟨-1, 0, 0, 0, -1, 0, 0, 0, 1⟩ := fun K => by kernel_rfl
theorem vo24_4 : voP ⟨-1, 1, 0, -1, 0, 0, 0, 0, 1⟩ := fun K => by kernel_rfl
theorem vo24_5 : voP ⟨0, 1, 0, -1, 1, 0, 0, 0, 1⟩ := fun K => by kernel_rfl
theorem vo24_6 : voP ⟨0, 1, 0, 1, 0, 0, 0, 0, -1⟩ := fun K => by kernel_rfl
theorem vo24_7 : voP ⟨-1, 1, 0, 0, 1, 0, 0, 0, -1⟩ := fun K => by kernel_rfl
theorem vo24_8 : voP ⟨-1, 0, 0, -1, 1, 0, 0, 0, -1⟩ := fun K => by kernel_rfl
theorem vo24_9 : voP ⟨0, -1, 0, -1, 0, 0, 0, 0, -1⟩ := fun K => by kernel_rfl
theorem vo24_10 : voP ⟨1, -1, 0, 0, -1, 0, 0, 0, -1⟩ := fun K => by kernel_rfl
theorem vo24_11 : voP ⟨1, 0, 0, 1, -1, 0, 0, 0, -1⟩ := fun K => by kernel_rfl
theorem vo24_12 : voP ⟨-1, 0, 0, 0, -1, 0, 0, 0, -1⟩ := fun K => by kernel_rfl
theorem vo24_13 : voP ⟨-1, 1, 0, -1, 0, 0, 0, 0, -1⟩ := fun K => by kernel_rfl
theorem vo24_14 : voP ⟨0, 1, 0, -1, 1, 0, 0, 0, -1⟩ := fun K => by kernel_rfl
theorem vo24_15 : voP ⟨1, 0, 0, 0, 1, 0, 0, 0, -1⟩ := fun K => by kernel_rfl
theorem vo24_16 : voP ⟨1, -1, 0, 1, 0, 0, 0, 0, -1⟩ := fun K => by kernel_rfl
theorem vo24_17 : voP ⟨0, -1, 0, 1, -1, 0, 0, 0, -1⟩ := fun K => by kernel_rfl
theorem vo24_18 : voP ⟨0, -1, 0, -1, 0, 0, 0, 0, 1⟩ := fun K => by kernel_rfl
theorem vo24_19 : voP ⟨1, -1, 0, 0, -1, 0, 0, 0, 1⟩ := fun K => by kernel_rfl
theorem vo24_20 : voP ⟨1, 0, 0, 1, -1, 0, 0, 0, 1⟩ := fun K => by kernel_rfl
theorem vo24_21 : voP ⟨0, 1, 0, 1, 0, 0, 0, 0, 1⟩ := fun K => by kernel_rfl
theorem vo24_22 : voP ⟨-1, 1, 0, 0, 1, 0, 0, 0, 1⟩ := fun K => by kernel_rfl
theorem vo24_23 : voP ⟨-1, 0, 0, -1, 1, 0, 0, 0, 1⟩ := fun K => by kernel_rfl
theorem vo24 : ∀ m ∈ G24, voP m :=
  List.forall_mem_cons.2 ⟨vo24_0, List.forall_mem_cons.2 ⟨vo24_1, List.forall_mem_cons.2 ⟨vo24_2, List.forall_mem_cons.2 ⟨vo24_3, List.forall_mem_cons.2 ⟨vo24_4, List.forall_mem_cons.2 ⟨vo24_5, List.forall_mem_cons.2 ⟨vo24_6, List.forall_mem_cons.2 ⟨vo24_7, List.forall_mem_cons.2 ⟨vo24_8, List.forall_mem_cons.2 ⟨vo24_9, List.forall_mem_cons.2 ⟨vo24_10, List.forall_mem_cons.2 ⟨vo24_11, List.forall_mem_cons.2 ⟨vo24_12, List.forall_mem_cons.2 ⟨vo24_13, List.forall_mem_cons.2 ⟨vo24_14, List.forall_mem_cons.2 ⟨vo24_15, List.forall_mem_cons.2 ⟨vo24_16, List.forall_mem_cons.2 ⟨vo24_17, List.forall_mem_cons.2 ⟨vo24_18, List.forall_mem_cons.2 ⟨vo24_19, List.forall_mem_cons.2 ⟨vo24_20, List.forall_mem_cons.2 ⟨vo24_21, List.forall_mem_cons.2 ⟨vo24_22, List.forall_mem_cons.2 ⟨vo24_23, (fun _ h => absurd h List.not_mem_nil)⟩⟩⟩⟩⟩⟩⟩⟩⟩⟩⟩⟩⟩⟩⟩⟩⟩⟩⟩⟩⟩⟩⟩⟩
theorem vo48_0 : voP ⟨1, 0, 0, 0, 1, 0, 0, 0, 1⟩ := fun K => by kernel_rfl
theorem vo48_1 : voP ⟨-1, 0, 0, 0, 1, 0, 0, 0, 1⟩ := fun K => by kernel_rfl
theorem vo48_2 : voP ⟨1, 0, 0, 0, -1, 0, 0, 0, 1⟩ := fun K => by kernel_rfl
theorem vo48_3 : voP ⟨-1, 0, 0, 0, -1, 0, 0, 0, 1⟩ := fun K => by kernel_rfl
theorem vo48_4 : voP ⟨1, 0, 0, 0, 1, 0, 0, 0, -1⟩ := fun K => by kernel_rfl
theorem vo48_5 : voP ⟨-1, 0, 0, 0, 1, 0, 0, 0, -1⟩ := fun K => by kernel_rfl
theorem vo48_6 : voP ⟨1, 0, 0, 0, -1, 0, 0, 0, -1⟩ := fun K => by kernel_rfl
theorem vo48_7 : voP ⟨-1, 0, 0, 0, -1, 0, 0, 0, -1⟩ := fun K => by kernel_rfl
theorem vo48_8 : voP ⟨1, 0, 0, 0, 0, 1, 0, 1, 0⟩ := fun K => by kernel_rfl
theorem vo48_9 : voP ⟨-1, 0, 0, 0, 0, 1, 0, 1, 0⟩ := fun K => by kernel_rfl
theorem vo48_10 : voP ⟨1, 0, 0, 0, 0, -1, 0, 1, 0⟩ := fun K => by kernel_rfl
theorem vo48_11 : voP ⟨-1, 0, 0, 0, 0, -1, 0, 1, 0⟩ := fun K => by kernel_rfl
theorem vo48_12 : voP ⟨1, 0, 0, 0, 0, 1, 0, -1, 0⟩ := fun K => by kernel_rfl
theorem vo48_13 : voP ⟨-1, 0, 0, 0, 0, 1, 0, -1, 0⟩ := fun K => by kernel_rfl
theorem vo48_14 : voP ⟨1, 0, 0, 0, 0, -1, 0, -1, 0⟩ := fun K => by kernel_rfl
theorem vo48_15 : voP ⟨-1, 0, 0, 0, 0, -1, 0, -1, 0⟩ := fun K => by kernel_rfl
theorem vo48_16 : voP ⟨0, 1, 0, 1, 0, 0, 0, 0, 1⟩ := fun K => by kernel_rfl
theorem vo48_17 : voP ⟨0, -1, 0, 1, 0, 0, 0, 0, 1⟩ := fun K => by kernel_rfl
theorem vo48_18 : voP ⟨0, 1, 0, -1, 0, 0, 0, 0, 1⟩ := fun K => by kernel_rfl
theorem vo48_19 : voP ⟨0, -1, 0, -1, 0, 0, 0, 0, 1⟩ := fun K => by kernel_rfl
theorem vo48_20 : voP ⟨0, 1, 0, 1, 0, 0, 0, 0, -1⟩ := fun K => by kernel_rfl
theorem vo48_21 : voP ⟨0, -1, 0, 1, 0, 0, 0, 0, -1⟩ := fun K => by kernel_rfl
theorem vo48_22 : voP ⟨0, 1, 0, -1, 0, 0, 0, 0, -1⟩ := fun K => by kernel_rfl
theorem vo48_23 : voP ⟨0, -1, 0, -1, 0, 0, 0, 0, -1⟩ := fun K => by kernel_rfl
theorem vo48_24 : voP ⟨0, 1, 0, 0, 0, 1, 1, 0, 0⟩ := fun K => by kernel_rfl
theorem vo48_25 : voP ⟨0, -1, 0, 0, 0, 1, 1, 0, 0⟩ := fun K => by kernel_rfl
theorem vo48_26 : voP ⟨0, 1, 0, 0, 0, -1, 1, 0, 0⟩ := fun K => by kernel_rfl
theorem vo48_27 : voP ⟨0, -1, 0, 0, 0, -1, 1, 0, 0⟩ := fun K => by kernel_rfl
theorem vo48_28 : voP ⟨0, 1, 0, 0, 0, 1, -1, 0, 0⟩ := fun K => by kernel_rfl
theorem vo48_29 : voP ⟨0, -1, 0, 0, 0, 1, -1, 0, 0⟩ := fun K => by kernel_rfl
theorem vo48_30 : voP ⟨0, 1, 0, 0, 0, -1, -1, 0, 0⟩ := fun K => by kernel_rfl
theorem vo48_31 : voP ⟨0, -1, 0, 0, 0, -1, -1, 0, 0⟩ := fun K => by kernel_rfl
theorem vo48_32 : voP ⟨0, 0, 1, 1, 0, 0, 0, 1, 0⟩ := fun K => by kernel_rfl
theorem vo48_33 : voP ⟨0, 0, -1, 1, 0, 0, 0, 1, 0⟩ := fun K => by kernel_rfl
theorem vo48_34 : voP ⟨0, 0, 1, -1, 0, 0, 0, 1, 0⟩ := fun K => by kernel_rfl
theorem vo48_35 : voP ⟨0, 0, -1, -1, 0, 0, 0, 1, 0⟩ := fun K => by kernel_rfl
theorem vo48_36 : voP ⟨0, 0, 1, 1, 0, 0, 0, -1, 0⟩ := fun K => by kernel_rfl
theorem vo48_37 : voP ⟨0, 0, -1, 1, 0, 0, 0, -1, 0⟩ := fun K => by kernel_rfl
theorem vo48_38 : voP ⟨0, 0, 1, -1, 0, 0, 0, -1, 0⟩ := fun K => by kernel_rfl
theorem vo48_39 : voP ⟨0, 0, -1, -1, 0, 0, 0, -1, 0⟩ := fun K => by kernel_rfl
theorem vo48_40 : voP ⟨0, 0, 1, 0, 1, 0, 1, 0, 0⟩ := fun K => by kernel_rfl
theorem vo48_41 : voP ⟨0, 0, -1, 0, 1, 0, 1, 0, 0⟩ := fun K => by kernel_rfl
theorem vo48_42 : voP ⟨0, 0, 1, 0, -1, 0, 1, 0, 0⟩ := fun K => by kernel_rfl
theorem vo48_43 : voP ⟨0, 0, -1, 0, -1, 0, 1, 0, 0⟩ := fun K => by kernel_rfl
theorem vo48_44 : voP ⟨0, 0, 1, 0, 1, 0, -1, 0, 0⟩ := fun K => by kernel_rfl
theorem vo48_45 : voP ⟨0, 0, -1, 0, 1, 0, -1, 0, 0⟩ := fun K => by kernel_rfl
theorem vo48_46 : voP ⟨0, 0, 1, 0, -1, 0, -1, 0, 0⟩ := fun K => by kernel_rfl
theorem vo48_47 : voP ⟨0, 0, -1, 0, -1, 0, -1, 0, 0⟩ := fun K => by kernel_rfl
theorem vo48 : ∀ m ∈ G48, voP m :=
  List.forall_mem_cons.2 ⟨vo48_0, List.forall_mem_cons.2 ⟨vo48_1, List.forall_mem_cons.2 ⟨vo48_2, List.forall_mem_cons.2 ⟨vo48_3, List.forall_mem_cons.2 ⟨vo48_4, List.forall_mem_cons.2 ⟨vo48_5, List.forall_mem_cons.2 ⟨vo48_6, List.forall_mem_cons.2 ⟨vo48_7, List.forall_mem_cons.2 ⟨vo48_8, List.forall_mem_cons.2 ⟨vo48_9, List.forall_mem_cons.2 ⟨vo48_10, List.forall_mem_cons.2 ⟨vo48_11, List.forall_mem_cons.2 ⟨vo48_12, List.forall_mem_cons.2 ⟨vo48_13, List.forall_mem_cons.2 ⟨vo48_14, List.forall_mem_cons.2 ⟨vo48_15, List.forall_mem_cons.2 ⟨vo48_16, List.forall_mem_cons.2 ⟨vo48_17, List.forall_mem_cons.2 ⟨vo48_18, List.forall_mem_cons.2 ⟨vo48_19, List.forall_mem_cons.2 ⟨vo48_20, List.forall_mem_cons.2 ⟨vo48_21, List.forall_mem_cons.2 ⟨vo48_22, List.forall_mem_cons.2 ⟨vo48_23, List.forall_mem_cons.2 ⟨vo48_24, List.forall_mem_cons.2 ⟨vo48_25, List.forall_mem_cons.2 ⟨vo48_26, List.forall_mem_cons.2 ⟨vo48_27, List.forall_mem_cons.2 ⟨vo48_28, List.forall_mem_cons.2 ⟨vo48_29, List.forall_mem_cons.2 ⟨vo48_30, List.forall_mem_cons.2 ⟨vo48_31, List.forall_mem_cons.2 ⟨vo48_32, List.forall_mem_cons.2 ⟨vo48_33, List.forall_mem_cons.2 ⟨vo48_34, List.forall_mem_cons.2 ⟨vo48_35, List.forall_mem_cons.2 ⟨vo48_36, List.forall_mem_cons.2 ⟨vo48_37, List.forall_mem_cons.2 ⟨vo48_38, List.forall_mem_cons.2 ⟨vo48_39, List.forall_mem_cons.2 ⟨vo48_40, List.forall_mem_cons.2 ⟨vo48_41, List.forall_mem_cons.2 ⟨vo48_42, List.forall_mem_cons.2 ⟨vo48_43, List.forall_mem_cons.2 ⟨vo48_44, List.forall_mem_cons.2 ⟨vo48_45, List.forall_mem_cons.2 ⟨vo48_46, List.forall_mem_cons.2 ⟨vo48_47, (fun _ h => absurd h List.not_mem_nil)⟩⟩⟩⟩⟩⟩⟩⟩⟩⟩⟩⟩⟩⟩⟩⟩⟩⟩⟩⟩⟩⟩⟩⟩⟩⟩⟩⟩⟩⟩⟩⟩⟩⟩⟩⟩⟩⟩⟩⟩⟩⟩⟩⟩⟩⟩⟩⟩
def qVor : PSpec
  | [.v (.agg [.sym .i64 a, .sym .i64 b, .sym .i64 c, .sym .i64 d, .sym .i64 e, .sym .i64 f, .sym .i64 g, .sym .i64 h, .sym .i64 i])] => .iff ((⟨a, b, c, d, e, f, g, h, i⟩ : M9) ∈ G24 ∨ (⟨a, b, c, d, e, f, g, h, i⟩ : M9) ∈ G48) (.tup [.one (.sym .i64 (ordM ⟨a, b, c, d, e, f, g, h, i⟩)), .one (.con .i64 0)])
  | _ => .fail
theorem hVor : HoldsL P 50 qVor := by
  refine ⟨Tryz.f50, by kernel_rfl, by kernel_rfl, fun args av hg => ?_⟩
  unfold qVor at hg
  split at hg
  · rename_i a b c d e f g h i
    obtain ⟨hm, rfl⟩ := givesIff hg
    have key : voP ⟨a, b, c, d, e, f, g, h, i⟩ := hm.elim (vo24 _) (vo48 _)
    refine ⟨rfl, _, 10000, noAnn, MC pruneOn, rfl, pMC pruneOn, rfl, ?_⟩
    exact (key _).mpr ⟨rfl, rfl⟩
  · exact (gives_fail hg).elim
end Go.AM
open Go Go.AM Go.Proofs
namespace Go.AM
open Dist
def qVorB : PSpec
  | [.v (.agg [.sym .i64 a, .sym .i64 b, .sym .i64 c, .sym .i64 d, .sym .i64 e, .sym .i64 f, .sym .i64 g, .sym .i64 h, .sym .i64 i])] => if memM G24 ⟨a, b, c, d, e, f, g, h, i⟩ || memM G48 ⟨a, b, c, d, e, f, g, h, i⟩ then .ok (.tup [.one (.sym .i64 (ordM ⟨a, b, c, d, e, f, g, h, i⟩)), .one (.con .i64 0)]) else .fail
  | _ => .fail
theorem hVorB : HoldsL P 50 qVorB := by
  obtain ⟨fn, h1, h2, h3⟩ := hVor
  refine ⟨fn, h1, h2, fun args av hg => h3 args av ?_⟩
  unfold qVorB at hg
  split at hg
  · rename_i a b c d e f g h i
    split at hg
    · rename_i hm
      simp only [Bool.or_eq_true, memM_iff] at hm
      rw [gives_ok hg]
      exact .inr ⟨_, rfl, hm⟩
    · exact (gives_fail hg).elim
  · exact (gives_fail hg).elim
def NS2 : Sums := NS.add 50 qVorB
theorem pNS2 : OkS P NS2 := pNS.addL fine hVorB
end Go.AM
open Go Go.AM Go.Proofs
namespace Go.AM
open Dist
def litArg : AV → Bool
  | .v (.one (.ow _ _ 0 _ true)) => true
  | _ => false
def litSpec (sp : ASpec) : ASpec := fun args h K => match args with
  | [a] => if litArg a then sp args h (fun v hh => K (v.mapS SV.lit) hh) else sp args h K
  | _ => sp args h K
theorem OkS.addLit {S : Sums} (h : OkS P S) {f : Nat} {sp : ASpec} (hs : S.spec f = some sp) : OkS P (S.addSp f (litSpec sp)) := by
  refine ⟨h.pure, ⟨fun g sp' hg => ?_, h.spec.2⟩, fun g sp' hg => ?_⟩
  · by_cases e : g = f
    · subst e
      simp only [Sums.addSp, if_true] at hg
      cases hg
      obtain ⟨hfn, hh⟩ := h.spec.1 g sp hs
      refine ⟨hfn, fun args hh' K hsp w0 Sx pl w vals hR hargs => ?_⟩
      unfold litSpec at hsp
      split at hsp
      · split at hsp
        · refine (hh _ hh' _ hsp w0 Sx pl w vals hR hargs).mono ?_
          rintro e w' ⟨u, av, h', pl', he, hav, hpx, hR', hK⟩
          exact ⟨u, _, h', pl', he, (AV.R_map lit_ok.1 lit_ok.2).2 hav, hpx, hR', hK⟩
        · exact hh _ hh' K hsp w0 Sx pl w vals hR hargs
      · exact hh _ hh' K hsp w0 Sx pl w vals hR hargs
    · simp only [Sums.addSp, if_neg e] at hg
      exact h.spec.1 g sp' hg
  · by_cases e : g = f
    · subst e
      simp only [Sums.addSp, if_true] at hg
      cases hg
      intro args hh K K' hK hx
      have hm := h.mono g sp hs
      unfold litSpec at hx ⊢
      split at hx
      · split at hx
        · rename_i hl
          rw [if_pos hl]
          exact hm _ _ _ _ (fun v hh hk => hK _ _ hk) hx
        · rename_i hl
          rw [if_neg hl]
          exact hm _ _ _ _ hK hx
      · exact hm _ _ _ _ hK hx
    · simp only [Sums.addSp, if_neg e] at hg
      exact h.mono g sp' hg
def NS3 : Sums := NS2.addSp 25 (litSpec (rowSpecL 0 cOp qCheck))
theorem pNS3 : OkS P NS3 := pNS2.addLit rfl
end Go.AM
open Go Go.AM Go.Proofs
namespace Go.AM
open Dist
set_option maxRecDepth 1000000
set_option maxHeartbeats 0
def tabL : List (List UInt8 × List OpI) := [(kn0, cl0), (kn1, cl1), (kn2, cl2), (kn3, cl3), (kn4, cl4), (kn5, cl5), (kn6, cl6), (kn7, cl7), (kn8, cl8), (kn9, cl9), (kn10, cl10), (kn11, cl11), (kn12, cl12), (kn13, cl13), (kn14, cl14), (kn15, cl15), (kn16, cl16), (kn17, cl17), (kn18, cl18), (kn19, cl19), (kn20, cl20), (kn21, cl21), (kn22, cl22), (kn23, cl23), (kn24, cl24), (kn25, cl25), (kn26, cl26)]
theorem tab_names : tabL.map (·.1) = namesL := rfl
theorem look0 : lookK kn0 knownL = some km0 := by kernel_rfl
theorem grp0 : grpR kn0 = sortO cl0 := by
  unfold grpR
  rw [look0]
  exact closeR_of cl0_eq km0_ok
theorem look1 : lookK kn1 knownL = some km1 := by kernel_rfl
theorem grp1 : grpR kn1 = sortO cl1 := by
  unfold grpR
  rw [look1]
  exact closeR_of cl1_eq km1_ok
theorem look2 : lookK kn2 knownL = some km2 := by kernel_rfl
theorem grp2 : grpR kn2 = sortO cl2 := by
  unfold grpR
  rw [look2]
  exact closeR_of cl2_eq km2_ok
theorem look3 : lookK kn3 knownL = some km3 := by kernel_rfl
theorem grp3 : grpR kn3 = sortO cl3 := by
  unfold grpR
  rw [look3]
  exact closeR_of cl3_eq km3_ok
theorem look4 : lookK kn4 knownL = some km4 := by kernel_rfl
theorem grp4 : grpR kn4 = sortO cl4 := by
  unfold grpR
  rw [look4]
  exact closeR_of cl4_eq km4_ok
theorem look5 : lookK kn5 knownL = some km5 := by kernel_rfl
theorem grp5 : grpR kn5 = sortO cl5 := by
  unfold grpR
  rw [look5]
  exact closeR_of cl5_eq km5_ok
theorem look6 : lookK kn6 knownL = some km6 := by kernel_rfl
theorem grp6 : grpR kn6 = sortO cl6 := by
  unfold grpR
  rw [look6]
  exact closeR_of cl6_eq km6_ok
theorem look7 : lookK kn7 knownL = some km7 := by kernel_rfl
theorem grp7 : grpR kn7 = sortO cl7 := by
  unfold grpR
  rw [look7]
  exact closeR_of cl7_eq km7_ok
theorem look8 : lookK kn8 knownL = some km8 := by kernel_rfl
theorem grp8 : grpR kn8 = sortO cl8 := by
  unfold grpR
  rw [look8]
  exact closeR_of cl8_eq km8_ok
theorem look9 : lookK kn9 knownL = some km9 := by kernel_rfl
theorem grp9 : grpR kn9 = sortO cl9 := by
  unfold grpR
  rw [look9]
  exact closeR_of cl9_eq km9_ok
theorem look10 : lookK kn10 knownL = some km10 := by kernel_rfl
theorem grp10 : grpR kn10 = sortO cl10 := by
  unfold grpR
  rw [look10]
  exact closeR_of cl10_eq km10_ok
theorem look11 : lookK kn11 knownL = some km11 := by kernel_rfl
theorem grp11 : grpR kn11 = sortO cl11 := by
  unfold grpR
  rw [look11]
  exact closeR_of cl11_eq km11_ok
theorem look12 : lookK kn12 knownL = some km12 := by kernel_rfl
theorem grp12 : grpR kn12 = sortO cl12 := by
  unfold grpR
  rw [look12]
  exact closeR_of cl12_eq km12_ok
theorem look13 : lookK kn13 knownL = some km13 := by kernel_rfl
theorem grp13 : grpR kn13 = sortO cl13 := by
  unfold grpR
  rw [look13]
  exact closeR_of cl13_eq km13_ok
theorem look14 : lookK kn14 knownL = some km14 := by kernel_rfl
theorem grp14 : grpR kn14 = sortO cl14 := by
  unfold grpR
  rw [look14]
  exact closeR_of cl14_eq km14_ok
theorem look15 : lookK kn15 knownL = some km15 := by kernel_rfl
theorem grp15 : grpR kn15 = sortO cl15 := by
  unfold grpR
  rw [look15]
  exact closeR_of cl15_eq km15_ok
theorem look16 : lookK kn16 knownL = some km16 := by kernel_rfl
theorem grp16 : grpR kn16 = sortO cl16 := by
  unfold grpR
  rw [look16]
  exact closeR_of cl16_eq km16_ok
theorem look17 : lookK kn17 knownL = some km17 := by kernel_rfl
theorem grp17 : grpR kn17 = sortO cl17 := by
  unfold grpR
  rw [look17]
  exact closeR_of cl17_eq km17_ok
theorem look18 : lookK kn18 knownL = some km18 := by kernel_rfl
theorem grp18 : grpR kn18 = sortO cl18 := by
  unfold grpR
  rw [look18]
  exact closeR_of cl18_eq km18_ok
theorem look19 : lookK kn19 knownL = some km19 := by kernel_rfl
theorem grp19 : grpR kn19 = sortO cl19 := by
  unfold grpR
  rw [look19]
  exact closeR_of cl19_eq km19_ok
theorem look20 : lookK kn20 knownL = some km20 := by kernel_rfl
theorem grp20 : grpR kn20 = sortO cl20 := by
  unfold grpR
  rw [look20]
  exact closeR_of cl20_eq km20_ok
theorem look21 : lookK kn21 knownL = some km21 := by kernel_rfl
theorem grp21 : grpR kn21 = sortO cl21 := by
  unfold grpR
  rw [look21]
  exact closeR_of cl21_eq km21_ok
theorem look22 : lookK kn22 knownL = some km22 := by kernel_rfl
theorem grp22 : grpR kn22 = sortO cl22 := by
  unfold grpR
  rw [look22]
  exact closeR_of cl22_eq km22_ok
theorem look23 : lookK kn23 knownL = some km23 := by kernel_rfl
theorem grp23 : grpR kn23 = sortO cl23 := by
  unfold grpR
  rw [look23]
  exact closeR_of cl23_eq km23_ok
theorem look24 : lookK kn24 knownL = some km24 := by kernel_rfl
theorem grp24 : grpR kn24 = sortO cl24 := by
  unfold grpR
  rw [look24]
  exact closeR_of cl24_eq km24_ok
theorem look25 : lookK kn25 knownL = some km25 := by kernel_rfl
theorem grp25 : grpR kn25 = sortO cl25 := by
  unfold grpR
  rw [look25]
  exact closeR_of cl25_eq km25_ok
theorem look26 : lookK kn26 knownL = some km26 := by kernel_rfl
theorem grp26 : grpR kn26 = sortO cl26 := by
  unfold grpR
  rw [look26]
  exact closeR_of cl26_eq km26_ok
theorem grp_tab : ∀ q ∈ tabL, grpR q.1 = sortO q.2 := by
  intro q hq
  simp only [tabL, List.mem_cons, List.not_mem_nil, or_false] at hq
  rcases hq with rfl | rfl | rfl | rfl | rfl | rfl | rfl | rfl | rfl | rfl | rfl | rfl | rfl | rfl | rfl | rfl | rfl | rfl | rfl | rfl | rfl | rfl | rfl | rfl | rfl | rfl | rfl
  · exact grp0
  · exact grp1
  · exact grp2
  · exact grp3
  · exact grp4
  · exact grp5
  · exact grp6
  · exact grp7
  · exact grp8
  · exact grp9
  · exact grp10
  · exact grp11
  · exact grp12
  · exact grp13
  · exact grp14
  · exact grp15
  · exact grp16
  · exact grp17
  · exact grp18
  · exact grp19
  · exact grp20
  · exact grp21
  · exact grp22
  · exact grp23
  · exact grp24
  · exact grp25
  · exact grp26
def firstB (c : List OpI) : List (List UInt8 × List OpI) → Option (List UInt8)
  | [] => none
  | q :: l => if c.isPerm q.2 = true then some q.1 else firstB c l
theorem sortO_eq {l m : List OpI} : sortO l = sortO m ↔ l.isPerm m = true := by
  rw [List.isPerm_iff]
  constructor
  · intro h
    have := (sortO_ok l).2.symm
    rw [h] at this
    exact this.trans (sortO_ok m).2
  · intro h
    exact sorted_one (sortO_ok l).1 (sortO_ok m).1 ((sortO_ok l).2.trans (h.trans (sortO_ok m).2.symm))
theorem nameF_first (c : List OpI) : ∀ l : List (List UInt8 × List OpI), (∀ q ∈ l, grpR q.1 = sortO q.2) → nameF (sortO c) (l.map (·.1)) = firstB c l
  | [], _ => rfl
  | q :: l, h => by
    have h1 := h q (List.mem_cons_self ..)
    have ih := nameF_first c l (fun r hr => h r (List.mem_cons_of_mem _ hr))
    show (if sortO c = grpR q.1 then some q.1 else nameF (sortO c) (l.map (·.1))) = _
    unfold firstB
    rw [ih, h1]
    by_cases e : sortO c = sortO q.2
    · rw [if_pos e, if_pos (sortO_eq.1 e)]
    · rw [if_neg e, if_neg (fun h => e (sortO_eq.2 h))]
theorem nameF_tab (c : List OpI) : nameF (sortO c) namesL = firstB c tabL := nameF_first c tabL grp_tab
theorem first19 : firstB cl19 tabL = some kn19 := by kernel_rfl
theorem p41_sort : p41L = sortO cl19 := sorted_one p41_sorted (sortO_ok cl19).1 ((List.isPerm_iff.1 p41_perm).trans (sortO_ok cl19).2.symm)
theorem p41_check : checkP p41L = 0 := by kernel_rfl
theorem p41_E : nameE p41L = 0 := by
  unfold nameE
  rw [if_neg (by rw [p41_check]; simp), p41_sort, nameF_tab, first19]
theorem p41_N : nameR p41L = [80, 52, 49] := by
  unfold nameR
  rw [if_neg (by rw [p41_check]; simp), p41_sort, nameF_tab, first19]
  rfl
end Go.AM
open Go Go.AM Go.Proofs
namespace Go.AM
open Dist
set_option maxRecDepth 100000
def qAwake : PSpec
  | [] => .ok (.v (.one (.cb true)))
  | _ => .fail
def NS4 : Sums := NS3.add 7 qAwake
end Go.AM
open Go Go.AM Go.Proofs
namespace Go.AM
open Dist
set_option maxRecDepth 100000
set_option maxHeartbeats 0
theorem nfawake : call P NS3 noAnn 100000 Tryz.f7 [] [] (fun v h => v.valOf = some (.bool true) ∧ h = []) = (True ∧ True ∧ True ∧ True ∧ True ∧ True ∧ True ∧ True ∧ True ∧ True ∧ True ∧ True ∧
    (decide (nameE p41L = (0 : Int)) = true → (decide (nameR p41L = [(80 : UInt8), (52 : UInt8), (49 : UInt8)]) = true → some (Value.bool true) = some (Value.bool true) ∧ ([] : Heap) = []) ∧ (decide (nameR p41L = [(80 : UInt8), (52 : UInt8), (49 : UInt8)]) = false → some (Value.bool false) = some (Value.bool true) ∧ ([] : Heap) = [])) ∧
    (decide (nameE p41L = (0 : Int)) = false → some (Value.bool false) = some (Value.bool true) ∧ ([] : Heap) = [])) := by kernel_rfl
theorem callAwake : CallR P NS3 noAnn 100000 Tryz.f7 [] [] (fun v h => v.valOf = some (.bool true) ∧ h = []) := by
  refine ⟨?_⟩
  rw [nfawake]
  refine ⟨trivial, trivial, trivial, trivial, trivial, trivial, trivial, trivial, trivial, trivial, trivial, trivial, fun _ => ⟨fun _ => ⟨rfl, rfl⟩, fun h => ?_⟩, fun h => ?_⟩
  · exact absurd p41_N (of_decide_eq_false h)
  · exact absurd p41_E (of_decide_eq_false h)
theorem hAwake : Holds P NS3 7 qAwake := by
  refine ⟨_, Tryz.func7, by kernel_rfl, fun args av hg => ?_⟩
  unfold qAwake at hg
  split at hg
  · rw [gives_ok hg]
    exact ⟨rfl, .bool true, 100000, noAnn, rfl, rfl, callAwake.out⟩
  · exact (gives_fail hg).elim
theorem pNS4 : OkS P NS4 := pNS3.add1 fine pNS3 hAwake
end Go.AM
namespace Go.AM
open Go Go.Proofs
structure LawS (S : Sums) (n : Nat) (fn : Func) (args : List AV) (A : Annos := noAnn) : Prop where
  out : call P S A n fn args [] (fun v h => v.valOf = some (.bool true) ∧ h = [])
theorem law_callsD {S : Sums} (ok : OkS P S) {f : Nat} {fn : Func} (hf : P.funcs[f]? = some fn) {args : List AV} {n : Nat} {A : Annos} (hc : LawS S n fn args A) {vals : List Value} (hargs : ArgsR [] args vals) (w : World) (ht : tabAt w) (hA : A.q = 0 := by rfl) :
    Calls P f vals.toArray w fun e w' => e = .returned (.bool true) ∧ Fr w (fun _ => False) w' := by
  have hc := call_sound (P := P) (S := S) (vals := vals) fine ok.pure ok.spec ok.mono hf hc.out (.inl hA) (empty_R w ht) hargs
  refine hc.mono fun e w' hp => ?_
  obtain ⟨v, av, h', pl', rfl, hv, hpe, hR, hval, rfl⟩ := hp
  have hpl : pl' = [] := List.length_eq_zero_iff.1 hR.len
  subst hpl
  rw [(AV.valOf_spec hval).2 v hv]
  exact ⟨rfl, hR.fr⟩
theorem tab_of_laid {l : List (String × DataW Unit)} {W : World} (hl : l.filter (fun x => x.1 == "strings.asciiSpace") = [("strings.asciiSpace", Lib.tabData .u8 Lib.asciiSpaceTab)]) (h : laidMetH P l W) : tabAt W := by
  have h1 := Go.laidMetH.filter (fun x => x.1 == "strings.asciiSpace") h
  rw [hl] at h1
  have h2 := (laidMetH_iff.1 h1).1
  refine tabAt_of fun g hg => ?_
  have h3 : laidMet P [("strings.asciiSpace", Lib.tabData .u8 Lib.asciiSpaceTab)] W := h2
  obtain rfl := Option.some.inj ((show P.globalNamed "strings.asciiSpace" = some 0 by kernel_rfl).symm.trans hg)
  exact Lib.tabIs_of_head hg (show (P.globals[0]?).map (·.type) = some 93 by kernel_rfl) Tryz.underlying93 Tryz.underlying5 (by kernel_rfl) (by kernel_rfl) h3
end Go.AM
open Go Go.AM Go.Proofs
namespace Go.AM
open Dist
set_option maxRecDepth 100000
theorem tab_len : ∀ q ∈ tabL, q.2.length ≤ 192 := by
  intro q hq
  simp only [tabL, List.mem_cons, List.not_mem_nil, or_false] at hq
  rcases hq with rfl | rfl | rfl | rfl | rfl | rfl | rfl | rfl | rfl | rfl | rfl | rfl | rfl | rfl | rfl | rfl | rfl | rfl | rfl | rfl | rfl | rfl | rfl | rfl | rfl | rfl | rfl <;> decide +kernel
theorem look_names : ∀ (l : List (List UInt8 × List OpI)) (s : List UInt8) (m : List OpI), lookK s l = some m → s ∈ l.map (·.1)
  | [], _, _, h => by cases h
  | (n, m') :: l, s, m, h => by
    unfold lookK at h
    split at h
    · rename_i e
      rw [← e]
      exact List.mem_cons_self ..
    · exact List.mem_cons_of_mem _ (look_names l s m h)
theorem grpR_len (s : List UInt8) : (grpR s).length ≤ 192 := by
  cases h : lookK s knownL with
  | none =>
    have : grpR s = [] := by unfold grpR; rw [h]
    rw [this]
    exact Nat.zero_le _
  | some m =>
    have h1 := look_names _ _ _ h
    have h2 : s ∈ tabL.map (·.1) := by rw [tab_names]; exact h1
    obtain ⟨q, hq, rfl⟩ := List.mem_map.1 h2
    rw [grp_tab q hq, (sortO_ok q.2).2.length_eq]
    exact tab_len q hq
theorem nfngroups (s : List UInt8) : call P NS4 noAnn 100000 Tryz.f4 [.v (.one (.str s))] [] (fun v h => v.valOf = some (.bool true) ∧ h = []) =
    (True ∧ True ∧ ∃ (z : List cOp.τ), SameRows cOp z cOp (List.take (grpR s).length (List.drop (0 : Nat) (grpR s))) ∧ ∃ (z_1 : List cOp.τ), SameRows cOp z_1 cOp (List.take (dgrR s).length (List.drop (0 : Nat) (dgrR s))) ∧
      (((0 : Nat) + (grpR s).length).le (grpR s).length ∧ ((0 : Nat) + (dgrR s).length).le (dgrR s).length ∧ z.length.succ.le (4611686018427387904 : Nat)) ∧
      (decide ((z : List OpI) = z_1) = true → some (Value.bool (decide (grpT s = grpT s))) = some (Value.bool true) ∧ ([] : Heap) = []) ∧ (decide ((z : List OpI) = z_1) = false → some (Value.bool false) = some (Value.bool true) ∧ ([] : Heap) = [])) := by kernel_rfl
theorem lawGroups (s : List UInt8) (_ : s.length ≤ 9223372036854775807) : LawS NS4 100000 Tryz.f4 [.v (.one (.str s))] := by
  refine ⟨?_⟩
  rw [nfngroups]
  refine ⟨trivial, trivial, grpR s, ?_, dgrR s, ?_, ⟨by show 0 + _ ≤ _; omega, by show 0 + _ ≤ _; omega, ?_⟩, fun _ => ⟨by simp, rfl⟩, fun h => ?_⟩
  · rw [List.drop_zero, List.take_length]; exact sameR _ _
  · rw [List.drop_zero, List.take_length]; exact sameR _ _
  · have := grpR_len s
    show (grpR s).length + 1 ≤ _
    omega
  · exact absurd (dgrR_eq s).symm (of_decide_eq_false h)
end Go.AM
