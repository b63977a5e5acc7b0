import Derived.Test.YtcinopdklobldaaGreatDoorCJ
import Derived.Test.YtcinopdklobldaaGreatDoorPW
open Go Go.AM Go.Proofs
namespace Go.AM
open Dist
/-- the loop 'for b > 0 { a, b = b, a % b }' in slots x, y -/
def annE (x y : Nat) (keep : List Nat) (env : Env) (h : Heap) : Option Ann :=
  match getD env x AV.any, getD env y AV.any with
  | .v (.one (.sym .i64 a)), .v (.one (.sym .i64 b)) => forceE (keepE keep 0 env) fun env => some ⟨{ p : Int × Int // euc p.1 p.2 = euc a b }, fun p => (set (set env x (.v (.one (.sym .i64 p.1.1)))) y (.v (.one (.sym .i64 p.1.2))), h), fun p => p.1.2.toNat⟩
  | _, _ => none
def AE : Annos := ⟨0, fun id env h => if id = 1 then annE 0 1 [4] env h else none, fun _ => none⟩
def AE2 : Annos := ⟨0, fun id env h => if id = 2 then annE 5 6 [0, 1, 4] env h else none, fun _ => none⟩
theorem loop_euc {a b : Int} {Q1 Q2 : Prop} {R : Int → Prop} (h1 : Q1) (h2 : Q2) (k : R (euc a b)) :
    (∃ (z : { p : Int × Int // euc p.fst p.snd = euc a b }), (z.val.fst = a ∧ z.val.snd = b ∧ True) ∧ Q1) ∧ ∀ (x : { p : Int × Int // euc p.fst p.snd = euc a b }), (decide ((0 : Int) < x.val.snd) = true → (x.val.snd = (0 : Int) → False) ∧ ∃ (z : { p : Int × Int // euc p.fst p.snd = euc a b }), ((fun (p : { p : Int × Int // euc p.fst p.snd = euc a b }) => p.val.snd.toNat) z).succ.le ((fun (p : { p : Int × Int // euc p.fst p.snd = euc a b }) => p.val.snd.toNat) x) ∧ (z.val.fst = x.val.snd ∧ z.val.snd = x.val.fst.tmod x.val.snd ∧ True) ∧ Q2) ∧ (decide ((0 : Int) < x.val.snd) = false → R x.val.fst) := by
  refine ⟨⟨⟨(a, b), rfl⟩, ⟨rfl, rfl, trivial⟩, h1⟩, fun x => ⟨fun h => ?_, fun h => ?_⟩⟩
  · obtain ⟨⟨p, q⟩, hg⟩ := x
    have hq : 0 < q := by simpa using h
    simp only at hg ⊢
    exact ⟨fun e => by omega, ⟨(q, p.tmod q), by rw [← hg]; exact euc_step hq⟩, euc_less hq, ⟨rfl, rfl, trivial⟩, h2⟩
  · obtain ⟨⟨p, q⟩, hg⟩ := x
    have hq : ¬ 0 < q := by simpa using h
    simp only at hg ⊢
    rw [euc_done hq] at hg
    rw [hg]
    exact k
theorem nfcommon (a b : Int) (K : KV) : call P D3 AE 3000 Tryz.f42 [I a, I b] [] K = ((∃ (z : { p : Int × Int // Dist.euc p.fst p.snd = Dist.euc a b }), (z.val.fst = a ∧ z.val.snd = b ∧ True) ∧ True) ∧ ∀ (x : { p : Int × Int // Dist.euc p.fst p.snd = Dist.euc a b }), (decide ((0 : Int) < x.val.snd) = true → (x.val.snd = (0 : Int) → False) ∧ ∃ (z : { p : Int × Int // Dist.euc p.fst p.snd = Dist.euc a b }), ((fun (p : { p : Int × Int // Dist.euc p.fst p.snd = Dist.euc a b }) => p.val.snd.toNat) z).succ.le ((fun (p : { p : Int × Int // Dist.euc p.fst p.snd = Dist.euc a b }) => p.val.snd.toNat) x) ∧ (z.val.fst = x.val.snd ∧ z.val.snd = x.val.fst.tmod x.val.snd ∧ True) ∧ True) ∧ (decide ((0 : Int) < x.val.snd) = false → K (AV.v (PV.one (SV.sym IntKind.i64 x.val.fst))) [])) := by kernel_rfl
def qCommon : PSpec
  | [.v (.one (.sym .i64 a)), .v (.one (.sym .i64 b))] => .ok (I (euc a b))
  | _ => .fail
theorem hcCommon : Holds P D3 42 qCommon := by
  refine holds_okA (fn := Tryz.f42) AE 3000 rfl (by kernel_rfl) (by kernel_rfl) fun args av hg => ?_
  unfold qCommon at hg
  split at hg
  · rename_i a b
    rw [gives_ok hg]
    refine ⟨rfl, _, rfl, ?_⟩
    rw [nfcommon]
    exact loop_euc (R := fun g => (AV.v (PV.one (SV.sym .i64 g))).valOf = some (Value.int .i64 (euc a b)) ∧ ([] : Heap) = []) trivial trivial ⟨rfl, rfl⟩
  · exact (gives_fail hg).elim
def D8 : Sums := D6.add 42 qCommon
end Go.AM
