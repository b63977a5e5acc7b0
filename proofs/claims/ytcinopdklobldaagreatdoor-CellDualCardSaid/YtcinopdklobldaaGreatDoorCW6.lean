import Derived.Test.YtcinopdklobldaaGreatDoorCU4
open Go Go.AM Go.Proofs
namespace Go.AM
open Dist
set_option maxRecDepth 100000
theorem nfdoccmp (a b c d : Int) (K : KV) : call P D2o noAnn 3000 Tryz.f24 [.v (.agg [.sym .i64 a, .sym .i64 b]), .v (.agg [.sym .i64 c, .sym .i64 d])] [] K = ((((-9223372036854775808 : Int) ≤ a ∧ a ≤ (9223372036854775807 : Int)) ∧ (-9223372036854775808 : Int) ≤ b ∧ b ≤ (9223372036854775807 : Int)) ∧ ((!Dist.frm a b) = true → K (AV.tup [PV.one (SV.con IntKind.i64 (0 : Int)), PV.one (SV.con IntKind.i64 (3 : Int))]) []) ∧ ((!Dist.frm a b) = false → (((-9223372036854775808 : Int) ≤ c ∧ c ≤ (9223372036854775807 : Int)) ∧ (-9223372036854775808 : Int) ≤ d ∧ d ≤ (9223372036854775807 : Int)) ∧ ((!Dist.frm c d) = true → K (AV.tup [PV.one (SV.con IntKind.i64 (0 : Int)), PV.one (SV.con IntKind.i64 (3 : Int))]) []) ∧ ((!Dist.frm c d) = false → ((((-9223372036854775808 : Int) ≤ a ∧ a ≤ (9223372036854775807 : Int)) ∧ ((-9223372036854775808 : Int) ≤ b ∧ b ≤ (9223372036854775807 : Int)) ∧ ((-9223372036854775808 : Int) ≤ c ∧ c ≤ (9223372036854775807 : Int)) ∧ (-9223372036854775808 : Int) ≤ d ∧ d ≤ (9223372036854775807 : Int)) ∧ (0 : Int) < b ∧ (0 : Int) < d) ∧ K (AV.tup [PV.one (SV.sym IntKind.i64 (Dist.sgn (a * d - c * b))), PV.one (SV.con IntKind.i64 (0 : Int))]) []))) := by kernel_rfl
def qRat : PSpec
  | [.v (.agg [.sym .i64 a, .sym .i64 b]), .v (.agg [.sym .i64 c, .sym .i64 d])] => .iff ((InR a ∧ InR b) ∧ InR c ∧ InR d) (.tup [.one (.sym .i64 (ratC a b c d)), .one (.sym .i64 (ratE a b c d))])
  | _ => .fail
theorem leafRt {a b c d r e : Int} {k1 k2 : SV} (h1 : k1.val [] = some (.int .i64 r)) (h2 : k2.val [] = some (.int .i64 e)) (hr : r = ratC a b c d) (he : e = ratE a b c d) :
    (AV.tup [PV.one k1, PV.one k2]).valOf = some (.tuple #[.int .i64 (ratC a b c d), .int .i64 (ratE a b c d)]) ∧ ([] : Heap) = [] := by
  subst hr; subst he
  refine ⟨?_, rfl⟩
  simp only [AV.valOf, pvalsOf, PV.valOf, h1, h2]
theorem rat_bad {a b c d : Int} (h : ¬ (frm a b = true ∧ frm c d = true)) : (0 : Int) = ratC a b c d ∧ (3 : Int) = ratE a b c d := by
  unfold ratC ratE; rw [if_neg h, if_neg h]; exact ⟨rfl, rfl⟩
theorem rat_good {a b c d : Int} (h1 : frm a b = true) (h2 : frm c d = true) : sgn (a * d - c * b) = ratC a b c d ∧ (0 : Int) = ratE a b c d := by
  unfold ratC ratE; rw [if_pos ⟨h1, h2⟩, if_pos ⟨h1, h2⟩]; exact ⟨rfl, rfl⟩
theorem not_true {b : Bool} (h : (!b) = true) : ¬ b = true := by simpa using h
theorem not_false {b : Bool} (h : (!b) = false) : b = true := by simpa using h
theorem hcDocCmp : Holds P D2o 24 qRat := by
  refine holds_okA (fn := Tryz.f24) noAnn 3000 rfl (by kernel_rfl) (by kernel_rfl) fun args av hg => ?_
  unfold qRat at hg
  split at hg
  · rename_i a b c d
    obtain ⟨⟨⟨ha, hb⟩, hc, hd⟩, rfl⟩ := gives_iff hg
    refine ⟨rfl, _, rfl, ?_⟩
    rw [nfdoccmp]
    refine ⟨⟨ha, hb⟩, fun h => ?_, fun h1 => ⟨⟨hc, hd⟩, fun h => ?_, fun h2 => ?_⟩⟩
    · have := rat_bad (a := a) (b := b) (c := c) (d := d) (fun k => not_true h k.1)
      exact leafRt rfl rfl this.1 this.2
    · have := rat_bad (a := a) (b := b) (c := c) (d := d) (fun k => not_true h k.2)
      exact leafRt rfl rfl this.1 this.2
    · have h1 := not_false h1
      have h2 := not_false h2
      have := rat_good h1 h2
      exact ⟨⟨⟨ha, hb, hc, hd⟩, (frm_spec h1).1, (frm_spec h2).1⟩, leafRt rfl rfl this.1 this.2⟩
  · exact (gives_fail hg).elim
end Go.AM
