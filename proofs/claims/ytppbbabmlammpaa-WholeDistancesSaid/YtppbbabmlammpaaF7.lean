import Derived.Test.YtppbbabmlammpaaF6
open Go Go.AM Go.Proofs
namespace Go.AM
def q4 : PSpec
  | [] => .ok (.v (.one (.cb true)))
  | _ => .fail
theorem nf4  (K : KV) : call P G5 noAnn 100000 Try.f4 [] [] K = (K (AV.v (PV.one (SV.cb (decide (↑((1 : Nat) + (1 : Nat)) = (2 : Int)))))) []) := by kernel_rfl
theorem h4 : Holds P G5 4 q4 := by
  refine holds_ok (fn := Try.f4) (by kernel_rfl) (by kernel_rfl) fun args av hg => ?_
  unfold q4 at hg
  split at hg
  · rw [gives_ok hg]
    refine ⟨rfl, _, rfl, ?_⟩
    rw [nf4]
    exact ⟨rfl, rfl⟩
  · exact (gives_fail hg).elim
/-- an entry of the small matrix -/
def e12 (x : Int) : Int := (IntKind.i64.wrap x).tmod 12
theorem e12_abs (x : Int) : -12 < e12 x ∧ e12 x < 12 := by
  unfold e12
  generalize IntKind.i64.wrap x = y
  have h1 := Int.tmod_lt_of_pos y (show (0 : Int) < 12 by decide)
  have h2 : -12 < y.tmod 12 := by
    have := Int.lt_tmod_of_pos y (show (0 : Int) < 12 by decide)
    omega
  exact ⟨h2, h1⟩
theorem e12_in (x : Int) : beyond (e12 x) 1000 = false := by
  have := e12_abs x
  have hw : IntKind.i64.wrap (0 - 1000) = -1000 := by decide
  simp only [beyond, hw, Bool.or_eq_false_iff, decide_eq_false_iff_not]
  omega
def q5 : PSpec
  | [.v (.agg [.sym .i8 a, .sym .i8 b, .sym .i8 c, .sym .i8 d, .sym .i8 e, .sym .i8 f, .sym .i8 g, .sym .i8 h, .sym .i8 i])] => .ok (.tup [.agg [.sym .i64 (IntKind.i64.wrap (IntKind.i64.wrap (IntKind.i64.wrap ((e12 a) * (e12 a)) + IntKind.i64.wrap ((e12 d) * (e12 d))) + IntKind.i64.wrap ((e12 g) * (e12 g)))), .sym .i64 (IntKind.i64.wrap (IntKind.i64.wrap (IntKind.i64.wrap ((e12 b) * (e12 b)) + IntKind.i64.wrap ((e12 e) * (e12 e))) + IntKind.i64.wrap ((e12 h) * (e12 h)))), .sym .i64 (IntKind.i64.wrap (IntKind.i64.wrap (IntKind.i64.wrap ((e12 c) * (e12 c)) + IntKind.i64.wrap ((e12 f) * (e12 f))) + IntKind.i64.wrap ((e12 i) * (e12 i)))), .sym .i64 (IntKind.i64.wrap (IntKind.i64.wrap (IntKind.i64.wrap ((e12 b) * (e12 c)) + IntKind.i64.wrap ((e12 e) * (e12 f))) + IntKind.i64.wrap ((e12 h) * (e12 i)))), .sym .i64 (IntKind.i64.wrap (IntKind.i64.wrap (IntKind.i64.wrap ((e12 a) * (e12 c)) + IntKind.i64.wrap ((e12 d) * (e12 f))) + IntKind.i64.wrap ((e12 g) * (e12 i)))), .sym .i64 (IntKind.i64.wrap (IntKind.i64.wrap (IntKind.i64.wrap ((e12 a) * (e12 b)) + IntKind.i64.wrap ((e12 d) * (e12 e))) + IntKind.i64.wrap ((e12 g) * (e12 h))))], .one (.sb (!decide (det9 (e12 a) (e12 b) (e12 c) (e12 d) (e12 e) (e12 f) (e12 g) (e12 h) (e12 i) = 0)))])
  | _ => .fail
theorem nf5 (a b c d e f g h i : Int) (K : KV) : call P G5 noAnn 100000 Try.f5 [.v (.agg [.sym .i8 a, .sym .i8 b, .sym .i8 c, .sym .i8 d, .sym .i8 e, .sym .i8 f, .sym .i8 g, .sym .i8 h, .sym .i8 i])] [] K = ((decide ((if over9 ((IntKind.i64.wrap a).tmod (12 : Int)) ((IntKind.i64.wrap b).tmod (12 : Int)) ((IntKind.i64.wrap c).tmod (12 : Int)) ((IntKind.i64.wrap d).tmod (12 : Int)) ((IntKind.i64.wrap e).tmod (12 : Int)) ((IntKind.i64.wrap f).tmod (12 : Int)) ((IntKind.i64.wrap g).tmod (12 : Int)) ((IntKind.i64.wrap h).tmod (12 : Int)) ((IntKind.i64.wrap i).tmod (12 : Int)) = true then (4 : Int) else (0 : Int)) = (0 : Int)) = true → K (AV.tup [PV.agg [SV.sym IntKind.i64 (IntKind.i64.wrap (IntKind.i64.wrap (IntKind.i64.wrap ((IntKind.i64.wrap a).tmod (12 : Int) * (IntKind.i64.wrap a).tmod (12 : Int)) + IntKind.i64.wrap ((IntKind.i64.wrap d).tmod (12 : Int) * (IntKind.i64.wrap d).tmod (12 : Int))) + IntKind.i64.wrap ((IntKind.i64.wrap g).tmod (12 : Int) * (IntKind.i64.wrap g).tmod (12 : Int)))), SV.sym IntKind.i64 (IntKind.i64.wrap (IntKind.i64.wrap (IntKind.i64.wrap ((IntKind.i64.wrap b).tmod (12 : Int) * (IntKind.i64.wrap b).tmod (12 : Int)) + IntKind.i64.wrap ((IntKind.i64.wrap e).tmod (12 : Int) * (IntKind.i64.wrap e).tmod (12 : Int))) + IntKind.i64.wrap ((IntKind.i64.wrap h).tmod (12 : Int) * (IntKind.i64.wrap h).tmod (12 : Int)))), SV.sym IntKind.i64 (IntKind.i64.wrap (IntKind.i64.wrap (IntKind.i64.wrap ((IntKind.i64.wrap c).tmod (12 : Int) * (IntKind.i64.wrap c).tmod (12 : Int)) + IntKind.i64.wrap ((IntKind.i64.wrap f).tmod (12 : Int) * (IntKind.i64.wrap f).tmod (12 : Int))) + IntKind.i64.wrap ((IntKind.i64.wrap i).tmod (12 : Int) * (IntKind.i64.wrap i).tmod (12 : Int)))), SV.sym IntKind.i64 (IntKind.i64.wrap (IntKind.i64.wrap (IntKind.i64.wrap ((IntKind.i64.wrap b).tmod (12 : Int) * (IntKind.i64.wrap c).tmod (12 : Int)) + IntKind.i64.wrap ((IntKind.i64.wrap e).tmod (12 : Int) * (IntKind.i64.wrap f).tmod (12 : Int))) + IntKind.i64.wrap ((IntKind.i64.wrap h).tmod (12 : Int) * (IntKind.i64.wrap i).tmod (12 : Int)))), SV.sym IntKind.i64 (IntKind.i64.wrap (IntKind.i64.wrap (IntKind.i64.wrap ((IntKind.i64.wrap a).tmod (12 : Int) * (IntKind.i64.wrap c).tmod (12 : Int)) + IntKind.i64.wrap ((IntKind.i64.wrap d).tmod (12 : Int) * (IntKind.i64.wrap f).tmod (12 : Int))) + IntKind.i64.wrap ((IntKind.i64.wrap g).tmod (12 : Int) * (IntKind.i64.wrap i).tmod (12 : Int)))), SV.sym IntKind.i64 (IntKind.i64.wrap (IntKind.i64.wrap (IntKind.i64.wrap ((IntKind.i64.wrap a).tmod (12 : Int) * (IntKind.i64.wrap b).tmod (12 : Int)) + IntKind.i64.wrap ((IntKind.i64.wrap d).tmod (12 : Int) * (IntKind.i64.wrap e).tmod (12 : Int))) + IntKind.i64.wrap ((IntKind.i64.wrap g).tmod (12 : Int) * (IntKind.i64.wrap h).tmod (12 : Int))))], PV.one (SV.sb !decide (zb (over9 ((IntKind.i64.wrap a).tmod (12 : Int)) ((IntKind.i64.wrap b).tmod (12 : Int)) ((IntKind.i64.wrap c).tmod (12 : Int)) ((IntKind.i64.wrap d).tmod (12 : Int)) ((IntKind.i64.wrap e).tmod (12 : Int)) ((IntKind.i64.wrap f).tmod (12 : Int)) ((IntKind.i64.wrap g).tmod (12 : Int)) ((IntKind.i64.wrap h).tmod (12 : Int)) ((IntKind.i64.wrap i).tmod (12 : Int))) (det9 ((IntKind.i64.wrap a).tmod (12 : Int)) ((IntKind.i64.wrap b).tmod (12 : Int)) ((IntKind.i64.wrap c).tmod (12 : Int)) ((IntKind.i64.wrap d).tmod (12 : Int)) ((IntKind.i64.wrap e).tmod (12 : Int)) ((IntKind.i64.wrap f).tmod (12 : Int)) ((IntKind.i64.wrap g).tmod (12 : Int)) ((IntKind.i64.wrap h).tmod (12 : Int)) ((IntKind.i64.wrap i).tmod (12 : Int))) = (0 : Int)))]) []) ∧ (decide ((if over9 ((IntKind.i64.wrap a).tmod (12 : Int)) ((IntKind.i64.wrap b).tmod (12 : Int)) ((IntKind.i64.wrap c).tmod (12 : Int)) ((IntKind.i64.wrap d).tmod (12 : Int)) ((IntKind.i64.wrap e).tmod (12 : Int)) ((IntKind.i64.wrap f).tmod (12 : Int)) ((IntKind.i64.wrap g).tmod (12 : Int)) ((IntKind.i64.wrap h).tmod (12 : Int)) ((IntKind.i64.wrap i).tmod (12 : Int)) = true then (4 : Int) else (0 : Int)) = (0 : Int)) = false → K (AV.tup [PV.agg [SV.sym IntKind.i64 (IntKind.i64.wrap (IntKind.i64.wrap (IntKind.i64.wrap ((IntKind.i64.wrap a).tmod (12 : Int) * (IntKind.i64.wrap a).tmod (12 : Int)) + IntKind.i64.wrap ((IntKind.i64.wrap d).tmod (12 : Int) * (IntKind.i64.wrap d).tmod (12 : Int))) + IntKind.i64.wrap ((IntKind.i64.wrap g).tmod (12 : Int) * (IntKind.i64.wrap g).tmod (12 : Int)))), SV.sym IntKind.i64 (IntKind.i64.wrap (IntKind.i64.wrap (IntKind.i64.wrap ((IntKind.i64.wrap b).tmod (12 : Int) * (IntKind.i64.wrap b).tmod (12 : Int)) + IntKind.i64.wrap ((IntKind.i64.wrap e).tmod (12 : Int) * (IntKind.i64.wrap e).tmod (12 : Int))) + IntKind.i64.wrap ((IntKind.i64.wrap h).tmod (12 : Int) * (IntKind.i64.wrap h).tmod (12 : Int)))), SV.sym IntKind.i64 (IntKind.i64.wrap (IntKind.i64.wrap (IntKind.i64.wrap ((IntKind.i64.wrap c).tmod (12 : Int) * (IntKind.i64.wrap c).tmod (12 : Int)) + IntKind.i64.wrap ((IntKind.i64.wrap f).tmod (12 : Int) * (IntKind.i64.wrap f).tmod (12 : Int))) + IntKind.i64.wrap ((IntKind.i64.wrap i).tmod (12 : Int) * (IntKind.i64.wrap i).tmod (12 : Int)))), SV.sym IntKind.i64 (IntKind.i64.wrap (IntKind.i64.wrap (IntKind.i64.wrap ((IntKind.i64.wrap b).tmod (12 : Int) * (IntKind.i64.wrap c).tmod (12 : Int)) + IntKind.i64.wrap ((IntKind.i64.wrap e).tmod (12 : Int) * (IntKind.i64.wrap f).tmod (12 : Int))) + IntKind.i64.wrap ((IntKind.i64.wrap h).tmod (12 : Int) * (IntKind.i64.wrap i).tmod (12 : Int)))), SV.sym IntKind.i64 (IntKind.i64.wrap (IntKind.i64.wrap (IntKind.i64.wrap ((IntKind.i64.wrap a).tmod (12 : Int) * (IntKind.i64.wrap c).tmod (12 : Int)) + IntKind.i64.wrap ((IntKind.i64.wrap d).tmod (12 : Int) * (IntKind.i64.wrap f).tmod (12 : Int))) + IntKind.i64.wrap ((IntKind.i64.wrap g).tmod (12 : Int) * (IntKind.i64.wrap i).tmod (12 : Int)))), SV.sym IntKind.i64 (IntKind.i64.wrap (IntKind.i64.wrap (IntKind.i64.wrap ((IntKind.i64.wrap a).tmod (12 : Int) * (IntKind.i64.wrap b).tmod (12 : Int)) + IntKind.i64.wrap ((IntKind.i64.wrap d).tmod (12 : Int) * (IntKind.i64.wrap e).tmod (12 : Int))) + IntKind.i64.wrap ((IntKind.i64.wrap g).tmod (12 : Int) * (IntKind.i64.wrap h).tmod (12 : Int))))], PV.one (SV.cb false)]) [])) := by kernel_rfl
theorem h5 : Holds P G5 5 q5 := by
  refine holds_ok (fn := Try.f5) (by kernel_rfl) (by kernel_rfl) fun args av hg => ?_
  unfold q5 at hg
  split at hg
  · rename_i a b c d e f g h i
    rw [gives_ok hg]
    refine ⟨rfl, _, rfl, ?_⟩
    rw [nf5]
    have ho : over9 (e12 a) (e12 b) (e12 c) (e12 d) (e12 e) (e12 f) (e12 g) (e12 h) (e12 i) = false := by simp [over9, e12_in]
    unfold e12 at ho
    rw [ho]
    exact ⟨fun _ => ⟨rfl, rfl⟩, fun h => absurd h (by decide)⟩
  · exact (gives_fail hg).elim
def G6 : Sums := (G5.add 4 q4).add 5 q5
end Go.AM
