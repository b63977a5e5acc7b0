import Derived.Test.YtppbbabmlammpaaDoorTE3
import Derived.Test.YtppbbabmlammpaaDoorRD0
set_option linter.unusedVariables false
set_option linter.unusedSimpArgs false
open Go Go.AM Go.Proofs
namespace Go.AM
open Dist
set_option maxRecDepth 100000
theorem u8_wf {n : Int} (h : (Lit.int .u8 n).wf = true) : 0 ≤ n ∧ n ≤ 255 := by
  have h : (decide (IntKind.u8.min ≤ n) && decide (n ≤ IntKind.u8.max)) = true := by simpa [Lit.wf] using h
  simp only [Bool.and_eq_true, decide_eq_true_eq] at h
  exact ⟨h.1, h.2⟩
theorem rd_eq {r : Rd} {a b c d e f g h i x y z : Int} (hr : r = ⟨a, b, c, d, e, f, g, h, i, x, y, z, 0, 0⟩) : (decide (r.a = a) && (decide (r.b = b) && (decide (r.c = c) && true)) && (decide (r.d = d) && (decide (r.e = e) && (decide (r.f = f) && true)) && (decide (r.g = g) && (decide (r.h = h) && (decide (r.i = i) && true)) && true)) && (decide (r.x = x) && (decide (r.y = y) && (decide (r.z = z) && true)) && true)) = true := by subst hr; simp
end Go.AM
