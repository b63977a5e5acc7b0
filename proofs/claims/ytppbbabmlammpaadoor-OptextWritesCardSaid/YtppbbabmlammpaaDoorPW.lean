import Derived.Test.YtppbbabmlammpaaDoorPI2
import Derived.Test.YtppbbabmlammpaaDoorTC5
import Derived.Test.YtppbbabmlammpaaDoorTC6
set_option linter.unusedVariables false
set_option linter.unusedSimpArgs false
open Go Go.AM Go.Proofs
namespace Go.AM
def qRowR : PSpec
  | [.v (.agg [.sym .i64 a, .sym .i64 b, .sym .i64 c]), .v (.one (.sym .i64 t))] => .iff (((-1000 ≤ a ∧ a ≤ 1000) ∧ (-1000 ≤ b ∧ b ≤ 1000) ∧ -1000 ≤ c ∧ c ≤ 1000) ∧ 0 ≤ t ∧ t < 24) (.v (.one (.str (rowW a b c t))))
  | _ => .fail
def annRw : Annos := ⟨0, fun _ _ _ => none, fun id env _ => if id = 14 then (match getD env 8 AV.any, getD env 9 AV.any with
  | .v (.agg [.sym _ a, .sym _ b, .sym _ c]), .v (.one (.con _ j)) => forceE (keepT [1, 8, 9] 0 env) fun env => [⟨{ s : List UInt8 // s = rowP a b c (j.toNat + 1) }, fun s => (set env 5 (.v (.one (.str s.1))), []), fun _ => 0⟩]
  | _, _ => []) else []⟩
end Go.AM
open Go Go.AM Go.Proofs
namespace Go.AM
open Dist
set_option maxRecDepth 100000
theorem nfdrw (a b c t : Int) (K : KV) : call P (V2 stdOn) annRw 10000 Tryd.f59 [.v (.agg [.sym .i64 a, .sym .i64 b, .sym .i64 c]), .v (.one (.sym .i64 t))] [] K = (((decide (a = (0 : Int)) = true → ∃ (z : { s : List UInt8 // s = rowP a b c (((0 : Int)).toNat + (1 : Nat)) }), (t = t ∧ z.val = [] ∧ (a = a ∧ b = b ∧ c = c ∧ True) ∧ True) ∧ True) ∧ (decide (a = (0 : Int)) = false → (decide (a < (0 : Int)) = true → (↑(([] : List UInt8).length + [(45 : UInt8)].length) : Int) ≤ IntKind.i64.max ∧ (decide ((1 : Int) < IntKind.i64.wrap ((0 : Int) - a)) = true → ((0 : Int) ≤ IntKind.i64.wrap ((0 : Int) - a) ∧ IntKind.i64.wrap ((0 : Int) - a) < (10000 : Int)) ∧ (↑([UInt8.ofNat (nat_lit 44 + (1 : Nat))].length + (Lib.itoa (IntKind.i64.wrap ((0 : Int) - a))).length) : Int) ≤ IntKind.i64.max ∧ (↑(([UInt8.ofNat (nat_lit 44 + (1 : Nat))] ++ Lib.itoa (IntKind.i64.wrap ((0 : Int) - a))).length + (takeN ((IntKind.i64.wrap ((0 : Int) + (1 : Int))).toNat - ((0 : Int)).toNat) (dropN ((0 : Int)).toNat [(120 : UInt8), (121 : UInt8), (122 : UInt8)])).length) : Int) ≤ IntKind.i64.max ∧ ∃ (z : { s : List UInt8 // s = rowP a b c (((0 : Int)).toNat + (1 : Nat)) }), (t = t ∧ z.val = [UInt8.ofNat (nat_lit 44 + (1 : Nat))] ++ Lib.itoa (IntKind.i64.wrap ((0 : Int) - a)) ++ takeN ((IntKind.i64.wrap ((0 : Int) + (1 : Int))).toNat - ((0 : Int)).toNat) (dropN ((0 : Int)).toNat [(120 : UInt8), (121 : UInt8), (122 : UInt8)]) ∧ (a = a ∧ b = b ∧ c = c ∧ True) ∧ True) ∧ True) ∧ (decide ((1 : Int) < IntKind.i64.wrap ((0 : Int) - a)) = false → (↑([UInt8.ofNat (nat_lit 44 + (1 : Nat))].length + (takeN ((IntKind.i64.wrap ((0 : Int) + (1 : Int))).toNat - ((0 : Int)).toNat) (dropN ((0 : Int)).toNat [(120 : UInt8), (121 : UInt8), (122 : UInt8)])).length) : Int) ≤ IntKind.i64.max ∧ ∃ (z : { s : List UInt8 // s = rowP a b c (((0 : Int)).toNat + (1 : Nat)) }), (t = t ∧ z.val = [UInt8.ofNat (nat_lit 44 + (1 : Nat)), UInt8.ofNat (nat_lit 119 + (1 : Nat))] ∧ (a = a ∧ b = b ∧ c = c ∧ True) ∧ True) ∧ True)) ∧ (decide (a < (0 : Int)) = false → (decide ((1 : Int) < a) = true → ((0 : Int) ≤ a ∧ a < (10000 : Int)) ∧ (↑(([] : List UInt8).length + (Lib.itoa a).length) : Int) ≤ IntKind.i64.max ∧ (↑((([] : List UInt8) ++ Lib.itoa a).length + (takeN ((IntKind.i64.wrap ((0 : Int) + (1 : Int))).toNat - ((0 : Int)).toNat) (dropN ((0 : Int)).toNat [(120 : UInt8), (121 : UInt8), (122 : UInt8)])).length) : Int) ≤ IntKind.i64.max ∧ ∃ (z : { s : List UInt8 // s = rowP a b c (((0 : Int)).toNat + (1 : Nat)) }), (t = t ∧ z.val = [] ++ Lib.itoa a ++ takeN ((IntKind.i64.wrap ((0 : Int) + (1 : Int))).toNat - ((0 : Int)).toNat) (dropN ((0 : Int)).toNat [(120 : UInt8), (121 : UInt8), (122 : UInt8)]) ∧ (a = a ∧ b = b ∧ c = c ∧ True) ∧ True) ∧ True) ∧ (decide ((1 : Int) < a) = false → (↑(([] : List UInt8).length + (takeN ((IntKind.i64.wrap ((0 : Int) + (1 : Int))).toNat - ((0 : Int)).toNat) (dropN ((0 : Int)).toNat [(120 : UInt8), (121 : UInt8), (122 : UInt8)])).length) : Int) ≤ IntKind.i64.max ∧ ∃ (z : { s : List UInt8 // s = rowP a b c (((0 : Int)).toNat + (1 : Nat)) }), (t = t ∧ z.val = [UInt8.ofNat (nat_lit 119 + (1 : Nat))] ∧ (a = a ∧ b = b ∧ c = c ∧ True) ∧ True) ∧ True)))) ∧ ∀ (x : { s : List UInt8 // s = rowP a b c (((0 : Int)).toNat + (1 : Nat)) }), ((decide (b = (0 : Int)) = true → ∃ (z : { s : List UInt8 // s = rowP a b c (((1 : Int)).toNat + (1 : Nat)) }), (t = t ∧ z.val = x.val ∧ (a = a ∧ b = b ∧ c = c ∧ True) ∧ True) ∧ True) ∧ (decide (b = (0 : Int)) = false → (decide (b < (0 : Int)) = true → (↑(x.val.length + [(45 : UInt8)].length) : Int) ≤ IntKind.i64.max ∧ (decide ((1 : Int) < IntKind.i64.wrap ((0 : Int) - b)) = true → ((0 : Int) ≤ IntKind.i64.wrap ((0 : Int) - b) ∧ IntKind.i64.wrap ((0 : Int) - b) < (10000 : Int)) ∧ (↑((x.val ++ [(45 : UInt8)]).length + (Lib.itoa (IntKind.i64.wrap ((0 : Int) - b))).length) : Int) ≤ IntKind.i64.max ∧ (↑((x.val ++ [(45 : UInt8)] ++ Lib.itoa (IntKind.i64.wrap ((0 : Int) - b))).length + (takeN ((IntKind.i64.wrap ((1 : Int) + (1 : Int))).toNat - ((1 : Int)).toNat) (dropN ((1 : Int)).toNat [(120 : UInt8), (121 : UInt8), (122 : UInt8)])).length) : Int) ≤ IntKind.i64.max ∧ ∃ (z : { s : List UInt8 // s = rowP a b c (((1 : Int)).toNat + (1 : Nat)) }), (t = t ∧ z.val = x.val ++ [(45 : UInt8)] ++ Lib.itoa (IntKind.i64.wrap ((0 : Int) - b)) ++ takeN ((IntKind.i64.wrap ((1 : Int) + (1 : Int))).toNat - ((1 : Int)).toNat) (dropN ((1 : Int)).toNat [(120 : UInt8), (121 : UInt8), (122 : UInt8)]) ∧ (a = a ∧ b = b ∧ c = c ∧ True) ∧ True) ∧ True) ∧ (decide ((1 : Int) < IntKind.i64.wrap ((0 : Int) - b)) = false → (↑((x.val ++ [(45 : UInt8)]).length + (takeN ((IntKind.i64.wrap ((1 : Int) + (1 : Int))).toNat - ((1 : Int)).toNat) (dropN ((1 : Int)).toNat [(120 : UInt8), (121 : UInt8), (122 : UInt8)])).length) : Int) ≤ IntKind.i64.max ∧ ∃ (z : { s : List UInt8 // s = rowP a b c (((1 : Int)).toNat + (1 : Nat)) }), (t = t ∧ z.val = x.val ++ [(45 : UInt8)] ++ takeN ((IntKind.i64.wrap ((1 : Int) + (1 : Int))).toNat - ((1 : Int)).toNat) (dropN ((1 : Int)).toNat [(120 : UInt8), (121 : UInt8), (122 : UInt8)]) ∧ (a = a ∧ b = b ∧ c = c ∧ True) ∧ True) ∧ True)) ∧ (decide (b < (0 : Int)) = false → ((!decide (x.val = [])) = true → (↑(x.val.length + [(43 : UInt8)].length) : Int) ≤ IntKind.i64.max ∧ (decide ((1 : Int) < b) = true → ((0 : Int) ≤ b ∧ b < (10000 : Int)) ∧ (↑((x.val ++ [(43 : UInt8)]).length + (Lib.itoa b).length) : Int) ≤ IntKind.i64.max ∧ (↑((x.val ++ [(43 : UInt8)] ++ Lib.itoa b).length + (takeN ((IntKind.i64.wrap ((1 : Int) + (1 : Int))).toNat - ((1 : Int)).toNat) (dropN ((1 : Int)).toNat [(120 : UInt8), (121 : UInt8), (122 : UInt8)])).length) : Int) ≤ IntKind.i64.max ∧ ∃ (z : { s : List UInt8 // s = rowP a b c (((1 : Int)).toNat + (1 : Nat)) }), (t = t ∧ z.val = x.val ++ [(43 : UInt8)] ++ Lib.itoa b ++ takeN ((IntKind.i64.wrap ((1 : Int) + (1 : Int))).toNat - ((1 : Int)).toNat) (dropN ((1 : Int)).toNat [(120 : UInt8), (121 : UInt8), (122 : UInt8)]) ∧ (a = a ∧ b = b ∧ c = c ∧ True) ∧ True) ∧ True) ∧ (decide ((1 : Int) < b) = false → (↑((x.val ++ [(43 : UInt8)]).length + (takeN ((IntKind.i64.wrap ((1 : Int) + (1 : Int))).toNat - ((1 : Int)).toNat) (dropN ((1 : Int)).toNat [(120 : UInt8), (121 : UInt8), (122 : UInt8)])).length) : Int) ≤ IntKind.i64.max ∧ ∃ (z : { s : List UInt8 // s = rowP a b c (((1 : Int)).toNat + (1 : Nat)) }), (t = t ∧ z.val = x.val ++ [(43 : UInt8)] ++ takeN ((IntKind.i64.wrap ((1 : Int) + (1 : Int))).toNat - ((1 : Int)).toNat) (dropN ((1 : Int)).toNat [(120 : UInt8), (121 : UInt8), (122 : UInt8)]) ∧ (a = a ∧ b = b ∧ c = c ∧ True) ∧ True) ∧ True)) ∧ ((!decide (x.val = [])) = false → (decide ((1 : Int) < b) = true → ((0 : Int) ≤ b ∧ b < (10000 : Int)) ∧ (↑(x.val.length + (Lib.itoa b).length) : Int) ≤ IntKind.i64.max ∧ (↑((x.val ++ Lib.itoa b).length + (takeN ((IntKind.i64.wrap ((1 : Int) + (1 : Int))).toNat - ((1 : Int)).toNat) (dropN ((1 : Int)).toNat [(120 : UInt8), (121 : UInt8), (122 : UInt8)])).length) : Int) ≤ IntKind.i64.max ∧ ∃ (z : { s : List UInt8 // s = rowP a b c (((1 : Int)).toNat + (1 : Nat)) }), (t = t ∧ z.val = x.val ++ Lib.itoa b ++ takeN ((IntKind.i64.wrap ((1 : Int) + (1 : Int))).toNat - ((1 : Int)).toNat) (dropN ((1 : Int)).toNat [(120 : UInt8), (121 : UInt8), (122 : UInt8)]) ∧ (a = a ∧ b = b ∧ c = c ∧ True) ∧ True) ∧ True) ∧ (decide ((1 : Int) < b) = false → (↑(x.val.length + (takeN ((IntKind.i64.wrap ((1 : Int) + (1 : Int))).toNat - ((1 : Int)).toNat) (dropN ((1 : Int)).toNat [(120 : UInt8), (121 : UInt8), (122 : UInt8)])).length) : Int) ≤ IntKind.i64.max ∧ ∃ (z : { s : List UInt8 // s = rowP a b c (((1 : Int)).toNat + (1 : Nat)) }), (t = t ∧ z.val = x.val ++ takeN ((IntKind.i64.wrap ((1 : Int) + (1 : Int))).toNat - ((1 : Int)).toNat) (dropN ((1 : Int)).toNat [(120 : UInt8), (121 : UInt8), (122 : UInt8)]) ∧ (a = a ∧ b = b ∧ c = c ∧ True) ∧ True) ∧ True))))) ∧ ∀ (x : { s : List UInt8 // s = rowP a b c (((1 : Int)).toNat + (1 : Nat)) }), ((decide (c = (0 : Int)) = true → ∃ (z : { s : List UInt8 // s = rowP a b c ((Int.ofNat (nat_lit 1 + (1 : Nat))).toNat + (1 : Nat)) }), (t = t ∧ z.val = x.val ∧ (a = a ∧ b = b ∧ c = c ∧ True) ∧ True) ∧ True) ∧ (decide (c = (0 : Int)) = false → (decide (c < (0 : Int)) = true → (↑(x.val.length + [(45 : UInt8)].length) : Int) ≤ IntKind.i64.max ∧ (decide ((1 : Int) < IntKind.i64.wrap ((0 : Int) - c)) = true → ((0 : Int) ≤ IntKind.i64.wrap ((0 : Int) - c) ∧ IntKind.i64.wrap ((0 : Int) - c) < (10000 : Int)) ∧ (↑((x.val ++ [(45 : UInt8)]).length + (Lib.itoa (IntKind.i64.wrap ((0 : Int) - c))).length) : Int) ≤ IntKind.i64.max ∧ (↑((x.val ++ [(45 : UInt8)] ++ Lib.itoa (IntKind.i64.wrap ((0 : Int) - c))).length + (takeN ((IntKind.i64.wrap (Int.ofNat (nat_lit 1 + (1 : Nat)) + (1 : Int))).toNat - (Int.ofNat (nat_lit 1 + (1 : Nat))).toNat) (dropN (Int.ofNat (nat_lit 1 + (1 : Nat))).toNat [(120 : UInt8), (121 : UInt8), (122 : UInt8)])).length) : Int) ≤ IntKind.i64.max ∧ ∃ (z : { s : List UInt8 // s = rowP a b c ((Int.ofNat (nat_lit 1 + (1 : Nat))).toNat + (1 : Nat)) }), (t = t ∧ z.val = x.val ++ [(45 : UInt8)] ++ Lib.itoa (IntKind.i64.wrap ((0 : Int) - c)) ++ takeN ((IntKind.i64.wrap (Int.ofNat (nat_lit 1 + (1 : Nat)) + (1 : Int))).toNat - (Int.ofNat (nat_lit 1 + (1 : Nat))).toNat) (dropN (Int.ofNat (nat_lit 1 + (1 : Nat))).toNat [(120 : UInt8), (121 : UInt8), (122 : UInt8)]) ∧ (a = a ∧ b = b ∧ c = c ∧ True) ∧ True) ∧ True) ∧ (decide ((1 : Int) < IntKind.i64.wrap ((0 : Int) - c)) = false → (↑((x.val ++ [(45 : UInt8)]).length + (takeN ((IntKind.i64.wrap (Int.ofNat (nat_lit 1 + (1 : Nat)) + (1 : Int))).toNat - (Int.ofNat (nat_lit 1 + (1 : Nat))).toNat) (dropN (Int.ofNat (nat_lit 1 + (1 : Nat))).toNat [(120 : UInt8), (121 : UInt8), (122 : UInt8)])).length) : Int) ≤ IntKind.i64.max ∧ ∃ (z : { s : List UInt8 // s = rowP a b c ((Int.ofNat (nat_lit 1 + (1 : Nat))).toNat + (1 : Nat)) }), (t = t ∧ z.val = x.val ++ [(45 : UInt8)] ++ takeN ((IntKind.i64.wrap (Int.ofNat (nat_lit 1 + (1 : Nat)) + (1 : Int))).toNat - (Int.ofNat (nat_lit 1 + (1 : Nat))).toNat) (dropN (Int.ofNat (nat_lit 1 + (1 : Nat))).toNat [(120 : UInt8), (121 : UInt8), (122 : UInt8)]) ∧ (a = a ∧ b = b ∧ c = c ∧ True) ∧ True) ∧ True)) ∧ (decide (c < (0 : Int)) = false → ((!decide (x.val = [])) = true → (↑(x.val.length + [(43 : UInt8)].length) : Int) ≤ IntKind.i64.max ∧ (decide ((1 : Int) < c) = true → ((0 : Int) ≤ c ∧ c < (10000 : Int)) ∧ (↑((x.val ++ [(43 : UInt8)]).length + (Lib.itoa c).length) : Int) ≤ IntKind.i64.max ∧ (↑((x.val ++ [(43 : UInt8)] ++ Lib.itoa c).length + (takeN ((IntKind.i64.wrap (Int.ofNat (nat_lit 1 + (1 : Nat)) + (1 : Int))).toNat - (Int.ofNat (nat_lit 1 + (1 : Nat))).toNat) (dropN (Int.ofNat (nat_lit 1 + (1 : Nat))).toNat [(120 : UInt8), (121 : UInt8), (122 : UInt8)])).length) : Int) ≤ IntKind.i64.max ∧ ∃ (z : { s : List UInt8 // s = rowP a b c ((Int.ofNat (nat_lit 1 + (1 : Nat))).toNat + (1 : Nat)) }), (t = t ∧ z.val = x.val ++ [(43 : UInt8)] ++ Lib.itoa c ++ takeN ((IntKind.i64.wrap (Int.ofNat (nat_lit 1 + (1 : Nat)) + (1 : Int))).toNat - (Int.ofNat (nat_lit 1 + (1 : Nat))).toNat) (dropN (Int.ofNat (nat_lit 1 + (1 : Nat))).toNat [(120 : UInt8), (121 : UInt8), (122 : UInt8)]) ∧ (a = a ∧ b = b ∧ c = c ∧ True) ∧ True) ∧ True) ∧ (decide ((1 : Int) < c) = false → (↑((x.val ++ [(43 : UInt8)]).length + (takeN ((IntKind.i64.wrap (Int.ofNat (nat_lit 1 + (1 : Nat)) + (1 : Int))).toNat - (Int.ofNat (nat_lit 1 + (1 : Nat))).toNat) (dropN (Int.ofNat (nat_lit 1 + (1 : Nat))).toNat [(120 : UInt8), (121 : UInt8), (122 : UInt8)])).length) : Int) ≤ IntKind.i64.max ∧ ∃ (z : { s : List UInt8 // s = rowP a b c ((Int.ofNat (nat_lit 1 + (1 : Nat))).toNat + (1 : Nat)) }), (t = t ∧ z.val = x.val ++ [(43 : UInt8)] ++ takeN ((IntKind.i64.wrap (Int.ofNat (nat_lit 1 + (1 : Nat)) + (1 : Int))).toNat - (Int.ofNat (nat_lit 1 + (1 : Nat))).toNat) (dropN (Int.ofNat (nat_lit 1 + (1 : Nat))).toNat [(120 : UInt8), (121 : UInt8), (122 : UInt8)]) ∧ (a = a ∧ b = b ∧ c = c ∧ True) ∧ True) ∧ True)) ∧ ((!decide (x.val = [])) = false → (decide ((1 : Int) < c) = true → ((0 : Int) ≤ c ∧ c < (10000 : Int)) ∧ (↑(x.val.length + (Lib.itoa c).length) : Int) ≤ IntKind.i64.max ∧ (↑((x.val ++ Lib.itoa c).length + (takeN ((IntKind.i64.wrap (Int.ofNat (nat_lit 1 + (1 : Nat)) + (1 : Int))).toNat - (Int.ofNat (nat_lit 1 + (1 : Nat))).toNat) (dropN (Int.ofNat (nat_lit 1 + (1 : Nat))).toNat [(120 : UInt8), (121 : UInt8), (122 : UInt8)])).length) : Int) ≤ IntKind.i64.max ∧ ∃ (z : { s : List UInt8 // s = rowP a b c ((Int.ofNat (nat_lit 1 + (1 : Nat))).toNat + (1 : Nat)) }), (t = t ∧ z.val = x.val ++ Lib.itoa c ++ takeN ((IntKind.i64.wrap (Int.ofNat (nat_lit 1 + (1 : Nat)) + (1 : Int))).toNat - (Int.ofNat (nat_lit 1 + (1 : Nat))).toNat) (dropN (Int.ofNat (nat_lit 1 + (1 : Nat))).toNat [(120 : UInt8), (121 : UInt8), (122 : UInt8)]) ∧ (a = a ∧ b = b ∧ c = c ∧ True) ∧ True) ∧ True) ∧ (decide ((1 : Int) < c) = false → (↑(x.val.length + (takeN ((IntKind.i64.wrap (Int.ofNat (nat_lit 1 + (1 : Nat)) + (1 : Int))).toNat - (Int.ofNat (nat_lit 1 + (1 : Nat))).toNat) (dropN (Int.ofNat (nat_lit 1 + (1 : Nat))).toNat [(120 : UInt8), (121 : UInt8), (122 : UInt8)])).length) : Int) ≤ IntKind.i64.max ∧ ∃ (z : { s : List UInt8 // s = rowP a b c ((Int.ofNat (nat_lit 1 + (1 : Nat))).toNat + (1 : Nat)) }), (t = t ∧ z.val = x.val ++ takeN ((IntKind.i64.wrap (Int.ofNat (nat_lit 1 + (1 : Nat)) + (1 : Int))).toNat - (Int.ofNat (nat_lit 1 + (1 : Nat))).toNat) (dropN (Int.ofNat (nat_lit 1 + (1 : Nat))).toNat [(120 : UInt8), (121 : UInt8), (122 : UInt8)]) ∧ (a = a ∧ b = b ∧ c = c ∧ True) ∧ True) ∧ True))))) ∧ ∀ (x : { s : List UInt8 // s = rowP a b c ((Int.ofNat (nat_lit 1 + (1 : Nat))).toNat + (1 : Nat)) }), ((!decide (t = (0 : Int))) = true → (↑([(43 : UInt8)].length + (frT (mdR t)).length) : Int) ≤ IntKind.i64.max ∧ (↑(x.val.length + ([(43 : UInt8)] ++ frT (mdR t)).length) : Int) ≤ IntKind.i64.max ∧ K (AV.v (PV.one (SV.str (x.val ++ ([(43 : UInt8)] ++ frT (mdR t)))))) []) ∧ ((!decide (t = (0 : Int))) = false → K (AV.v (PV.one (SV.str x.val))) [])) := by kernel_rfl
section
variable {s t : List UInt8} {v : Int} {l : UInt8}
theorem wZ (hv : v = 0) (hs : t = s) : t = ent s v l := by rw [ent, if_pos hv, hs]
theorem wN (r : -1000 ≤ v ∧ v ≤ 1000) (hv : v < 0) (h1 : 1 < IntKind.i64.wrap (0 - v)) (hs : t = s) : t ++ [45] ++ Lib.itoa (IntKind.i64.wrap (0 - v)) ++ [l] = ent s v l := by
  rw [wneg r] at h1 ⊢
  rw [ent, if_neg (by omega), if_pos hv, if_neg (by omega), hs]
theorem wN1 (r : -1000 ≤ v ∧ v ≤ 1000) (hv : v < 0) (h1 : ¬ 1 < IntKind.i64.wrap (0 - v)) (hs : t = s) : t ++ [45] ++ [l] = ent s v l := by
  rw [wneg r] at h1
  rw [ent, if_neg (by omega), if_pos hv, if_pos (by omega), hs]
  simp
theorem wE (h0 : ¬ v = 0) (hv : ¬ v < 0) (h1 : 1 < v) (hs : t = s) (he : t = []) : t ++ Lib.itoa v ++ [l] = ent s v l := by
  rw [ent, if_neg h0, if_neg hv, if_pos (hs.symm.trans he), if_neg (by omega), he]
  rfl
theorem wE1 (h0 : ¬ v = 0) (hv : ¬ v < 0) (h1 : ¬ 1 < v) (hs : t = s) (he : t = []) : t ++ [l] = ent s v l := by
  rw [ent, if_neg h0, if_neg hv, if_pos (hs.symm.trans he), if_pos (by omega), he]
  rfl
theorem wU (h0 : ¬ v = 0) (hv : ¬ v < 0) (h1 : 1 < v) (hs : t = s) (he : ¬ t = []) : t ++ [43] ++ Lib.itoa v ++ [l] = ent s v l := by
  rw [ent, if_neg h0, if_neg hv, if_neg (fun h => he (hs.trans h)), if_neg (by omega), hs]
theorem wU1 (h0 : ¬ v = 0) (hv : ¬ v < 0) (h1 : ¬ 1 < v) (hs : t = s) (he : ¬ t = []) : t ++ [43] ++ [l] = ent s v l := by
  rw [ent, if_neg h0, if_neg hv, if_neg (fun h => he (hs.trans h)), if_pos (by omega), hs]
  simp
end
theorem hRowR : Holds P (V2 stdOn) 59 qRowR := by
  refine holdsA (fn := Tryd.f59) annRw 10000 rfl (by kernel_rfl) (by kernel_rfl) fun args av hg => ?_
  unfold qRowR at hg
  split at hg
  · rename_i a b c t
    obtain ⟨⟨⟨ra, rb, rc⟩, rt⟩, rfl⟩ := givesIff hg
    refine ⟨rfl, .string ⟨(rowW a b c t).toArray⟩, rfl, ?_⟩
    rw [nfdrw]
    have la := itoaN ra
    have lb := itoaN rb
    have lc := itoaN rc
    have ka := itoaL ra
    have kb := itoaL rb
    have kc := itoaL rc
    have na := wneg ra
    have nb := wneg rb
    have nc := wneg rc
    have k1 := rowL ra rb rc 1
    have k2 := rowL ra rb rc 2
    have k3 := rowL ra rb rc 3
    have lt := frTL t
    have mk : ∀ {Q : List UInt8} {E : List UInt8}, E = Q → ∃ z : { s : List UInt8 // s = Q }, (t = t ∧ z.val = E ∧ (a = a ∧ b = b ∧ c = c ∧ True) ∧ True) ∧ True := fun {Q E} h => ⟨⟨E, h⟩, ⟨rfl, rfl, ⟨rfl, rfl, rfl, trivial⟩, trivial⟩, trivial⟩
    have e0 : takeN ((IntKind.i64.wrap ((0 : Int) + (1 : Int))).toNat - ((0 : Int)).toNat) (dropN ((0 : Int)).toNat [(120 : UInt8), (121 : UInt8), (122 : UInt8)]) = [120] := by decide
    have e1 : takeN ((IntKind.i64.wrap ((1 : Int) + (1 : Int))).toNat - ((1 : Int)).toNat) (dropN ((1 : Int)).toNat [(120 : UInt8), (121 : UInt8), (122 : UInt8)]) = [121] := by decide
    have e2 : takeN ((IntKind.i64.wrap (Int.ofNat (nat_lit 1 + (1 : Nat)) + (1 : Int))).toNat - (Int.ofNat (nat_lit 1 + (1 : Nat))).toNat) (dropN (Int.ofNat (nat_lit 1 + (1 : Nat))).toNat [(120 : UInt8), (121 : UInt8), (122 : UInt8)]) = [122] := by decide
    rw [e0, e1, e2]
    refine ⟨?_, fun x1 => ⟨?_, fun x2 => ⟨?_, fun x3 => ?_⟩⟩⟩
    · repeat' (first | with_reducible apply And.intro | intro _)
      all_goals simp only [decide_eq_true_eq, decide_eq_false_iff_not, Bool.not_eq_true', Bool.not_eq_false'] at *
      all_goals first
        | (with_reducible refine mxI ?_; (try simp only [List.length_append, List.length_cons, List.length_nil]); omega)
        | omega
        | exact mk (wZ (s := []) (by assumption) rfl)
        | exact mk (wN (s := []) (t := []) ra (by assumption) (by assumption) rfl)
        | exact mk (wN1 (s := []) (t := []) ra (by assumption) (by assumption) rfl)
        | exact mk (wE (s := []) (t := []) (by assumption) (by assumption) (by assumption) rfl rfl)
        | exact mk (wE1 (s := []) (t := []) (by assumption) (by assumption) (by assumption) rfl rfl)
    · have hx := x1.property
      have hl : x1.val.length ≤ 69 := by rw [hx]; exact k1
      generalize x1.val = x at *
      repeat' (first | with_reducible apply And.intro | intro _)
      all_goals simp only [decide_eq_true_eq, decide_eq_false_iff_not, Bool.not_eq_true', Bool.not_eq_false'] at *
      all_goals first
        | (with_reducible refine mxI ?_; (try simp only [List.length_append, List.length_cons, List.length_nil]); omega)
        | omega
        | exact mk (wZ (s := rowP a b c 1) (by assumption) hx)
        | exact mk (wN (s := rowP a b c 1) (t := x) rb (by assumption) (by assumption) hx)
        | exact mk (wN1 (s := rowP a b c 1) (t := x) rb (by assumption) (by assumption) hx)
        | exact mk (wE (s := rowP a b c 1) (t := x) (v := b) (l := 121) (by assumption) (by assumption) (by assumption) hx (by assumption))
        | exact mk (wE1 (s := rowP a b c 1) (t := x) (v := b) (l := 121) (by assumption) (by assumption) (by assumption) hx (by assumption))
        | exact mk (wU (s := rowP a b c 1) (t := x) (v := b) (l := 121) (by assumption) (by assumption) (by assumption) hx (by assumption))
        | exact mk (wU1 (s := rowP a b c 1) (t := x) (v := b) (l := 121) (by assumption) (by assumption) (by assumption) hx (by assumption))
    · have hx := x2.property
      have hl : x2.val.length ≤ 69 := by rw [hx]; exact k2
      generalize x2.val = x at *
      repeat' (first | with_reducible apply And.intro | intro _)
      all_goals simp only [decide_eq_true_eq, decide_eq_false_iff_not, Bool.not_eq_true', Bool.not_eq_false'] at *
      all_goals first
        | (with_reducible refine mxI ?_; (try simp only [List.length_append, List.length_cons, List.length_nil]); omega)
        | omega
        | exact mk (wZ (s := rowP a b c 2) (by assumption) hx)
        | exact mk (wN (s := rowP a b c 2) (t := x) rc (by assumption) (by assumption) hx)
        | exact mk (wN1 (s := rowP a b c 2) (t := x) rc (by assumption) (by assumption) hx)
        | exact mk (wE (s := rowP a b c 2) (t := x) (v := c) (l := 122) (by assumption) (by assumption) (by assumption) hx (by assumption))
        | exact mk (wE1 (s := rowP a b c 2) (t := x) (v := c) (l := 122) (by assumption) (by assumption) (by assumption) hx (by assumption))
        | exact mk (wU (s := rowP a b c 2) (t := x) (v := c) (l := 122) (by assumption) (by assumption) (by assumption) hx (by assumption))
        | exact mk (wU1 (s := rowP a b c 2) (t := x) (v := c) (l := 122) (by assumption) (by assumption) (by assumption) hx (by assumption))
    · have hx := x3.property
      have hl : x3.val.length ≤ 69 := by rw [hx]; exact k3
      refine ⟨fun h => ?_, fun h => ?_⟩
      · have h : ¬ t = 0 := by simpa using h
        refine ⟨mxI (by simp only [List.length_cons, List.length_nil]; omega), mxI (by simp only [List.length_append, List.length_cons, List.length_nil]; omega), leafT ?_⟩
        rw [rowW, if_neg h, hx]
        rfl
      · have h : t = 0 := by simpa using h
        refine leafT ?_
        rw [rowW, if_pos h, hx]
        rfl
  · exact (gives_fail hg).elim
end Go.AM
open Go Go.AM Go.Proofs
namespace Go.AM
open Dist
set_option maxRecDepth 100000
def W0s (o : OnB) : Sums := ((V2 o).add 59 qRowR).add 42 qFormD
theorem pW0s (o : OnB) : OkS P (W0s o) := ((pV2 o).add1 fine (pV2 stdOn) hRowR).add1 fine (pV2 stdOn) hFormD
theorem nfdwr (a b c d e f g h i x y z : Int) (K : KV) : call P (W0s stdOn) noAnn 10000 Tryd.f12 [.v (.agg [.sym .i64 a, .sym .i64 b, .sym .i64 c, .sym .i64 d, .sym .i64 e, .sym .i64 f, .sym .i64 g, .sym .i64 h, .sym .i64 i, .sym .i64 x, .sym .i64 y, .sym .i64 z])] [] K = ((decide (x < (0 : Int)) = true → K (AV.tup [PV.one (SV.cstr []), PV.one (SV.con IntKind.i64 (Int.ofNat (nat_lit 2 + (1 : Nat))))]) []) ∧ (decide (x < (0 : Int)) = false → (decide ((23 : Int) < x) = true → K (AV.tup [PV.one (SV.cstr []), PV.one (SV.con IntKind.i64 (Int.ofNat (nat_lit 2 + (1 : Nat))))]) []) ∧ (decide ((23 : Int) < x) = false → (decide (y < (0 : Int)) = true → K (AV.tup [PV.one (SV.cstr []), PV.one (SV.con IntKind.i64 (Int.ofNat (nat_lit 2 + (1 : Nat))))]) []) ∧ (decide (y < (0 : Int)) = false → (decide ((23 : Int) < y) = true → K (AV.tup [PV.one (SV.cstr []), PV.one (SV.con IntKind.i64 (Int.ofNat (nat_lit 2 + (1 : Nat))))]) []) ∧ (decide ((23 : Int) < y) = false → (decide (z < (0 : Int)) = true → K (AV.tup [PV.one (SV.cstr []), PV.one (SV.con IntKind.i64 (Int.ofNat (nat_lit 2 + (1 : Nat))))]) []) ∧ (decide (z < (0 : Int)) = false → (decide ((23 : Int) < z) = true → K (AV.tup [PV.one (SV.cstr []), PV.one (SV.con IntKind.i64 (Int.ofNat (nat_lit 2 + (1 : Nat))))]) []) ∧ (decide ((23 : Int) < z) = false → ((!decide (matE a b c d e f g h i = (0 : Int))) = true → K (AV.tup [PV.one (SV.cstr []), PV.one (SV.sym IntKind.i64 (matE a b c d e f g h i))]) []) ∧ ((!decide (matE a b c d e f g h i = (0 : Int))) = false → ((((-1000 : Int) ≤ a ∧ a ≤ (1000 : Int)) ∧ ((-1000 : Int) ≤ b ∧ b ≤ (1000 : Int)) ∧ (-1000 : Int) ≤ c ∧ c ≤ (1000 : Int)) ∧ (0 : Int) ≤ x ∧ x < (24 : Int)) ∧ (↑((rowW a b c x).length + [(44 : UInt8)].length) : Int) ≤ IntKind.i64.max ∧ ((((-1000 : Int) ≤ d ∧ d ≤ (1000 : Int)) ∧ ((-1000 : Int) ≤ e ∧ e ≤ (1000 : Int)) ∧ (-1000 : Int) ≤ f ∧ f ≤ (1000 : Int)) ∧ (0 : Int) ≤ y ∧ y < (24 : Int)) ∧ (↑((rowW a b c x ++ [(44 : UInt8)]).length + (rowW d e f y).length) : Int) ≤ IntKind.i64.max ∧ (↑((rowW a b c x ++ [(44 : UInt8)] ++ rowW d e f y).length + [(44 : UInt8)].length) : Int) ≤ IntKind.i64.max ∧ ((((-1000 : Int) ≤ g ∧ g ≤ (1000 : Int)) ∧ ((-1000 : Int) ≤ h ∧ h ≤ (1000 : Int)) ∧ (-1000 : Int) ≤ i ∧ i ≤ (1000 : Int)) ∧ (0 : Int) ≤ z ∧ z < (24 : Int)) ∧ (↑((rowW a b c x ++ [(44 : UInt8)] ++ rowW d e f y ++ [(44 : UInt8)]).length + (rowW g h i z).length) : Int) ≤ IntKind.i64.max ∧ K (AV.tup [PV.one (SV.str (rowW a b c x ++ [(44 : UInt8)] ++ rowW d e f y ++ [(44 : UInt8)] ++ rowW g h i z)), PV.one (SV.con IntKind.i64 (0 : Int))]) [])))))))) := by kernel_rfl
theorem opE_mat {a b c d e f g h i x y z : Int} (hb : tbad x y z = false) : opE a b c d e f g h i x y z = matE a b c d e f g h i := by
  unfold opE
  rw [if_neg (by rw [hb]; decide)]
  rcases matE_cases a b c d e f g h i with ⟨h1, _⟩ | ⟨h1, _⟩ | ⟨h1, _⟩ <;> rw [h1] <;> rfl
theorem opE_bad {a b c d e f g h i x y z : Int} (hb : tbad x y z = true) : opE a b c d e f g h i x y z = 3 := by
  unfold opE
  rw [if_pos hb]
theorem tbad_out {x y z : Int} (h : ¬ ((0 ≤ x ∧ x < 24) ∧ (0 ≤ y ∧ y < 24) ∧ (0 ≤ z ∧ z < 24))) : tbad x y z = true := by
  cases hb : tbad x y z with
  | true => rfl
  | false => exact absurd (tbad_false.1 hb) h
theorem rowWLd {a b c t : Int} (ra : -1000 ≤ a ∧ a ≤ 1000) (rb : -1000 ≤ b ∧ b ≤ 1000) (rc : -1000 ≤ c ∧ c ≤ 1000) : (rowW a b c t).length ≤ 200 := by
  have h3 := rowL ra rb rc 3
  have lt := frTL t
  unfold rowW
  split
  · omega
  · simp only [List.length_append, List.length_cons, List.length_nil]
    omega
theorem hDocWrite : Holds P (W0s stdOn) 12 qWrite := by
  refine holdsA (fn := Tryd.f12) noAnn 10000 rfl (by kernel_rfl) (by kernel_rfl) fun args av hg => ?_
  unfold qWrite at hg
  split at hg
  · rename_i a b c d e f g h i x y z
    rw [gives_ok hg]
    refine ⟨rfl, wrV (wrT a b c d e f g h i x y z), rfl, ?_⟩
    rw [nfdwr]
    have bad : ¬ ((0 ≤ x ∧ x < 24) ∧ (0 ≤ y ∧ y < 24) ∧ (0 ≤ z ∧ z < 24)) → (AV.tup [PV.one (SV.cstr []), PV.one (SV.con IntKind.i64 (Int.ofNat (nat_lit 2 + (1 : Nat))))]).valOf = some (wrV (wrT a b c d e f g h i x y z)) ∧ ([] : Heap) = [] := fun hn => by
      have e : wrT a b c d e f g h i x y z = ([], 3) := by
        rw [wrT, opE_bad (tbad_out hn)]
        rfl
      rw [e]
      exact ⟨rfl, rfl⟩
    refine ⟨fun h1 => bad ?_, fun h1 => ⟨fun h2 => bad ?_, fun h2 => ⟨fun h3 => bad ?_, fun h3 => ⟨fun h4 => bad ?_, fun h4 => ⟨fun h5 => bad ?_, fun h5 => ⟨fun hz6 => bad ?_, fun hz6 => ?_⟩⟩⟩⟩⟩⟩
    · have := of_decide_eq_true h1; omega
    · have := of_decide_eq_true h2; omega
    · have := of_decide_eq_true h3; omega
    · have := of_decide_eq_true h4; omega
    · have := of_decide_eq_true h5; omega
    · have := of_decide_eq_true hz6; omega
    · have h1 := of_decide_eq_false h1
      have h2 := of_decide_eq_false h2
      have h3 := of_decide_eq_false h3
      have h4 := of_decide_eq_false h4
      have h5 := of_decide_eq_false h5
      have hz6 := of_decide_eq_false hz6
      have ht : tbad x y z = false := tbad_false.2 (by omega)
      have ho : opE a b c d e f g h i x y z = matE a b c d e f g h i := opE_mat ht
      refine ⟨fun hm => ?_, fun hm => ?_⟩
      · have hm : ¬ matE a b c d e f g h i = 0 := by simpa using hm
        have e : wrT a b c d e f g h i x y z = ([], matE a b c d e f g h i) := by rw [wrT, ho, if_neg hm]
        rw [e]
        exact ⟨rfl, rfl⟩
      · have hm : matE a b c d e f g h i = 0 := by simpa using hm
        have hov : over9 a b c d e f g h i = false := by
          rcases matE_cases a b c d e f g h i with ⟨q, _⟩ | ⟨q, _⟩ | ⟨_, q, _⟩
          · rw [hm] at q; cases q
          · rw [hm] at q; cases q
          · exact q
        obtain ⟨ra, rb, rc, rd, re, rf, rg, rh, ri⟩ := over9_false.1 hov
        have l1 := rowWLd (t := x) ra rb rc
        have l2 := rowWLd (t := y) rd re rf
        have l3 := rowWLd (t := z) rg rh ri
        have e : wrT a b c d e f g h i x y z = (rowW a b c x ++ [44] ++ rowW d e f y ++ [44] ++ rowW g h i z, 0) := by
          rw [wrT, ho, if_pos hm, mapT]
          simp
        rw [e]
        refine ⟨⟨⟨ra, rb, rc⟩, by omega, by omega⟩, maxI (by simp only [List.length_append, List.length_cons, List.length_nil]; omega), ⟨⟨rd, re, rf⟩, by omega, by omega⟩, maxI (by simp only [List.length_append, List.length_cons, List.length_nil]; omega), maxI (by simp only [List.length_append, List.length_cons, List.length_nil]; omega), ⟨⟨rg, rh, ri⟩, by omega, by omega⟩, maxI (by simp only [List.length_append, List.length_cons, List.length_nil]; omega), ⟨rfl, rfl⟩⟩
  · exact (gives_fail hg).elim
end Go.AM
