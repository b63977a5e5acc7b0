import Derived.Test.YtppbbabmlammpaaDoorTQ4
set_option linter.unusedVariables false
set_option linter.unusedSimpArgs false
open Go Go.AM Go.Proofs
namespace Go.AM
open Dist
set_option maxRecDepth 100000
theorem nffro (a b c d e f g h i x y z n : Int) (K : KV) : call P (YE stdOn) (annFro (wrT a b c d e f g h i x y z).1) 10000 Tryd.f8 [.v (.agg [.sym .i64 a, .sym .i64 b, .sym .i64 c, .sym .i64 d, .sym .i64 e, .sym .i64 f, .sym .i64 g, .sym .i64 h, .sym .i64 i, .sym .i64 x, .sym .i64 y, .sym .i64 z]), .v (.one (.sym .u8 n))] [] K = (((!decide ((wrT a b c d e f g h i x y z).snd = (0 : Int))) = true → K (AV.v (PV.one (SV.cb true))) []) ∧ ((!decide ((wrT a b c d e f g h i x y z).snd = (0 : Int))) = false → (∃ (z_1 : { k : Nat // k ≤ (wrT a b c d e f g h i x y z).fst.length }), (n = n ∧ (wrT a b c d e f g h i x y z).fst = (wrT a b c d e f g h i x y z).fst ∧ (↑(cmF (wrT a b c d e f g h i x y z).fst z_1.val) : Int) = (0 : Int) ∧ (↑(wrT a b c d e f g h i x y z).fst.length : Int) = (↑(wrT a b c d e f g h i x y z).fst.length : Int) ∧ (↑z_1.val : Int) = (0 : Int) ∧ True) ∧ True) ∧ ∀ (x_1 : { k : Nat // k ≤ (wrT a b c d e f g h i x y z).fst.length }), (decide ((↑x_1.val : Int) < (↑(wrT a b c d e f g h i x y z).fst.length : Int)) = true → ((0 : Int) ≤ (↑x_1.val : Int) ∧ (↑x_1.val : Int) < (↑(wrT a b c d e f g h i x y z).fst.length : Int)) ∧ (decide ((↑((wrT a b c d e f g h i x y z).fst.getD (↑x_1.val : Int).toNat (0 : UInt8)).toNat : Int) = (44 : Int)) = true → ((0 : Int) ≤ (0 : Int) ∧ (0 : Int) ≤ (↑x_1.val : Int) ∧ (↑x_1.val : Int) ≤ (↑(wrT a b c d e f g h i x y z).fst.length : Int)) ∧ (decide (IntKind.i64.wrap ((↑(cmF (wrT a b c d e f g h i x y z).fst x_1.val) : Int) + (1 : Int)) < (2 : Int)) = true → ((!decide ((readF (List.take ((↑x_1.val : Int) - (0 : Int)).toNat (List.drop (Int.toNat (0 : Int)) (wrT a b c d e f g h i x y z).fst))).err = (12 : Int))) = true → K (AV.v (PV.one (SV.cb false))) []) ∧ ((!decide ((readF (List.take ((↑x_1.val : Int) - (0 : Int)).toNat (List.drop (Int.toNat (0 : Int)) (wrT a b c d e f g h i x y z).fst))).err = (12 : Int))) = false → ((!decide ((readF (List.take ((↑x_1.val : Int) - (0 : Int)).toNat (List.drop (Int.toNat (0 : Int)) (wrT a b c d e f g h i x y z).fst))).at' = (↑x_1.val : Int))) = true → ((wrT a b c d e f g h i x y z).fst.length.le (10000 : Nat) ∧ (0 : Int) ≤ (↑x_1.val : Int) ∧ (↑x_1.val : Int) ≤ (↑(wrT a b c d e f g h i x y z).fst.length : Int)) ∧ ((!insF (wrT a b c d e f g h i x y z).fst (↑x_1.val : Int) (readF (List.take ((↑x_1.val : Int) - (0 : Int)).toNat (List.drop (Int.toNat (0 : Int)) (wrT a b c d e f g h i x y z).fst))).at') = true → K (AV.v (PV.one (SV.cb false))) []) ∧ ((!insF (wrT a b c d e f g h i x y z).fst (↑x_1.val : Int) (readF (List.take ((↑x_1.val : Int) - (0 : Int)).toNat (List.drop (Int.toNat (0 : Int)) (wrT a b c d e f g h i x y z).fst))).at') = false → ((!(decide ((readF (List.take ((↑x_1.val : Int) - (0 : Int)).toNat (List.drop (Int.toNat (0 : Int)) (wrT a b c d e f g h i x y z).fst))).a = (0 : Int)) && (decide ((readF (List.take ((↑x_1.val : Int) - (0 : Int)).toNat (List.drop (Int.toNat (0 : Int)) (wrT a b c d e f g h i x y z).fst))).b = (0 : Int)) && (decide ((readF (List.take ((↑x_1.val : Int) - (0 : Int)).toNat (List.drop (Int.toNat (0 : Int)) (wrT a b c d e f g h i x y z).fst))).c = (0 : Int)) && true)) && (decide ((readF (List.take ((↑x_1.val : Int) - (0 : Int)).toNat (List.drop (Int.toNat (0 : Int)) (wrT a b c d e f g h i x y z).fst))).d = (0 : Int)) && (decide ((readF (List.take ((↑x_1.val : Int) - (0 : Int)).toNat (List.drop (Int.toNat (0 : Int)) (wrT a b c d e f g h i x y z).fst))).e = (0 : Int)) && (decide ((readF (List.take ((↑x_1.val : Int) - (0 : Int)).toNat (List.drop (Int.toNat (0 : Int)) (wrT a b c d e f g h i x y z).fst))).f = (0 : Int)) && true)) && (decide ((readF (List.take ((↑x_1.val : Int) - (0 : Int)).toNat (List.drop (Int.toNat (0 : Int)) (wrT a b c d e f g h i x y z).fst))).g = (0 : Int)) && (decide ((readF (List.take ((↑x_1.val : Int) - (0 : Int)).toNat (List.drop (Int.toNat (0 : Int)) (wrT a b c d e f g h i x y z).fst))).h = (0 : Int)) && (decide ((readF (List.take ((↑x_1.val : Int) - (0 : Int)).toNat (List.drop (Int.toNat (0 : Int)) (wrT a b c d e f g h i x y z).fst))).i = (0 : Int)) && true)) && true)) && (decide ((readF (List.take ((↑x_1.val : Int) - (0 : Int)).toNat (List.drop (Int.toNat (0 : Int)) (wrT a b c d e f g h i x y z).fst))).x = (0 : Int)) && (decide ((readF (List.take ((↑x_1.val : Int) - (0 : Int)).toNat (List.drop (Int.toNat (0 : Int)) (wrT a b c d e f g h i x y z).fst))).y = (0 : Int)) && (decide ((readF (List.take ((↑x_1.val : Int) - (0 : Int)).toNat (List.drop (Int.toNat (0 : Int)) (wrT a b c d e f g h i x y z).fst))).z = (0 : Int)) && true)) && true))) = true → K (AV.v (PV.one (SV.cb false))) []) ∧ ((!(decide ((readF (List.take ((↑x_1.val : Int) - (0 : Int)).toNat (List.drop (Int.toNat (0 : Int)) (wrT a b c d e f g h i x y z).fst))).a = (0 : Int)) && (decide ((readF (List.take ((↑x_1.val : Int) - (0 : Int)).toNat (List.drop (Int.toNat (0 : Int)) (wrT a b c d e f g h i x y z).fst))).b = (0 : Int)) && (decide ((readF (List.take ((↑x_1.val : Int) - (0 : Int)).toNat (List.drop (Int.toNat (0 : Int)) (wrT a b c d e f g h i x y z).fst))).c = (0 : Int)) && true)) && (decide ((readF (List.take ((↑x_1.val : Int) - (0 : Int)).toNat (List.drop (Int.toNat (0 : Int)) (wrT a b c d e f g h i x y z).fst))).d = (0 : Int)) && (decide ((readF (List.take ((↑x_1.val : Int) - (0 : Int)).toNat (List.drop (Int.toNat (0 : Int)) (wrT a b c d e f g h i x y z).fst))).e = (0 : Int)) && (decide ((readF (List.take ((↑x_1.val : Int) - (0 : Int)).toNat (List.drop (Int.toNat (0 : Int)) (wrT a b c d e f g h i x y z).fst))).f = (0 : Int)) && true)) && (decide ((readF (List.take ((↑x_1.val : Int) - (0 : Int)).toNat (List.drop (Int.toNat (0 : Int)) (wrT a b c d e f g h i x y z).fst))).g = (0 : Int)) && (decide ((readF (List.take ((↑x_1.val : Int) - (0 : Int)).toNat (List.drop (Int.toNat (0 : Int)) (wrT a b c d e f g h i x y z).fst))).h = (0 : Int)) && (decide ((readF (List.take ((↑x_1.val : Int) - (0 : Int)).toNat (List.drop (Int.toNat (0 : Int)) (wrT a b c d e f g h i x y z).fst))).i = (0 : Int)) && true)) && true)) && (decide ((readF (List.take ((↑x_1.val : Int) - (0 : Int)).toNat (List.drop (Int.toNat (0 : Int)) (wrT a b c d e f g h i x y z).fst))).x = (0 : Int)) && (decide ((readF (List.take ((↑x_1.val : Int) - (0 : Int)).toNat (List.drop (Int.toNat (0 : Int)) (wrT a b c d e f g h i x y z).fst))).y = (0 : Int)) && (decide ((readF (List.take ((↑x_1.val : Int) - (0 : Int)).toNat (List.drop (Int.toNat (0 : Int)) (wrT a b c d e f g h i x y z).fst))).z = (0 : Int)) && true)) && true))) = false → ∃ (z_1 : { k : Nat // k ≤ (wrT a b c d e f g h i x y z).fst.length }), ((wrT a b c d e f g h i x y z).fst.length - z_1.val).succ.le ((wrT a b c d e f g h i x y z).fst.length - x_1.val) ∧ (n = n ∧ (wrT a b c d e f g h i x y z).fst = (wrT a b c d e f g h i x y z).fst ∧ (↑(cmF (wrT a b c d e f g h i x y z).fst z_1.val) : Int) = IntKind.i64.wrap ((↑(cmF (wrT a b c d e f g h i x y z).fst x_1.val) : Int) + (1 : Int)) ∧ (↑(wrT a b c d e f g h i x y z).fst.length : Int) = (↑(wrT a b c d e f g h i x y z).fst.length : Int) ∧ (↑z_1.val : Int) = IntKind.i64.wrap ((↑x_1.val : Int) + (1 : Int)) ∧ True) ∧ True))) ∧ ((!decide ((readF (List.take ((↑x_1.val : Int) - (0 : Int)).toNat (List.drop (Int.toNat (0 : Int)) (wrT a b c d e f g h i x y z).fst))).at' = (↑x_1.val : Int))) = false → ((!(decide ((readF (List.take ((↑x_1.val : Int) - (0 : Int)).toNat (List.drop (Int.toNat (0 : Int)) (wrT a b c d e f g h i x y z).fst))).a = (0 : Int)) && (decide ((readF (List.take ((↑x_1.val : Int) - (0 : Int)).toNat (List.drop (Int.toNat (0 : Int)) (wrT a b c d e f g h i x y z).fst))).b = (0 : Int)) && (decide ((readF (List.take ((↑x_1.val : Int) - (0 : Int)).toNat (List.drop (Int.toNat (0 : Int)) (wrT a b c d e f g h i x y z).fst))).c = (0 : Int)) && true)) && (decide ((readF (List.take ((↑x_1.val : Int) - (0 : Int)).toNat (List.drop (Int.toNat (0 : Int)) (wrT a b c d e f g h i x y z).fst))).d = (0 : Int)) && (decide ((readF (List.take ((↑x_1.val : Int) - (0 : Int)).toNat (List.drop (Int.toNat (0 : Int)) (wrT a b c d e f g h i x y z).fst))).e = (0 : Int)) && (decide ((readF (List.take ((↑x_1.val : Int) - (0 : Int)).toNat (List.drop (Int.toNat (0 : Int)) (wrT a b c d e f g h i x y z).fst))).f = (0 : Int)) && true)) && (decide ((readF (List.take ((↑x_1.val : Int) - (0 : Int)).toNat (List.drop (Int.toNat (0 : Int)) (wrT a b c d e f g h i x y z).fst))).g = (0 : Int)) && (decide ((readF (List.take ((↑x_1.val : Int) - (0 : Int)).toNat (List.drop (Int.toNat (0 : Int)) (wrT a b c d e f g h i x y z).fst))).h = (0 : Int)) && (decide ((readF (List.take ((↑x_1.val : Int) - (0 : Int)).toNat (List.drop (Int.toNat (0 : Int)) (wrT a b c d e f g h i x y z).fst))).i = (0 : Int)) && true)) && true)) && (decide ((readF (List.take ((↑x_1.val : Int) - (0 : Int)).toNat (List.drop (Int.toNat (0 : Int)) (wrT a b c d e f g h i x y z).fst))).x = (0 : Int)) && (decide ((readF (List.take ((↑x_1.val : Int) - (0 : Int)).toNat (List.drop (Int.toNat (0 : Int)) (wrT a b c d e f g h i x y z).fst))).y = (0 : Int)) && (decide ((readF (List.take ((↑x_1.val : Int) - (0 : Int)).toNat (List.drop (Int.toNat (0 : Int)) (wrT a b c d e f g h i x y z).fst))).z = (0 : Int)) && true)) && true))) = true → K (AV.v (PV.one (SV.cb false))) []) ∧ ((!(decide ((readF (List.take ((↑x_1.val : Int) - (0 : Int)).toNat (List.drop (Int.toNat (0 : Int)) (wrT a b c d e f g h i x y z).fst))).a = (0 : Int)) && (decide ((readF (List.take ((↑x_1.val : Int) - (0 : Int)).toNat (List.drop (Int.toNat (0 : Int)) (wrT a b c d e f g h i x y z).fst))).b = (0 : Int)) && (decide ((readF (List.take ((↑x_1.val : Int) - (0 : Int)).toNat (List.drop (Int.toNat (0 : Int)) (wrT a b c d e f g h i x y z).fst))).c = (0 : Int)) && true)) && (decide ((readF (List.take ((↑x_1.val : Int) - (0 : Int)).toNat (List.drop (Int.toNat (0 : Int)) (wrT a b c d e f g h i x y z).fst))).d = (0 : Int)) && (decide ((readF (List.take ((↑x_1.val : Int) - (0 : Int)).toNat (List.drop (Int.toNat (0 : Int)) (wrT a b c d e f g h i x y z).fst))).e = (0 : Int)) && (decide ((readF (List.take ((↑x_1.val : Int) - (0 : Int)).toNat (List.drop (Int.toNat (0 : Int)) (wrT a b c d e f g h i x y z).fst))).f = (0 : Int)) && true)) && (decide ((readF (List.take ((↑x_1.val : Int) - (0 : Int)).toNat (List.drop (Int.toNat (0 : Int)) (wrT a b c d e f g h i x y z).fst))).g = (0 : Int)) && (decide ((readF (List.take ((↑x_1.val : Int) - (0 : Int)).toNat (List.drop (Int.toNat (0 : Int)) (wrT a b c d e f g h i x y z).fst))).h = (0 : Int)) && (decide ((readF (List.take ((↑x_1.val : Int) - (0 : Int)).toNat (List.drop (Int.toNat (0 : Int)) (wrT a b c d e f g h i x y z).fst))).i = (0 : Int)) && true)) && true)) && (decide ((readF (List.take ((↑x_1.val : Int) - (0 : Int)).toNat (List.drop (Int.toNat (0 : Int)) (wrT a b c d e f g h i x y z).fst))).x = (0 : Int)) && (decide ((readF (List.take ((↑x_1.val : Int) - (0 : Int)).toNat (List.drop (Int.toNat (0 : Int)) (wrT a b c d e f g h i x y z).fst))).y = (0 : Int)) && (decide ((readF (List.take ((↑x_1.val : Int) - (0 : Int)).toNat (List.drop (Int.toNat (0 : Int)) (wrT a b c d e f g h i x y z).fst))).z = (0 : Int)) && true)) && true))) = false → ∃ (z_1 : { k : Nat // k ≤ (wrT a b c d e f g h i x y z).fst.length }), ((wrT a b c d e f g h i x y z).fst.length - z_1.val).succ.le ((wrT a b c d e f g h i x y z).fst.length - x_1.val) ∧ (n = n ∧ (wrT a b c d e f g h i x y z).fst = (wrT a b c d e f g h i x y z).fst ∧ (↑(cmF (wrT a b c d e f g h i x y z).fst z_1.val) : Int) = IntKind.i64.wrap ((↑(cmF (wrT a b c d e f g h i x y z).fst x_1.val) : Int) + (1 : Int)) ∧ (↑(wrT a b c d e f g h i x y z).fst.length : Int) = (↑(wrT a b c d e f g h i x y z).fst.length : Int) ∧ (↑z_1.val : Int) = IntKind.i64.wrap ((↑x_1.val : Int) + (1 : Int)) ∧ True) ∧ True)))) ∧ (decide (IntKind.i64.wrap ((↑(cmF (wrT a b c d e f g h i x y z).fst x_1.val) : Int) + (1 : Int)) < (2 : Int)) = false → ∃ (z_1 : { k : Nat // k ≤ (wrT a b c d e f g h i x y z).fst.length }), ((wrT a b c d e f g h i x y z).fst.length - z_1.val).succ.le ((wrT a b c d e f g h i x y z).fst.length - x_1.val) ∧ (n = n ∧ (wrT a b c d e f g h i x y z).fst = (wrT a b c d e f g h i x y z).fst ∧ (↑(cmF (wrT a b c d e f g h i x y z).fst z_1.val) : Int) = IntKind.i64.wrap ((↑(cmF (wrT a b c d e f g h i x y z).fst x_1.val) : Int) + (1 : Int)) ∧ (↑(wrT a b c d e f g h i x y z).fst.length : Int) = (↑(wrT a b c d e f g h i x y z).fst.length : Int) ∧ (↑z_1.val : Int) = IntKind.i64.wrap ((↑x_1.val : Int) + (1 : Int)) ∧ True) ∧ True)) ∧ (decide ((↑((wrT a b c d e f g h i x y z).fst.getD (↑x_1.val : Int).toNat (0 : UInt8)).toNat : Int) = (44 : Int)) = false → ((0 : Int) ≤ (0 : Int) ∧ (0 : Int) ≤ (↑x_1.val : Int) ∧ (↑x_1.val : Int) ≤ (↑(wrT a b c d e f g h i x y z).fst.length : Int)) ∧ (decide ((↑(cmF (wrT a b c d e f g h i x y z).fst x_1.val) : Int) < (2 : Int)) = true → ((!decide ((readF (List.take ((↑x_1.val : Int) - (0 : Int)).toNat (List.drop (Int.toNat (0 : Int)) (wrT a b c d e f g h i x y z).fst))).err = (12 : Int))) = true → K (AV.v (PV.one (SV.cb false))) []) ∧ ((!decide ((readF (List.take ((↑x_1.val : Int) - (0 : Int)).toNat (List.drop (Int.toNat (0 : Int)) (wrT a b c d e f g h i x y z).fst))).err = (12 : Int))) = false → ((!decide ((readF (List.take ((↑x_1.val : Int) - (0 : Int)).toNat (List.drop (Int.toNat (0 : Int)) (wrT a b c d e f g h i x y z).fst))).at' = (↑x_1.val : Int))) = true → ((wrT a b c d e f g h i x y z).fst.length.le (10000 : Nat) ∧ (0 : Int) ≤ (↑x_1.val : Int) ∧ (↑x_1.val : Int) ≤ (↑(wrT a b c d e f g h i x y z).fst.length : Int)) ∧ ((!insF (wrT a b c d e f g h i x y z).fst (↑x_1.val : Int) (readF (List.take ((↑x_1.val : Int) - (0 : Int)).toNat (List.drop (Int.toNat (0 : Int)) (wrT a b c d e f g h i x y z).fst))).at') = true → K (AV.v (PV.one (SV.cb false))) []) ∧ ((!insF (wrT a b c d e f g h i x y z).fst (↑x_1.val : Int) (readF (List.take ((↑x_1.val : Int) - (0 : Int)).toNat (List.drop (Int.toNat (0 : Int)) (wrT a b c d e f g h i x y z).fst))).at') = false → ((!(decide ((readF (List.take ((↑x_1.val : Int) - (0 : Int)).toNat (List.drop (Int.toNat (0 : Int)) (wrT a b c d e f g h i x y z).fst))).a = (0 : Int)) && (decide ((readF (List.take ((↑x_1.val : Int) - (0 : Int)).toNat (List.drop (Int.toNat (0 : Int)) (wrT a b c d e f g h i x y z).fst))).b = (0 : Int)) && (decide ((readF (List.take ((↑x_1.val : Int) - (0 : Int)).toNat (List.drop (Int.toNat (0 : Int)) (wrT a b c d e f g h i x y z).fst))).c = (0 : Int)) && true)) && (decide ((readF (List.take ((↑x_1.val : Int) - (0 : Int)).toNat (List.drop (Int.toNat (0 : Int)) (wrT a b c d e f g h i x y z).fst))).d = (0 : Int)) && (decide ((readF (List.take ((↑x_1.val : Int) - (0 : Int)).toNat (List.drop (Int.toNat (0 : Int)) (wrT a b c d e f g h i x y z).fst))).e = (0 : Int)) && (decide ((readF (List.take ((↑x_1.val : Int) - (0 : Int)).toNat (List.drop (Int.toNat (0 : Int)) (wrT a b c d e f g h i x y z).fst))).f = (0 : Int)) && true)) && (decide ((readF (List.take ((↑x_1.val : Int) - (0 : Int)).toNat (List.drop (Int.toNat (0 : Int)) (wrT a b c d e f g h i x y z).fst))).g = (0 : Int)) && (decide ((readF (List.take ((↑x_1.val : Int) - (0 : Int)).toNat (List.drop (Int.toNat (0 : Int)) (wrT a b c d e f g h i x y z).fst))).h = (0 : Int)) && (decide ((readF (List.take ((↑x_1.val : Int) - (0 : Int)).toNat (List.drop (Int.toNat (0 : Int)) (wrT a b c d e f g h i x y z).fst))).i = (0 : Int)) && true)) && true)) && (decide ((readF (List.take ((↑x_1.val : Int) - (0 : Int)).toNat (List.drop (Int.toNat (0 : Int)) (wrT a b c d e f g h i x y z).fst))).x = (0 : Int)) && (decide ((readF (List.take ((↑x_1.val : Int) - (0 : Int)).toNat (List.drop (Int.toNat (0 : Int)) (wrT a b c d e f g h i x y z).fst))).y = (0 : Int)) && (decide ((readF (List.take ((↑x_1.val : Int) - (0 : Int)).toNat (List.drop (Int.toNat (0 : Int)) (wrT a b c d e f g h i x y z).fst))).z = (0 : Int)) && true)) && true))) = true → K (AV.v (PV.one (SV.cb false))) []) ∧ ((!(decide ((readF (List.take ((↑x_1.val : Int) - (0 : Int)).toNat (List.drop (Int.toNat (0 : Int)) (wrT a b c d e f g h i x y z).fst))).a = (0 : Int)) && (decide ((readF (List.take ((↑x_1.val : Int) - (0 : Int)).toNat (List.drop (Int.toNat (0 : Int)) (wrT a b c d e f g h i x y z).fst))).b = (0 : Int)) && (decide ((readF (List.take ((↑x_1.val : Int) - (0 : Int)).toNat (List.drop (Int.toNat (0 : Int)) (wrT a b c d e f g h i x y z).fst))).c = (0 : Int)) && true)) && (decide ((readF (List.take ((↑x_1.val : Int) - (0 : Int)).toNat (List.drop (Int.toNat (0 : Int)) (wrT a b c d e f g h i x y z).fst))).d = (0 : Int)) && (decide ((readF (List.take ((↑x_1.val : Int) - (0 : Int)).toNat (List.drop (Int.toNat (0 : Int)) (wrT a b c d e f g h i x y z).fst))).e = (0 : Int)) && (decide ((readF (List.take ((↑x_1.val : Int) - (0 : Int)).toNat (List.drop (Int.toNat (0 : Int)) (wrT a b c d e f g h i x y z).fst))).f = (0 : Int)) && true)) && (decide ((readF (List.take ((↑x_1.val : Int) - (0 : Int)).toNat (List.drop (Int.toNat (0 : Int)) (wrT a b c d e f g h i x y z).fst))).g = (0 : Int)) && (decide ((readF (List.take ((↑x_1.val : Int) - (0 : Int)).toNat (List.drop (Int.toNat (0 : Int)) (wrT a b c d e f g h i x y z).fst))).h = (0 : Int)) && (decide ((readF (List.take ((↑x_1.val : Int) - (0 : Int)).toNat (List.drop (Int.toNat (0 : Int)) (wrT a b c d e f g h i x y z).fst))).i = (0 : Int)) && true)) && true)) && (decide ((readF (List.take ((↑x_1.val : Int) - (0 : Int)).toNat (List.drop (Int.toNat (0 : Int)) (wrT a b c d e f g h i x y z).fst))).x = (0 : Int)) && (decide ((readF (List.take ((↑x_1.val : Int) - (0 : Int)).toNat (List.drop (Int.toNat (0 : Int)) (wrT a b c d e f g h i x y z).fst))).y = (0 : Int)) && (decide ((readF (List.take ((↑x_1.val : Int) - (0 : Int)).toNat (List.drop (Int.toNat (0 : Int)) (wrT a b c d e f g h i x y z).fst))).z = (0 : Int)) && true)) && true))) = false → ∃ (z_1 : { k : Nat // k ≤ (wrT a b c d e f g h i x y z).fst.length }), ((wrT a b c d e f g h i x y z).fst.length - z_1.val).succ.le ((wrT a b c d e f g h i x y z).fst.length - x_1.val) ∧ (n = n ∧ (wrT a b c d e f g h i x y z).fst = (wrT a b c d e f g h i x y z).fst ∧ (↑(cmF (wrT a b c d e f g h i x y z).fst z_1.val) : Int) = (↑(cmF (wrT a b c d e f g h i x y z).fst x_1.val) : Int) ∧ (↑(wrT a b c d e f g h i x y z).fst.length : Int) = (↑(wrT a b c d e f g h i x y z).fst.length : Int) ∧ (↑z_1.val : Int) = IntKind.i64.wrap ((↑x_1.val : Int) + (1 : Int)) ∧ True) ∧ True))) ∧ ((!decide ((readF (List.take ((↑x_1.val : Int) - (0 : Int)).toNat (List.drop (Int.toNat (0 : Int)) (wrT a b c d e f g h i x y z).fst))).at' = (↑x_1.val : Int))) = false → ((!(decide ((readF (List.take ((↑x_1.val : Int) - (0 : Int)).toNat (List.drop (Int.toNat (0 : Int)) (wrT a b c d e f g h i x y z).fst))).a = (0 : Int)) && (decide ((readF (List.take ((↑x_1.val : Int) - (0 : Int)).toNat (List.drop (Int.toNat (0 : Int)) (wrT a b c d e f g h i x y z).fst))).b = (0 : Int)) && (decide ((readF (List.take ((↑x_1.val : Int) - (0 : Int)).toNat (List.drop (Int.toNat (0 : Int)) (wrT a b c d e f g h i x y z).fst))).c = (0 : Int)) && true)) && (decide ((readF (List.take ((↑x_1.val : Int) - (0 : Int)).toNat (List.drop (Int.toNat (0 : Int)) (wrT a b c d e f g h i x y z).fst))).d = (0 : Int)) && (decide ((readF (List.take ((↑x_1.val : Int) - (0 : Int)).toNat (List.drop (Int.toNat (0 : Int)) (wrT a b c d e f g h i x y z).fst))).e = (0 : Int)) && (decide ((readF (List.take ((↑x_1.val : Int) - (0 : Int)).toNat (List.drop (Int.toNat (0 : Int)) (wrT a b c d e f g h i x y z).fst))).f = (0 : Int)) && true)) && (decide ((readF (List.take ((↑x_1.val : Int) - (0 : Int)).toNat (List.drop (Int.toNat (0 : Int)) (wrT a b c d e f g h i x y z).fst))).g = (0 : Int)) && (decide ((readF (List.take ((↑x_1.val : Int) - (0 : Int)).toNat (List.drop (Int.toNat (0 : Int)) (wrT a b c d e f g h i x y z).fst))).h = (0 : Int)) && (decide ((readF (List.take ((↑x_1.val : Int) - (0 : Int)).toNat (List.drop (Int.toNat (0 : Int)) (wrT a b c d e f g h i x y z).fst))).i = (0 : Int)) && true)) && true)) && (decide ((readF (List.take ((↑x_1.val : Int) - (0 : Int)).toNat (List.drop (Int.toNat (0 : Int)) (wrT a b c d e f g h i x y z).fst))).x = (0 : Int)) && (decide ((readF (List.take ((↑x_1.val : Int) - (0 : Int)).toNat (List.drop (Int.toNat (0 : Int)) (wrT a b c d e f g h i x y z).fst))).y = (0 : Int)) && (decide ((readF (List.take ((↑x_1.val : Int) - (0 : Int)).toNat (List.drop (Int.toNat (0 : Int)) (wrT a b c d e f g h i x y z).fst))).z = (0 : Int)) && true)) && true))) = true → K (AV.v (PV.one (SV.cb false))) []) ∧ ((!(decide ((readF (List.take ((↑x_1.val : Int) - (0 : Int)).toNat (List.drop (Int.toNat (0 : Int)) (wrT a b c d e f g h i x y z).fst))).a = (0 : Int)) && (decide ((readF (List.take ((↑x_1.val : Int) - (0 : Int)).toNat (List.drop (Int.toNat (0 : Int)) (wrT a b c d e f g h i x y z).fst))).b = (0 : Int)) && (decide ((readF (List.take ((↑x_1.val : Int) - (0 : Int)).toNat (List.drop (Int.toNat (0 : Int)) (wrT a b c d e f g h i x y z).fst))).c = (0 : Int)) && true)) && (decide ((readF (List.take ((↑x_1.val : Int) - (0 : Int)).toNat (List.drop (Int.toNat (0 : Int)) (wrT a b c d e f g h i x y z).fst))).d = (0 : Int)) && (decide ((readF (List.take ((↑x_1.val : Int) - (0 : Int)).toNat (List.drop (Int.toNat (0 : Int)) (wrT a b c d e f g h i x y z).fst))).e = (0 : Int)) && (decide ((readF (List.take ((↑x_1.val : Int) - (0 : Int)).toNat (List.drop (Int.toNat (0 : Int)) (wrT a b c d e f g h i x y z).fst))).f = (0 : Int)) && true)) && (decide ((readF (List.take ((↑x_1.val : Int) - (0 : Int)).toNat (List.drop (Int.toNat (0 : Int)) (wrT a b c d e f g h i x y z).fst))).g = (0 : Int)) && (decide ((readF (List.take ((↑x_1.val : Int) - (0 : Int)).toNat (List.drop (Int.toNat (0 : Int)) (wrT a b c d e f g h i x y z).fst))).h = (0 : Int)) && (decide ((readF (List.take ((↑x_1.val : Int) - (0 : Int)).toNat (List.drop (Int.toNat (0 : Int)) (wrT a b c d e f g h i x y z).fst))).i = (0 : Int)) && true)) && true)) && (decide ((readF (List.take ((↑x_1.val : Int) - (0 : Int)).toNat (List.drop (Int.toNat (0 : Int)) (wrT a b c d e f g h i x y z).fst))).x = (0 : Int)) && (decide ((readF (List.take ((↑x_1.val : Int) - (0 : Int)).toNat (List.drop (Int.toNat (0 : Int)) (wrT a b c d e f g h i x y z).fst))).y = (0 : Int)) && (decide ((readF (List.take ((↑x_1.val : Int) - (0 : Int)).toNat (List.drop (Int.toNat (0 : Int)) (wrT a b c d e f g h i x y z).fst))).z = (0 : Int)) && true)) && true))) = false → ∃ (z_1 : { k : Nat // k ≤ (wrT a b c d e f g h i x y z).fst.length }), ((wrT a b c d e f g h i x y z).fst.length - z_1.val).succ.le ((wrT a b c d e f g h i x y z).fst.length - x_1.val) ∧ (n = n ∧ (wrT a b c d e f g h i x y z).fst = (wrT a b c d e f g h i x y z).fst ∧ (↑(cmF (wrT a b c d e f g h i x y z).fst z_1.val) : Int) = (↑(cmF (wrT a b c d e f g h i x y z).fst x_1.val) : Int) ∧ (↑(wrT a b c d e f g h i x y z).fst.length : Int) = (↑(wrT a b c d e f g h i x y z).fst.length : Int) ∧ (↑z_1.val : Int) = IntKind.i64.wrap ((↑x_1.val : Int) + (1 : Int)) ∧ True) ∧ True)))) ∧ (decide ((↑(cmF (wrT a b c d e f g h i x y z).fst x_1.val) : Int) < (2 : Int)) = false → ∃ (z_1 : { k : Nat // k ≤ (wrT a b c d e f g h i x y z).fst.length }), ((wrT a b c d e f g h i x y z).fst.length - z_1.val).succ.le ((wrT a b c d e f g h i x y z).fst.length - x_1.val) ∧ (n = n ∧ (wrT a b c d e f g h i x y z).fst = (wrT a b c d e f g h i x y z).fst ∧ (↑(cmF (wrT a b c d e f g h i x y z).fst z_1.val) : Int) = (↑(cmF (wrT a b c d e f g h i x y z).fst x_1.val) : Int) ∧ (↑(wrT a b c d e f g h i x y z).fst.length : Int) = (↑(wrT a b c d e f g h i x y z).fst.length : Int) ∧ (↑z_1.val : Int) = IntKind.i64.wrap ((↑x_1.val : Int) + (1 : Int)) ∧ True) ∧ True))) ∧ (decide ((↑x_1.val : Int) < (↑(wrT a b c d e f g h i x y z).fst.length : Int)) = false → (decide (n = Int.ofNat (nat_lit 31 + (1 : Nat))) = true → K (AV.v (PV.one (SV.cb true))) []) ∧ (decide (n = Int.ofNat (nat_lit 31 + (1 : Nat))) = false → (decide (n = Int.ofNat (nat_lit 119 + (1 : Nat))) = true → K (AV.v (PV.one (SV.cb true))) []) ∧ (decide (n = Int.ofNat (nat_lit 119 + (1 : Nat))) = false → (decide (n = Int.ofNat (nat_lit 120 + (1 : Nat))) = true → K (AV.v (PV.one (SV.cb true))) []) ∧ (decide (n = Int.ofNat (nat_lit 120 + (1 : Nat))) = false → (decide (n = Int.ofNat (nat_lit 121 + (1 : Nat))) = true → K (AV.v (PV.one (SV.cb true))) []) ∧ (decide (n = Int.ofNat (nat_lit 121 + (1 : Nat))) = false → (decide (n = Int.ofNat (nat_lit 42 + (1 : Nat))) = true → K (AV.v (PV.one (SV.cb true))) []) ∧ (decide (n = Int.ofNat (nat_lit 42 + (1 : Nat))) = false → (decide (n = Int.ofNat (nat_lit 44 + (1 : Nat))) = true → K (AV.v (PV.one (SV.cb true))) []) ∧ (decide (n = Int.ofNat (nat_lit 44 + (1 : Nat))) = false → (decide (n = Int.ofNat (nat_lit 43 + (1 : Nat))) = true → K (AV.v (PV.one (SV.cb true))) []) ∧ (decide (n = Int.ofNat (nat_lit 43 + (1 : Nat))) = false → (decide (n = Int.ofNat (nat_lit 46 + (1 : Nat))) = true → K (AV.v (PV.one (SV.cb true))) []) ∧ (decide (n = Int.ofNat (nat_lit 46 + (1 : Nat))) = false → (decide (n = Int.ofNat (nat_lit 47 + (1 : Nat))) = true → K (AV.v (PV.one (SV.cb true))) []) ∧ (decide (n = Int.ofNat (nat_lit 47 + (1 : Nat))) = false → (decide (n = Int.ofNat (nat_lit 48 + (1 : Nat))) = true → K (AV.v (PV.one (SV.cb true))) []) ∧ (decide (n = Int.ofNat (nat_lit 48 + (1 : Nat))) = false → (decide (n = Int.ofNat (nat_lit 49 + (1 : Nat))) = true → K (AV.v (PV.one (SV.cb true))) []) ∧ (decide (n = Int.ofNat (nat_lit 49 + (1 : Nat))) = false → (decide (n = Int.ofNat (nat_lit 50 + (1 : Nat))) = true → K (AV.v (PV.one (SV.cb true))) []) ∧ (decide (n = Int.ofNat (nat_lit 50 + (1 : Nat))) = false → (decide (n = Int.ofNat (nat_lit 51 + (1 : Nat))) = true → K (AV.v (PV.one (SV.cb true))) []) ∧ (decide (n = Int.ofNat (nat_lit 51 + (1 : Nat))) = false → (decide (n = Int.ofNat (nat_lit 52 + (1 : Nat))) = true → K (AV.v (PV.one (SV.cb true))) []) ∧ (decide (n = Int.ofNat (nat_lit 52 + (1 : Nat))) = false → (decide (n = Int.ofNat (nat_lit 53 + (1 : Nat))) = true → K (AV.v (PV.one (SV.cb true))) []) ∧ (decide (n = Int.ofNat (nat_lit 53 + (1 : Nat))) = false → (decide (n = Int.ofNat (nat_lit 54 + (1 : Nat))) = true → K (AV.v (PV.one (SV.cb true))) []) ∧ (decide (n = Int.ofNat (nat_lit 54 + (1 : Nat))) = false → (decide (n = Int.ofNat (nat_lit 55 + (1 : Nat))) = true → K (AV.v (PV.one (SV.cb true))) []) ∧ (decide (n = Int.ofNat (nat_lit 55 + (1 : Nat))) = false → (decide (n = Int.ofNat (nat_lit 56 + (1 : Nat))) = true → K (AV.v (PV.one (SV.cb true))) []) ∧ (decide (n = Int.ofNat (nat_lit 56 + (1 : Nat))) = false → (↑((wrT a b c d e f g h i x y z).fst.length + [byteI n].length) : Int) ≤ IntKind.i64.max ∧ (decide ((readF ((wrT a b c d e f g h i x y z).fst ++ [byteI n])).err = (12 : Int)) = true → K (AV.v (PV.one (SV.sb (decide ((readF ((wrT a b c d e f g h i x y z).fst ++ [byteI n])).at' = (↑(wrT a b c d e f g h i x y z).fst.length : Int)))))) []) ∧ (decide ((readF ((wrT a b c d e f g h i x y z).fst ++ [byteI n])).err = (12 : Int)) = false → K (AV.v (PV.one (SV.cb false))) [])))))))))))))))))))))) := by kernel_rfl
theorem insL_all : ∀ {l : List UInt8}, (∀ b ∈ l, sdB b) → insL l = true
  | [], _ => rfl
  | b :: u, h => by
    have hb : sdD b = true := by
      unfold sdD
      rcases h b (by simp) with e | e
      · subst e; rfl
      · rw [digR_b e, Bool.or_true]
    show (sdD b && insL u) = true
    rw [hb, insL_all (fun c hc => h c (by simp [hc]))]
    rfl
theorem front_in {s : List UInt8} {j q : Nat} (hj : j ≤ s.length) (h : q < j ∧ ∀ b ∈ (s.take j).drop q, sdB b) : insF s j q = true := by
  have e : insF s j q = insP s j q := if_neg (by omega)
  rw [e]
  unfold insP
  refine insL_all fun b hb => h.2 b ?_
  rw [List.drop_take]
  exact hb
theorem cmF_succ {s : List UInt8} {j : Nat} (hj : j < s.length) : cmF s (j + 1) = cmF s j + (if ((s.getD j 0).toNat : Int) = 44 then 1 else 0) := by
  unfold cmF
  rw [List.take_succ_eq_append_getElem hj, List.countP_append, List.countP_cons, List.countP_nil, List.getD_eq_getElem?_getD, List.getElem?_eq_getElem hj]
  simp
theorem cmF_le (s : List UInt8) (j : Nat) : cmF s j ≤ s.length := by
  unfold cmF
  refine Nat.le_trans List.countP_le_length ?_
  rw [List.length_take]
  omega
theorem front_ans {s : List UInt8} {j : Nat} (hj : j < s.length) (h : Front (s.take j)) : ∃ q : Nat, readF (s.take j) = rdZ q 12 ∧ (q = j ∨ insF s j q = true) := by
  obtain ⟨q, h1, h2⟩ := h
  have e : (s.take j).length = j := by rw [List.length_take]; omega
  rw [e] at h2
  refine ⟨q, h1, ?_⟩
  rcases h2 with h | h
  · exact .inl h
  · exact .inr (front_in (by omega) h)
theorem sbW {b : Bool} (h : b = true) : (AV.v (PV.one (SV.sb b))).valOf = some (.bool true) ∧ ([] : Heap) = [] := by subst h; exact ⟨rfl, rfl⟩
theorem ctW : (AV.v (PV.one (SV.cb true))).valOf = some (.bool true) ∧ ([] : Heap) = [] := ⟨rfl, rfl⟩
theorem noW {p : Prop} [Decidable p] (hp : p) : ¬ (!decide p) = true := fun h => by rw [decide_eq_true hp] at h; cases h
theorem byteI_nat {n : Int} (h : 0 ≤ n ∧ n ≤ 255) : ((byteI n).toNat : Int) = n := by
  show ((UInt8.ofNat n.toNat).toNat : Int) = n
  rw [UInt8.toNat_ofNat']
  omega
theorem len_map {a b c d e f g h i x y z : Int} (ho : opE a b c d e f g h i x y z = 0) : (mapT a b c d e f g h i x y z).length ≤ 600 := by
  obtain ⟨o1, o2, o3⟩ := opE_zero.1 ho
  obtain ⟨hx, hy, hz⟩ := tbad_false.1 o1
  obtain ⟨ha, hb, hc, hd, he, hf, hg, hh, hi⟩ := over9_false.1 o2
  obtain ⟨d0, d1, d2⟩ := det_rows o3
  obtain ⟨_, i0⟩ := rowTs_inv ha hb hc hx.1 hx.2
  obtain ⟨_, i1⟩ := rowTs_inv hd he hf hy.1 hy.2
  obtain ⟨_, i2⟩ := rowTs_inv hg hh hi hz.1 hz.2
  have k0 := rows_len i0 (rowTs_ne (t := x) d0).2
  have k1 := rows_len i1 (rowTs_ne (t := y) d1).2
  have k2 := rows_len i2 (rowTs_ne (t := z) d2).2
  rw [rowTs_txt hx.1 hx.2] at k0
  rw [rowTs_txt hy.1 hy.2] at k1
  rw [rowTs_txt hz.1 hz.2] at k2
  unfold mapT
  simp only [List.length_append, List.length_cons, List.length_nil]
  omega
theorem lawFronts (a b c d e f g h i x y z : Int) (hw : intsWf [.i64, .i64, .i64, .i64, .i64, .i64, .i64, .i64, .i64, .i64, .i64, .i64] [a, b, c, d, e, f, g, h, i, x, y, z]) (n : Int) (hn : (Lit.int .u8 n).wf = true) :
    LawS (YE stdOn) 10000 Tryd.f8 [.v (.agg [.sym .i64 a, .sym .i64 b, .sym .i64 c, .sym .i64 d, .sym .i64 e, .sym .i64 f, .sym .i64 g, .sym .i64 h, .sym .i64 i, .sym .i64 x, .sym .i64 y, .sym .i64 z]), .v (.one (.sym .u8 n))] (annFro (wrT a b c d e f g h i x y z).1) := by
  clear hw
  have hn : 0 ≤ n ∧ n ≤ 255 := by
    have h : (decide (IntKind.u8.min ≤ n) && decide (n ≤ IntKind.u8.max)) = true := by simpa [Lit.wf] using hn
    simp only [Bool.and_eq_true, decide_eq_true_eq] at h
    exact ⟨h.1, h.2⟩
  refine ⟨?_⟩
  rw [nffro]
  refine ⟨fun _ => ctW, fun he => ?_⟩
  have ho : opE a b c d e f g h i x y z = 0 := by
    have he : (wrT a b c d e f g h i x y z).2 = 0 := by simpa using he
    unfold wrT at he
    split at he
    · assumption
    · exact he
  have hS : (wrT a b c d e f g h i x y z).1 = mapT a b c d e f g h i x y z := by unfold wrT; rw [if_pos ho]
  rw [hS]
  have hlen := len_map ho
  have hfr := fun j hj hc => front_map (j := j) ho hj hc
  have hbe := fun h1 h2 h3 => behind ho (n := byteI n) h1 h2 h3
  rw [byteI_nat hn] at hbe
  clear he hS
  generalize mapT a b c d e f g h i x y z = S at *
  refine ⟨⟨⟨0, Nat.zero_le _⟩, ⟨rfl, rfl, rfl, rfl, rfl, trivial⟩, trivial⟩, fun x => ⟨fun hi => ?_, fun _ => ?_⟩⟩
  · have hj := x.2
    rw [show ((x.val : Int)).toNat = x.val from Int.toNat_natCast _]
    have et : List.take ((x.val : Int) - (0 : Int)).toNat (List.drop (Int.toNat (0 : Int)) S) = S.take x.val := by
      rw [show ((x.val : Int) - (0 : Int)).toNat = x.val by omega]
      rfl
    rw [et]
    obtain ⟨j, hjj⟩ : ∃ j, j = x.val := ⟨_, rfl⟩
    rw [← hjj] at hi hj ⊢
    clear hjj et
    have hi : j < S.length := by have := of_decide_eq_true hi; omega
    have wi : IntKind.i64.wrap ((j : Int) + 1) = ((j + 1 : Nat) : Int) := by rw [wr_id (by omega) (by omega)]; omega
    have hcl := cmF_le S j
    have wc : IntKind.i64.wrap ((cmF S j : Int) + 1) = ((cmF S j + 1 : Nat) : Int) := by rw [wr_id (by omega) (by omega)]; omega
    have b0 : (0 : Int) ≤ (j : Int) ∧ (j : Int) < (S.length : Int) := ⟨by omega, by omega⟩
    have b1 : (0 : Int) ≤ (0 : Int) ∧ (0 : Int) ≤ (j : Int) ∧ (j : Int) ≤ (S.length : Int) := ⟨by omega, by omega, by omega⟩
    have hsu := cmF_succ hi
    rw [wc, wi]
    have next : ∀ v : Int, v = ((cmF S (j + 1) : Nat) : Int) → ∃ (z : { k : Nat // k ≤ S.length }), (S.length - z.val).succ.le (S.length - j) ∧ (n = n ∧ S = S ∧ (↑(cmF S z.val) : Int) = v ∧ (↑S.length : Int) = (↑S.length : Int) ∧ (↑z.val : Int) = ((j + 1 : Nat) : Int) ∧ True) ∧ True := fun v hv =>
      ⟨⟨j + 1, by omega⟩, by show S.length - (j + 1) + 1 ≤ S.length - j; omega, ⟨rfl, rfl, hv.symm, rfl, rfl, trivial⟩, trivial⟩
    have wl : S.length.le 10000 ∧ (0 : Int) ≤ (j : Int) ∧ (j : Int) ≤ (S.length : Int) := ⟨by show S.length ≤ 10000; omega, b1.2⟩
    refine ⟨b0, fun hc => ⟨b1, fun h2 => ?_, fun _ => next _ ?_⟩, fun hc => ⟨b1, fun h2 => ?_, fun _ => next _ ?_⟩⟩
    · have hc := of_decide_eq_true hc
      rw [if_pos hc] at hsu
      have h2 : cmF S j + 1 < 2 := by have := of_decide_eq_true h2; omega
      obtain ⟨q, hq, hq2⟩ := front_ans hi (hfr j hi (by omega))
      generalize readF (S.take j) = R at *
      subst hq
      have fin := next _ (by rw [hsu])
      refine ⟨fun k => absurd k (noW rfl), fun _ => ⟨fun k => ⟨wl, fun k2 => ?_, fun _ => ⟨fun k => ?_, fun _ => fin⟩⟩, fun _ => ⟨fun k => ?_, fun _ => fin⟩⟩⟩
      · rcases hq2 with e | e
        · exact absurd k (noW (by show ((q : Nat) : Int) = (j : Int); rw [e]))
        · have k2 : (!insF S (j : Int) (q : Int)) = true := k2
          rw [e] at k2
          cases k2
      · cases k
      · cases k
    · have hc := of_decide_eq_true hc
      rw [if_pos hc] at hsu
      rw [hsu]
    · have hc := of_decide_eq_false hc
      rw [if_neg hc] at hsu
      have h2 : cmF S j < 2 := by have := of_decide_eq_true h2; omega
      obtain ⟨q, hq, hq2⟩ := front_ans hi (hfr j hi (by omega))
      generalize readF (S.take j) = R at *
      subst hq
      have fin := next _ (by rw [hsu, Nat.add_zero])
      refine ⟨fun k => absurd k (noW rfl), fun _ => ⟨fun k => ⟨wl, fun k2 => ?_, fun _ => ⟨fun k => ?_, fun _ => fin⟩⟩, fun _ => ⟨fun k => ?_, fun _ => fin⟩⟩⟩
      · rcases hq2 with e | e
        · exact absurd k (noW (by show ((q : Nat) : Int) = (j : Int); rw [e]))
        · have k2 : (!insF S (j : Int) (q : Int)) = true := k2
          rw [e] at k2
          cases k2
      · cases k
      · cases k
    · have hc := of_decide_eq_false hc
      rw [if_neg hc] at hsu
      rw [hsu]
      rfl
  · iterate 18 refine ⟨fun _ => ctW, fun _ => ?_⟩
    rename_i g0 g1 g2 g3 g4 g5 g6 g7 g8 g9 p0 p1 p2 p3 p4 p5 p6 p7
    have g0 : ¬ n = 32 := of_decide_eq_false g0
    have g1 : ¬ n = 120 := of_decide_eq_false g1
    have g2 : ¬ n = 121 := of_decide_eq_false g2
    have g3 : ¬ n = 122 := of_decide_eq_false g3
    have g4 : ¬ n = 43 := of_decide_eq_false g4
    have g5 : ¬ n = 45 := of_decide_eq_false g5
    have g6 : ¬ n = 44 := of_decide_eq_false g6
    have g7 : ¬ n = 47 := of_decide_eq_false g7
    have g8 : ¬ n = 48 := of_decide_eq_false g8
    have g9 : ¬ n = 49 := of_decide_eq_false g9
    have p0 : ¬ n = 50 := of_decide_eq_false p0
    have p1 : ¬ n = 51 := of_decide_eq_false p1
    have p2 : ¬ n = 52 := of_decide_eq_false p2
    have p3 : ¬ n = 53 := of_decide_eq_false p3
    have p4 : ¬ n = 54 := of_decide_eq_false p4
    have p5 : ¬ n = 55 := of_decide_eq_false p5
    have p6 : ¬ n = 56 := of_decide_eq_false p6
    have p7 : ¬ n = 57 := of_decide_eq_false p7
    have hd : digR n = false := by
      cases h9 : digR n with
      | false => rfl
      | true => have := digR_iff.1 h9; omega
    have hs : symR n = false := by
      unfold symR
      simp only [Bool.or_eq_false_iff, decide_eq_false_iff_not]
      omega
    have hr := hbe g0 hd hs
    rw [hr]
    exact ⟨by show ((S.length + 1 : Nat) : Int) ≤ 9223372036854775807; omega, fun _ => sbW (decide_eq_true rfl), fun k => absurd (of_decide_eq_false k) (fun hh => hh rfl)⟩
end Go.AM
