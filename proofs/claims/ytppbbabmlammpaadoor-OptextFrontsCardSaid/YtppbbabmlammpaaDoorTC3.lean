import Derived.Test.YtppbbabmlammpaaDoorPC
import Derived.Test.YtppbbabmlammpaaDoorPT1
set_option linter.unusedVariables false
set_option linter.unusedSimpArgs false
open Go Go.AM Go.Proofs
namespace Go.AM
def ent (s : List UInt8) (x : Int) (l : UInt8) : List UInt8 :=
  if x = 0 then s
  else if x < 0 then (if x = -1 then s ++ [45, l] else s ++ [45] ++ Lib.itoa (-x) ++ [l])
  else if s = [] then (if x = 1 then [l] else Lib.itoa x ++ [l])
  else (if x = 1 then s ++ [43, l] else s ++ [43] ++ Lib.itoa x ++ [l])
def rowP (a b c : Int) : Nat → List UInt8
  | 0 => []
  | 1 => ent [] a 120
  | 2 => ent (ent [] a 120) b 121
  | _ => ent (ent (ent [] a 120) b 121) c 122
def rowW (a b c t : Int) : List UInt8 := if t = 0 then rowP a b c 3 else rowP a b c 3 ++ ([43] ++ frT (mdR t))
def cutIn (env : Env) (h : Heap) : List Ann := match getD env 27 AV.any, getD env 28 AV.any, getD env 9 AV.any with
  | .v (.agg [.sym _ a, .sym _ b, .sym _ c]), .v (.one (.con _ j)), .v (.one (.ptr b9 0)) => (match get? h b9 with
    | some (.row T bc) => forceH (keepBs (app (blkOf (getD env 1 AV.any)) (app (blkOf (getD env 6 AV.any)) [b9])) 0 h) fun h1 => forceE (keepT [1, 6, 7, 9, 22, 23, 27, 28] 0 env) fun env =>
      (match bc with
        | .nilp :: _ => [⟨PLift (rowP a b c (j.toNat + 1) = []), fun _ => (env, set h1 b9 (.row T [.nilp, .nils])), fun _ => 0⟩]
        | _ => []) ++
       [⟨{ s : List UInt8 // s = rowP a b c (j.toNat + 1) ∧ s ≠ [] }, fun s => (env, set h1 b9 (.row T [.ptr b9 0, .ow (len' h1) 1 0 s.1.length false]) ++ [.own 5 byC s.1]), fun _ => 0⟩]
    | _ => [])
  | _, _, _ => []
def cutOut (env : Env) (h : Heap) : List Ann := match getD env 22 AV.any, getD env 23 AV.any, getD env 1 AV.any with
  | .v (.agg cs), .v (.one (.con _ i)), .v (.one (.ptr b1 0)) => (match dropN (3 * i.toNat) cs, get? h b1 with
    | .sym _ a :: .sym _ b :: .sym _ c :: _, some (.row _ os) => (match dropN (9 + i.toNat) os with
      | .sym _ t :: _ => forceE (keepT [1, 22, 23] 0 env) fun env1 => forceH (keepBs [b1] 0 h) fun h1 =>
        [⟨{ s : List UInt8 // s = rowW a b c t }, fun s => (set env1 6 (.v (.one (.ow (len' h1) 1 0 (i.toNat + 1) true))), h1 ++ [.ownL 9 1 (i.toNat + 1) (app (match getD env 6 AV.any with
          | .v (.one (.ow b6 _ _ _ _)) => (match get? h b6 with
            | some (.ownL _ _ _ cells) => cells
            | _ => [])
          | _ => []) [.str s.1])]), fun _ => 0⟩]
      | _ => [])
    | _, _ => [])
  | _, _, _ => []
def annWr : Annos := ⟨0, fun _ _ _ => none, fun id env h => if id = 21 then cutIn env h else if id = 25 then cutOut env h else []⟩
end Go.AM
