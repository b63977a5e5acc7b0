import Derived.Test.YtppbbabmlammpaaDoorPC
set_option linter.unusedVariables false
set_option linter.unusedSimpArgs false
open Go Go.AM Go.Proofs
namespace Go.AM
open Dist
theorem atoi_digs {s : List UInt8} {u : Nat} (h : digs s) (hd : Lib.decFrom 0 s = some u) : Lib.atoi s = some (u : Int) := by
  obtain ⟨h1, h2⟩ := h
  cases s with
  | nil => exact absurd rfl h1
  | cons b r =>
    have hb := h2 b (by simp)
    unfold digB at hb
    unfold Lib.atoi
    have e1 : ¬ (b == 45) = true := fun e => by
      have := congrArg UInt8.toNat (eq_of_beq e)
      simp at this
      omega
    have e2 : ¬ (b == 43) = true := fun e => by
      have := congrArg UInt8.toNat (eq_of_beq e)
      simp at this
      omega
    simp only [e1, e2]
    unfold Lib.decNat
    simp only [List.isEmpty_cons, hd]
    rfl
def symB (b : UInt8) : Prop := b = 120 ∨ b = 121 ∨ b = 122 ∨ b = 43 ∨ b = 45 ∨ b = 44 ∨ b = 47
theorem enc_b {b : UInt8} (h : b.toNat < 128) : encL b.toNat = [b] := by
  rw [enc_ascii (by omega) (by omega)]
  simp
end Go.AM
open Go Go.AM Go.Proofs
namespace Go.AM
open Dist
set_option maxRecDepth 100000
inductive Sg
  | no
  | plus
  | minus
def Sg.w : Sg → List (List UInt8)
  | .no => []
  | .plus => [[43]]
  | .minus => [[45]]
def Sg.v : Sg → Int
  | .minus => -1
  | _ => 1
inductive Trm
  | lt (s : Sg) (k : Option Int) (l : UInt8)
  | fr (s : Sg) (n : Int) (d : Option Int)
def numW : Option Int → List (List UInt8)
  | none => []
  | some n => [Lib.itoa n]
def denW : Option Int → List (List UInt8)
  | none => []
  | some n => [[47], Lib.itoa n]
def Trm.sg : Trm → Sg
  | .lt s _ _ => s
  | .fr s _ _ => s
def Trm.w : Trm → List (List UInt8)
  | .lt s k l => s.w ++ (numW k ++ [[l]])
  | .fr s n d => s.w ++ (Lib.itoa n :: denW d)
def Trm.ok (x : RS) : Trm → Prop
  | .lt s k l => (x.first = true ∨ s ≠ .no) ∧ (∀ n, k = some n → 1 ≤ n ∧ n ≤ 1000) ∧ ((l = 120 ∧ x.s0 = false) ∨ (l = 121 ∧ x.s1 = false) ∨ (l = 122 ∧ x.s2 = false))
  | .fr s n d => (x.first = true ∨ s ≠ .no) ∧ 0 ≤ n ∧ n ≤ 999 ∧ x.again = false ∧ (∀ m, d = some m → 1 ≤ m ∧ m ≤ 999 ∧ (24 * n).tmod m = 0)
def RS.app (x : RS) : Trm → RS
  | .lt s k l => if l = 120 then ⟨x.st + (Trm.lt s k l).w.length, s.v * k.getD 1, x.e1, x.e2, x.parts, true, x.s1, x.s2, x.again, false⟩
    else if l = 121 then ⟨x.st + (Trm.lt s k l).w.length, x.e0, s.v * k.getD 1, x.e2, x.parts, x.s0, true, x.s2, x.again, false⟩
    else ⟨x.st + (Trm.lt s k l).w.length, x.e0, x.e1, s.v * k.getD 1, x.parts, x.s0, x.s1, true, x.again, false⟩
  | .fr s n d => ⟨x.st + (Trm.fr s n d).w.length, x.e0, x.e1, x.e2, s.v * (24 * n).tdiv (d.getD 1), x.s0, x.s1, x.s2, true, false⟩
end Go.AM
