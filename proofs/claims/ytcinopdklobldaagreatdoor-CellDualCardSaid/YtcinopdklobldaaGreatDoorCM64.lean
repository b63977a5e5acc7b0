import Derived.Test.YtcinopdklobldaaGreatDoorCU2
import Derived.Lib.Mul64
import Derived.Laws.Bits64b
open Go Go.AM Go.Proofs
namespace Go.AM
open Dist
def U64 (x : Int) : Prop := 0 ≤ x ∧ x ≤ 18446744073709551615
def qMul64 : PSpec
  | [.v (.one (.sym .u64 a)), .v (.one (.sym .u64 b))] => .iff (U64 a ∧ U64 b) (.tup [.one (.sym .u64 (a * b / 18446744073709551616)), .one (.sym .u64 (a * b % 18446744073709551616))])
  | _ => .fail
theorem nfmul64 (a b : Int) (K : KV) : call P D2f noAnn 3000 Tryz.f106 [.v (.one (.sym .u64 a)), .v (.one (.sym .u64 b))] [] K = (K (AV.tup [PV.one (SV.sym IntKind.u64 (IntKind.u64.wrap (IntKind.u64.wrap (IntKind.u64.wrap (shI BinOp.shr IntKind.u64 a (32 : Int) * shI BinOp.shr IntKind.u64 b (32 : Int)) + shI BinOp.shr IntKind.u64 (IntKind.u64.wrap (IntKind.u64.wrap (shI BinOp.shr IntKind.u64 a (32 : Int) * IntKind.u64.wrap (↑(BitVec.ofInt IntKind.u64.bits b &&& BitVec.ofInt IntKind.u64.bits (4294967295 : Int)).toNat : Int)) + shI BinOp.shr IntKind.u64 (IntKind.u64.wrap (IntKind.u64.wrap (↑(BitVec.ofInt IntKind.u64.bits a &&& BitVec.ofInt IntKind.u64.bits (4294967295 : Int)).toNat : Int) * IntKind.u64.wrap (↑(BitVec.ofInt IntKind.u64.bits b &&& BitVec.ofInt IntKind.u64.bits (4294967295 : Int)).toNat : Int))) (32 : Int))) (32 : Int)) + shI BinOp.shr IntKind.u64 (IntKind.u64.wrap (IntKind.u64.wrap (↑(BitVec.ofInt IntKind.u64.bits (IntKind.u64.wrap (IntKind.u64.wrap (shI BinOp.shr IntKind.u64 a (32 : Int) * IntKind.u64.wrap (↑(BitVec.ofInt IntKind.u64.bits b &&& BitVec.ofInt IntKind.u64.bits (4294967295 : Int)).toNat : Int)) + shI BinOp.shr IntKind.u64 (IntKind.u64.wrap (IntKind.u64.wrap (↑(BitVec.ofInt IntKind.u64.bits a &&& BitVec.ofInt IntKind.u64.bits (4294967295 : Int)).toNat : Int) * IntKind.u64.wrap (↑(BitVec.ofInt IntKind.u64.bits b &&& BitVec.ofInt IntKind.u64.bits (4294967295 : Int)).toNat : Int))) (32 : Int))) &&& BitVec.ofInt IntKind.u64.bits (4294967295 : Int)).toNat : Int) + IntKind.u64.wrap (IntKind.u64.wrap (↑(BitVec.ofInt IntKind.u64.bits a &&& BitVec.ofInt IntKind.u64.bits (4294967295 : Int)).toNat : Int) * shI BinOp.shr IntKind.u64 b (32 : Int)))) (32 : Int)))), PV.one (SV.sym IntKind.u64 (IntKind.u64.wrap (a * b)))]) []) := by kernel_rfl
theorem shr32 (a : Int) : shI BinOp.shr IntKind.u64 a 32 = a / 4294967296 := by
  show Int.fdiv a (2 ^ min (32 : Int).toNat IntKind.u64.bits) = _
  rw [show (2 ^ min (32 : Int).toNat IntKind.u64.bits : Int) = 4294967296 by decide]
  exact Int.fdiv_eq_ediv_of_nonneg a (by omega)
theorem mask32 {a : Int} (h : U64 a) : IntKind.u64.wrap (((BitVec.ofInt IntKind.u64.bits a &&& BitVec.ofInt IntKind.u64.bits (4294967295 : Int)).toNat : Nat) : Int) = a % 4294967296 := by
  obtain ⟨h0, h1⟩ := h
  obtain ⟨x, rfl⟩ := Int.eq_ofNat_of_zero_le h0
  have hx : x < 18446744073709551616 := by omega
  have e : (BitVec.ofInt IntKind.u64.bits (x : Int) &&& BitVec.ofInt IntKind.u64.bits (4294967295 : Int)).toNat = x % 4294967296 := by
    rw [BitVec.toNat_and]
    show (BitVec.ofInt 64 (x : Int)).toNat &&& (BitVec.ofInt 64 (4294967295 : Int)).toNat = _
    rw [show (BitVec.ofInt 64 (4294967295 : Int)).toNat = 2 ^ 32 - 1 by decide, Nat.and_two_pow_sub_one_eq_mod, BitVec.ofInt_natCast, BitVec.toNat_ofNat, Nat.mod_eq_of_lt (show x < 2 ^ 64 by omega)]
  rw [e, IntKind.wrap_u64]
  omega
theorem wrap_u {a : Int} (h : U64 a) : IntKind.u64.wrap a = a := by unfold U64 at h; rw [IntKind.wrap_u64]; omega
theorem mul64_val {a b : Int} (ha : U64 a) (hb : U64 b) {v : AV} (hv : v = AV.tup [PV.one (SV.sym .u64 (a * b / 18446744073709551616)), PV.one (SV.sym .u64 (a * b % 18446744073709551616))]) : ∀ K : KV, call P D2f noAnn 3000 Tryz.f106 [.v (.one (.sym .u64 a)), .v (.one (.sym .u64 b))] [] K = K v [] := by
  intro K
  subst hv
  rw [nfmul64]
  simp only [shr32, mask32 ha, mask32 hb]
  obtain ⟨ha0, ha1⟩ := ha
  obtain ⟨hb0, hb1⟩ := hb
  obtain ⟨x, rfl⟩ := Int.eq_ofNat_of_zero_le ha0
  obtain ⟨y, rfl⟩ := Int.eq_ofNat_of_zero_le hb0
  have hx : x < 18446744073709551616 := by omega
  have hy : y < 18446744073709551616 := by omega
  obtain ⟨m1, m2, m3, m4⟩ := Lib.mul64_hi x y hx hy
  have ba := Lib.half_mul_le (a := x / 4294967296) (b := y / 4294967296) (by omega) (by omega)
  have bb := Lib.half_mul_le (a := x / 4294967296) (b := y % 4294967296) (by omega) (by omega)
  have bc := Lib.half_mul_le (a := x % 4294967296) (b := y / 4294967296) (by omega) (by omega)
  have c1 : (x : Int) / 4294967296 = ((x / 4294967296 : Nat) : Int) := by omega
  have c2 : (x : Int) % 4294967296 = ((x % 4294967296 : Nat) : Int) := by omega
  have c3 : (y : Int) / 4294967296 = ((y / 4294967296 : Nat) : Int) := by omega
  have c4 : (y : Int) % 4294967296 = ((y % 4294967296 : Nat) : Int) := by omega
  rw [c1, c2, c3, c4]
  have e1 : ((x / 4294967296 : Nat) : Int) * ((y / 4294967296 : Nat) : Int) = ((x / 4294967296 * (y / 4294967296) : Nat) : Int) := (Int.natCast_mul _ _).symm
  have e2 : ((x / 4294967296 : Nat) : Int) * ((y % 4294967296 : Nat) : Int) = ((x / 4294967296 * (y % 4294967296) : Nat) : Int) := (Int.natCast_mul _ _).symm
  have e3 : ((x % 4294967296 : Nat) : Int) * ((y / 4294967296 : Nat) : Int) = ((x % 4294967296 * (y / 4294967296) : Nat) : Int) := (Int.natCast_mul _ _).symm
  have e4 : ((x % 4294967296 : Nat) : Int) * ((y % 4294967296 : Nat) : Int) = ((x % 4294967296 * (y % 4294967296) : Nat) : Int) := (Int.natCast_mul _ _).symm
  have e5 : (x : Int) * (y : Int) = ((x * y : Nat) : Int) := (Int.natCast_mul _ _).symm
  rw [e1, e2, e3, e4, e5]
  generalize x / 4294967296 * (y / 4294967296) = p1 at *
  generalize x / 4294967296 * (y % 4294967296) = p2 at *
  generalize x % 4294967296 * (y / 4294967296) = p3 at *
  generalize x % 4294967296 * (y % 4294967296) = p4 at *
  generalize x * y = q at *
  have w : ∀ {n : Nat}, n < 18446744073709551616 → IntKind.u64.wrap (n : Int) = (n : Int) := fun h => by rw [IntKind.wrap_u64]; omega
  rw [w (n := p1) (by omega), w (n := p2) (by omega), w (n := p3) (by omega), w (n := p4) (by omega)]
  have d1 : (p2 : Int) + (p4 : Int) / 4294967296 = ((p2 + p4 / 4294967296 : Nat) : Int) := by omega
  rw [d1, w m2]
  have hm : U64 ((p2 + p4 / 4294967296 : Nat) : Int) := ⟨by omega, by omega⟩
  rw [mask32 hm]
  have d2 : ((p2 + p4 / 4294967296 : Nat) : Int) % 4294967296 + (p3 : Int) = (((p2 + p4 / 4294967296) % 4294967296 + p3 : Nat) : Int) := by omega
  rw [d2, w m3]
  have d3 : (p1 : Int) + ((p2 + p4 / 4294967296 : Nat) : Int) / 4294967296 = ((p1 + (p2 + p4 / 4294967296) / 4294967296 : Nat) : Int) := by omega
  rw [d3, w (n := p1 + (p2 + p4 / 4294967296) / 4294967296) (by omega)]
  have d4 : ((p1 + (p2 + p4 / 4294967296) / 4294967296 : Nat) : Int) + (((p2 + p4 / 4294967296) % 4294967296 + p3 : Nat) : Int) / 4294967296 = ((q / 18446744073709551616 : Nat) : Int) := by omega
  have d5 : IntKind.u64.wrap ((q / 18446744073709551616 : Nat) : Int) = (q : Int) / 18446744073709551616 := by rw [IntKind.wrap_u64]; omega
  have d6 : IntKind.u64.wrap (q : Int) = (q : Int) % 18446744073709551616 := by rw [IntKind.wrap_u64]
  rw [d4, d5, d6]
theorem hcMul64 : Holds P D2f 106 qMul64 := by
  refine holds_okA (fn := Tryz.f106) noAnn 3000 rfl (by kernel_rfl) (by kernel_rfl) fun args av hg => ?_
  unfold qMul64 at hg
  split at hg
  · rename_i a b
    obtain ⟨⟨ha, hb⟩, rfl⟩ := gives_iff hg
    refine ⟨rfl, _, rfl, ?_⟩
    rw [mul64_val ha hb rfl]
    exact ⟨rfl, rfl⟩
  · exact (gives_fail hg).elim
def D2m : Sums := D2f.add 106 qMul64
end Go.AM
