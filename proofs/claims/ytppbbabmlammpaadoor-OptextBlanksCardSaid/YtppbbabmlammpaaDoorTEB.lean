import Derived.Test.YtppbbabmlammpaaDoorTE3
import Derived.Test.YtppbbabmlammpaaDoorRD0
/- OptextBlanks: the law. -/
open Go Go.AM Go.Proofs
namespace Go.AM
open Dist
set_option maxRecDepth 100000
theorem nfbla (a b c d e f g h i x y z n : Int) (K : KV) : call P (YC stdOn) noAnn 10000 Tryd.f6 [.v (.agg [.sym .i64 a, .sym .i64 b, .sym .i64 c, .sym .i64 d, .sym .i64 e, .sym .i64 f, .sym .i64 g, .sym .i64 h, .sym .i64 i, .sym .i64 x, .sym .i64 y, .sym .i64 z]), .v (.one (.sym .u8 n))] [] K = (((!decide ((wrT a b c d e f g h i x y z).snd = (0 : Int))) = true → K (AV.v (PV.one (SV.sb (decide ((wrT a b c d e f g h i x y z).fst = []))))) []) ∧ ((!decide ((wrT a b c d e f g h i x y z).snd = (0 : Int))) = false → ((wrT a b c d e f g h i x y z).fst.length.le (10000 : Nat) ∧ (0 : Int) ≤ IntKind.i64.wrap (n.tmod (4 : Int)) ∧ IntKind.i64.wrap (n.tmod (4 : Int)) ≤ (3 : Int)) ∧ ((decide ((readF (sprF (IntKind.i64.wrap (n.tmod (4 : Int))).toNat (wrT a b c d e f g h i x y z).fst)).a = a) && (decide ((readF (sprF (IntKind.i64.wrap (n.tmod (4 : Int))).toNat (wrT a b c d e f g h i x y z).fst)).b = b) && (decide ((readF (sprF (IntKind.i64.wrap (n.tmod (4 : Int))).toNat (wrT a b c d e f g h i x y z).fst)).c = c) && true)) && (decide ((readF (sprF (IntKind.i64.wrap (n.tmod (4 : Int))).toNat (wrT a b c d e f g h i x y z).fst)).d = d) && (decide ((readF (sprF (IntKind.i64.wrap (n.tmod (4 : Int))).toNat (wrT a b c d e f g h i x y z).fst)).e = e) && (decide ((readF (sprF (IntKind.i64.wrap (n.tmod (4 : Int))).toNat (wrT a b c d e f g h i x y z).fst)).f = f) && true)) && (decide ((readF (sprF (IntKind.i64.wrap (n.tmod (4 : Int))).toNat (wrT a b c d e f g h i x y z).fst)).g = g) && (decide ((readF (sprF (IntKind.i64.wrap (n.tmod (4 : Int))).toNat (wrT a b c d e f g h i x y z).fst)).h = h) && (decide ((readF (sprF (IntKind.i64.wrap (n.tmod (4 : Int))).toNat (wrT a b c d e f g h i x y z).fst)).i = i) && true)) && true)) && (decide ((readF (sprF (IntKind.i64.wrap (n.tmod (4 : Int))).toNat (wrT a b c d e f g h i x y z).fst)).x = x) && (decide ((readF (sprF (IntKind.i64.wrap (n.tmod (4 : Int))).toNat (wrT a b c d e f g h i x y z).fst)).y = y) && (decide ((readF (sprF (IntKind.i64.wrap (n.tmod (4 : Int))).toNat (wrT a b c d e f g h i x y z).fst)).z = z) && true)) && true)) = true → (decide ((readF (sprF (IntKind.i64.wrap (n.tmod (4 : Int))).toNat (wrT a b c d e f g h i x y z).fst)).at' = (0 : Int)) = true → K (AV.v (PV.one (SV.sb (decide ((readF (sprF (IntKind.i64.wrap (n.tmod (4 : Int))).toNat (wrT a b c d e f g h i x y z).fst)).err = (0 : Int)))))) []) ∧ (decide ((readF (sprF (IntKind.i64.wrap (n.tmod (4 : Int))).toNat (wrT a b c d e f g h i x y z).fst)).at' = (0 : Int)) = false → K (AV.v (PV.one (SV.cb false))) [])) ∧ ((decide ((readF (sprF (IntKind.i64.wrap (n.tmod (4 : Int))).toNat (wrT a b c d e f g h i x y z).fst)).a = a) && (decide ((readF (sprF (IntKind.i64.wrap (n.tmod (4 : Int))).toNat (wrT a b c d e f g h i x y z).fst)).b = b) && (decide ((readF (sprF (IntKind.i64.wrap (n.tmod (4 : Int))).toNat (wrT a b c d e f g h i x y z).fst)).c = c) && true)) && (decide ((readF (sprF (IntKind.i64.wrap (n.tmod (4 : Int))).toNat (wrT a b c d e f g h i x y z).fst)).d = d) && (decide ((readF (sprF (IntKind.i64.wrap (n.tmod (4 : Int))).toNat (wrT a b c d e f g h i x y z).fst)).e = e) && (decide ((readF (sprF (IntKind.i64.wrap (n.tmod (4 : Int))).toNat (wrT a b c d e f g h i x y z).fst)).f = f) && true)) && (decide ((readF (sprF (IntKind.i64.wrap (n.tmod (4 : Int))).toNat (wrT a b c d e f g h i x y z).fst)).g = g) && (decide ((readF (sprF (IntKind.i64.wrap (n.tmod (4 : Int))).toNat (wrT a b c d e f g h i x y z).fst)).h = h) && (decide ((readF (sprF (IntKind.i64.wrap (n.tmod (4 : Int))).toNat (wrT a b c d e f g h i x y z).fst)).i = i) && true)) && true)) && (decide ((readF (sprF (IntKind.i64.wrap (n.tmod (4 : Int))).toNat (wrT a b c d e f g h i x y z).fst)).x = x) && (decide ((readF (sprF (IntKind.i64.wrap (n.tmod (4 : Int))).toNat (wrT a b c d e f g h i x y z).fst)).y = y) && (decide ((readF (sprF (IntKind.i64.wrap (n.tmod (4 : Int))).toNat (wrT a b c d e f g h i x y z).fst)).z = z) && true)) && true)) = false → K (AV.v (PV.one (SV.cb false))) []))) := by kernel_rfl
theorem u8_wf {n : Int} (h : (Lit.int .u8 n).wf = true) : 0 ≤ n ∧ n ≤ 255 := by
  have h : (decide (IntKind.u8.min ≤ n) && decide (n ≤ IntKind.u8.max)) = true := by simpa [Lit.wf] using h
  simp only [Bool.and_eq_true, decide_eq_true_eq] at h
  exact ⟨h.1, h.2⟩
theorem rd_eq {r : Rd} {a b c d e f g h i x y z : Int} (hr : r = ⟨a, b, c, d, e, f, g, h, i, x, y, z, 0, 0⟩) : (decide (r.a = a) && (decide (r.b = b) && (decide (r.c = c) && true)) && (decide (r.d = d) && (decide (r.e = e) && (decide (r.f = f) && true)) && (decide (r.g = g) && (decide (r.h = h) && (decide (r.i = i) && true)) && true)) && (decide (r.x = x) && (decide (r.y = y) && (decide (r.z = z) && true)) && true)) = true := by subst hr; simp
theorem lawBlanks (a b c d e f g h i x y z : Int) (hw : intsWf [.i64, .i64, .i64, .i64, .i64, .i64, .i64, .i64, .i64, .i64, .i64, .i64] [a, b, c, d, e, f, g, h, i, x, y, z]) (n : Int) (hn : (Lit.int .u8 n).wf = true) :
    LawS (YC stdOn) 10000 Tryd.f6 [.v (.agg [.sym .i64 a, .sym .i64 b, .sym .i64 c, .sym .i64 d, .sym .i64 e, .sym .i64 f, .sym .i64 g, .sym .i64 h, .sym .i64 i, .sym .i64 x, .sym .i64 y, .sym .i64 z]), .v (.one (.sym .u8 n))] := by
  clear hw
  refine ⟨?_⟩
  rw [nfbla]
  have hn := u8_wf hn
  have hm : n.tmod 4 = n % 4 := Int.tmod_eq_emod_of_nonneg hn.1
  have hk : IntKind.i64.wrap (n.tmod 4) = n % 4 := by rw [hm, wr_id (by omega) (by omega)]
  rw [hk]
  by_cases ho : opE a b c d e f g h i x y z = 0
  · rw [wrT_ok ho]
    have hr := read_spread (m := (n % 4).toNat) ho (by omega)
    have hl := mapT_len ho
    refine ⟨fun y => (ntE rfl y).elim, fun _ => ⟨⟨by show (mapT a b c d e f g h i x y z).length ≤ 10000; omega, by omega, by omega⟩, fun _ => ⟨fun _ => lT ?_, fun y => (dtE (by rw [hr]) y).elim⟩, fun y => (bfE (rd_eq hr) y).elim⟩⟩
    show decide ((readF (sprF (n % 4).toNat (mapT a b c d e f g h i x y z))).err = 0) = true
    rw [hr]
    rfl
  · have e : wrT a b c d e f g h i x y z = ([], opE a b c d e f g h i x y z) := by rw [wrT, if_neg ho]
    rw [e]
    exact ⟨fun _ => lT (decide_eq_true rfl), fun y => (nfE ho y).elim⟩
end Go.AM
