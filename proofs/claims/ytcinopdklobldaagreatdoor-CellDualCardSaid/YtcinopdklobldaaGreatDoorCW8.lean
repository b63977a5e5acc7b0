import Derived.Test.YtcinopdklobldaaGreatDoorCW7
open Go Go.AM Go.Proofs
namespace Go.AM
open Dist
set_option maxRecDepth 100000
theorem nfcbad (a b c d : Int) (K : KV) : call P D2o noAnn 14 Tryz.f23 [.v (.agg [.sym .i64 a, .sym .i64 b]), .v (.agg [.sym .i64 c, .sym .i64 d])] [] K = ((((-9223372036854775808 : Int) ≤ a ∧ a ≤ (9223372036854775807 : Int)) ∧ (-9223372036854775808 : Int) ≤ b ∧ b ≤ (9223372036854775807 : Int)) ∧ ((!Dist.frm a b) = true → K (AV.tup [PV.one (SV.con IntKind.i64 (0 : Int)), PV.one (SV.con IntKind.i64 (3 : Int))]) []) ∧ ((!Dist.frm a b) = false → (((-9223372036854775808 : Int) ≤ c ∧ c ≤ (9223372036854775807 : Int)) ∧ (-9223372036854775808 : Int) ≤ d ∧ d ≤ (9223372036854775807 : Int)) ∧ ((!Dist.frm c d) = true → K (AV.tup [PV.one (SV.con IntKind.i64 (0 : Int)), PV.one (SV.con IntKind.i64 (3 : Int))]) []) ∧ ((!Dist.frm c d) = false → False ∧ False))) := by kernel_rfl
theorem oDG : OkS P DG := ⟨okD2, soD2, smD2⟩
theorem oD2f : OkS P D2f := oD2.add1 fine oDG hcForm
theorem oDRb : OkS P (D2f.add 106 qMul64) := oD2f.add1 fine oD2f hcMul64
theorem oDR (on : OnB) : OkS P (DR on) := ⟨(oDRb.addF fine hcNewInt).pure, (oDRb.addF fine hcNewInt).spec, (oDRb.addF fine hcNewInt).mono⟩
theorem oD2m : OkS P D2m := oD2f.add1 fine oD2f hcMul64
theorem oD2n : OkS P D2n := ((oD2m.add1 fine oD2m hcSize).add1 fine oD2m hcSign).add1 fine oD2m hcProducts
theorem oD2o : OkS P D2o := (oD2n.add1 fine oD2n hcInForm).add1 fine oD2n hcCmpr
theorem pos_np {b : Int} (h : 0 < b) : ∃ j, b = Np j := ⟨(b - 1).toNat, by show b = ((b - 1).toNat : Int) + 1; omega⟩
theorem sgn3 (a : Int) : a = 0 ∨ (∃ k, a = Np k) ∨ ∃ k, a = Nn k := by
  rcases Int.lt_trichotomy a 0 with h | h | h
  · exact .inr (.inr ⟨(-a - 1).toNat, by rw [show Nn (-a - 1).toNat = -((-a - 1).toNat : Int) - 1 by show Int.negSucc _ = _; omega]; omega⟩)
  · exact .inl h
  · exact .inr (.inl (pos_np h))
theorem cmp_good {a b c d : Int} (ha : InR a) (hb : InR b) (hc : InR c) (hd : InR d) (h1 : frm a b = true) (h2 : frm c d = true) : call P (DR pruneOn) noAnn 3000 Tryz.f23 [Rt a b, Rt c d] [] (fun v' h => v'.valOf = some (.tuple #[.int .i64 (ratC a b c d), .int .i64 (ratE a b c d)]) ∧ h = []) := by
  have C := cmp_mk h1 h2
  have hb0 := (frm_spec h1).1
  have hd0 := (frm_spec h2).1
  obtain ⟨j, rfl⟩ := pos_np hb0
  obtain ⟨i, rfl⟩ := pos_np hd0
  rcases sgn3 a with rfl | ⟨k, rfl⟩ | ⟨k, rfl⟩ <;> rcases sgn3 c with rfl | ⟨l, rfl⟩ | ⟨l, rfl⟩
  · with_reducible exact cmp_zz j i ha hb hc hd h1 h2 C
  · with_reducible exact cmp_zp l j i ha hb hc hd h1 h2 C
  · with_reducible exact cmp_zn l j i ha hb hc hd h1 h2 C
  · with_reducible exact cmp_pz k j i ha hb hc hd h1 h2 C
  · with_reducible exact cmp_pp k l j i ha hb hc hd h1 h2 C
  · with_reducible exact cmp_pn k l j i ha hb hc hd h1 h2 C
  · with_reducible exact cmp_nz k j i ha hb hc hd h1 h2 C
  · with_reducible exact cmp_np k l j i ha hb hc hd h1 h2 C
  · with_reducible exact cmp_nn k l j i ha hb hc hd h1 h2 C
theorem hcCompare : HoldsE P 23 qRat := by
  refine ⟨Tryz.f23, by kernel_rfl, by kernel_rfl, fun args av hg => ?_⟩
  unfold qRat at hg
  split at hg
  · rename_i a b c d
    obtain ⟨⟨⟨ha, hb⟩, hc, hd⟩, rfl⟩ := gives_iff hg
    clear hg
    refine ⟨rfl, .tuple #[.int .i64 (ratC a b c d), .int .i64 (ratE a b c d)], ?_⟩
    by_cases h1 : frm a b = true
    · by_cases h2 : frm c d = true
      · refine ⟨3000, noAnn, DR pruneOn, rfl, oDR _, rfl, ?_⟩
        exact cmp_good ha hb hc hd h1 h2
      · refine ⟨14, noAnn, D2o, rfl, oD2o, rfl, ?_⟩
        rw [nfcbad]
        have := rat_bad (a := a) (b := b) (c := c) (d := d) (fun k => h2 k.2)
        exact ⟨⟨ha, hb⟩, fun h => absurd h1 (not_true h), fun _ => ⟨⟨hc, hd⟩, fun h => leafRt rfl rfl this.1 this.2, fun h => absurd (not_false h) h2⟩⟩
    · refine ⟨14, noAnn, D2o, rfl, oD2o, rfl, ?_⟩
      rw [nfcbad]
      have := rat_bad (a := a) (b := b) (c := c) (d := d) (fun k => h1 k.1)
      exact ⟨⟨ha, hb⟩, fun h => leafRt rfl rfl this.1 this.2, fun h => absurd (not_false h) h1⟩
  · exact (gives_fail hg).elim
end Go.AM
