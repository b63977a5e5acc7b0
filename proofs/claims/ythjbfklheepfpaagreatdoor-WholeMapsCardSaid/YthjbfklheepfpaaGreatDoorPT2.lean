import Derived.Test.YthjbfklheepfpaaGreatDoorPTA
set_option linter.unusedVariables false
set_option linter.unusedSimpArgs false
set_option maxHeartbeats 4000000
open Go Go.AM Go.Proofs
namespace Go.AM
set_option maxRecDepth 100000
def HoldsFm (P : Program) (f : Nat) (q : FSpec) : Prop :=
  ∃ fn, P.funcs[f]? = some fn ∧ fn.body.isSome = true ∧ ∀ args p v hs, q args = some (p, v, hs) → p → noPtrs args = true ∧ noRo hs = true ∧ ∃ n A S, A.q = 0 ∧ OkS P S ∧ CallR P S A n fn args [] (fun v' h' => MatchTo 0 [v'] h' ([v], hs))
theorem OkS.addFm {P : Program} (hF : Fine P) {S : Sums} (h : OkS P S) {f : Nat} {q : FSpec} (hq : HoldsFm P f q) : OkS P (S.addF f q) := by
  refine ⟨h.pure, ⟨fun g sp hg => ?_, h.spec.2⟩, fun g sp hg => ?_⟩
  · by_cases e : g = f
    · subst e
      simp only [Sums.addF, if_true] at hg
      cases hg
      obtain ⟨fn, hf, hfb, hp⟩ := hq
      refine ⟨⟨fn, hf, hfb⟩, fun args hh K hsp w0 Sx pl w vals hR hargs => ?_⟩
      unfold freshSpec at hsp
      split at hsp
      · rename_i p v hs hqa
        obtain ⟨hp0, hK⟩ := hsp
        obtain ⟨hb0, hnr, n, A, S0, hA, hS0, hc⟩ := hp args p v hs hqa hp0
        refine (call_sound hF hS0.pure hS0.spec hS0.mono hf hc.out (.inl (by simpa using hA)) (empty_R w hR.tabw) (noPtrs_R hb0 hargs)).mono ?_
        rintro e w' ⟨v', av, h', pl0, rfl, hv0, _, hR0, hmt⟩
        rw [MatchTo_eq] at hmt
        obtain ⟨pl', hR', hE', _⟩ := MatchBy_sound hmt hR0 (tmps := #[v']) ⟨rfl, fun t => by
          cases t with
          | zero => simpa [getD, Array.getD] using hv0
          | succ t => exact any_R pl0 _⟩ (Nat.zero_le _)
        have hv' : v.R pl' v' := by simpa [getD, Array.getD] using hE'.2 0
        obtain ⟨j1, j2, j3⟩ := hR.join hR' (fun _ h => h) (fun c q y hq hy => noRo_get hnr hy)
        rw [app_eq, len'_eq, ← hR.len] at hK
        exact ⟨v', _, _, _, rfl, AV.sh_R j3 hv', j2, j1, hK⟩
      · exact hsp.elim
    · simp only [Sums.addF, if_neg e] at hg
      exact h.spec.1 g sp hg
  · by_cases e : g = f
    · subst e
      simp only [Sums.addF, if_true] at hg
      cases hg
      intro args hh K K' hK hx
      unfold freshSpec at hx ⊢
      split at hx
      · exact ⟨hx.1, hK _ _ hx.2⟩
      · exact hx.elim
    · simp only [Sums.addF, if_neg e] at hg
      exact h.mono g sp hg
def qToks : FSpec := fun args => match args with
  | [.v (.one (.str s))] => some (s.length ≤ 65536, .v (.one (.ow 0 3 0 (toks s).length false)), [.own 97 tokC (toks s)])
  | _ => none
theorem hToks : HoldsFm P 43 qToks := by
  refine ⟨Tryz.f43, by kernel_rfl, by kernel_rfl, fun args p v hs hq hp => ?_⟩
  unfold qToks at hq
  split at hq
  · rename_i s
    simp only [Option.some.injEq, Prod.mk.injEq] at hq
    obtain ⟨rfl, rfl, rfl⟩ := hq
    exact ⟨rfl, rfl, 1000, _, Y4 stdOn, rfl, pY4 stdOn, ⟨tok_run hp⟩⟩
  · cases hq
def Y5 (o : OnB) : Sums := (Y4 o).addF 43 qToks
theorem pY5 (o : OnB) : OkS P (Y5 o) := (pY4 o).addFm fine hToks
end Go.AM
open Go Go.AM Go.Proofs
namespace Go.AM
open Dist
set_option maxRecDepth 100000
def md24 (x : Int) : Int := modF (IntKind.i64.wrap (x.tmod 24 + Int.tmod 0 24)) 24
theorem md24_eq (x : Int) : md24 x = x % 24 := by
  unfold md24 modF
  have h0 : Int.tmod 0 24 = 0 := by decide
  have h3 := Int.tmod_eq_emod (a := x) (b := 24)
  have h4 : -24 < x.tmod 24 ∧ x.tmod 24 < 24 ∧ (x.tmod 24 - x) % 24 = 0 := by
    split at h3
    · omega
    · simp only [Int.natAbs] at h3
      omega
  rw [h0, Int.add_zero, wr_id (n := x.tmod 24) (by omega) (by omega)]
  generalize x.tmod 24 = y at *
  have h5 := Int.tmod_eq_emod (a := y) (b := 24)
  have j6 : -24 < y.tmod 24 ∧ y.tmod 24 < 24 ∧ (y.tmod 24 - y) % 24 = 0 := by
    split at h5
    · omega
    · simp only [Int.natAbs] at h5
      omega
  rw [wr_id (by omega) (by omega)]
  generalize y.tmod 24 = u at *
  rw [Int.tmod_eq_emod_of_nonneg (by omega)]
  omega
def mkO (e v : Int) : Int := if e = 0 then v else 0
def qMake : PSpec
  | [.v (.agg [.sym .i64 a, .sym .i64 b, .sym .i64 c, .sym .i64 d, .sym .i64 e, .sym .i64 f, .sym .i64 g, .sym .i64 h, .sym .i64 i]), .v (.agg [.sym .i64 x, .sym .i64 y, .sym .i64 z])] =>
    .ok (.tup [.agg [.sym .i64 (mkO (matE a b c d e f g h i) a), .sym .i64 (mkO (matE a b c d e f g h i) b), .sym .i64 (mkO (matE a b c d e f g h i) c), .sym .i64 (mkO (matE a b c d e f g h i) d), .sym .i64 (mkO (matE a b c d e f g h i) e), .sym .i64 (mkO (matE a b c d e f g h i) f), .sym .i64 (mkO (matE a b c d e f g h i) g), .sym .i64 (mkO (matE a b c d e f g h i) h), .sym .i64 (mkO (matE a b c d e f g h i) i), .sym .i64 (mkO (matE a b c d e f g h i) (md24 x)), .sym .i64 (mkO (matE a b c d e f g h i) (md24 y)), .sym .i64 (mkO (matE a b c d e f g h i) (md24 z))], .one (.sym .i64 (matE a b c d e f g h i))])
  | _ => .fail
theorem nfmake (a b c d e f g h i x y z : Int) (K : KV) : call P (Y4 stdOn) noAnn 10000 Tryz.f46 [.v (.agg [.sym .i64 a,.sym .i64 b,.sym .i64 c,.sym .i64 d,.sym .i64 e,.sym .i64 f,.sym .i64 g,.sym .i64 h,.sym .i64 i]), .v (.agg [.sym .i64 x,.sym .i64 y,.sym .i64 z])] [] K = (((!decide ((if over9 a b c d e f g h i=true then (4:Int) else if det9 a b c d e f g h i=1 then (0:Int) else if det9 a b c d e f g h i=(-1:Int) then (0:Int) else (3:Int))=0))=true->K (.tup [.agg [.con .i64 (0:Int),.con .i64 (0:Int),.con .i64 (0:Int),.con .i64 (0:Int),.con .i64 (0:Int),.con .i64 (0:Int),.con .i64 (0:Int),.con .i64 (0:Int),.con .i64 (0:Int),.con .i64 (0:Int),.con .i64 (0:Int),.con .i64 0],.one (.sym .i64 (if over9 a b c d e f g h i=true then (4:Int) else if det9 a b c d e f g h i=1 then (0:Int) else if det9 a b c d e f g h i=(-1:Int) then (0:Int) else (3:Int)))]) [])/\((!decide ((if over9 a b c d e f g h i=true then (4:Int) else if det9 a b c d e f g h i=1 then (0:Int) else if det9 a b c d e f g h i=(-1:Int) then (0:Int) else (3:Int))=0))=false->K (.tup [.agg [.sym .i64 a,.sym .i64 b,.sym .i64 c,.sym .i64 d,.sym .i64 e,.sym .i64 f,.sym .i64 g,.sym .i64 h,.sym .i64 i,.sym .i64 (modF (IntKind.i64.wrap (x.tmod (24:Int)+Int.tmod 0 24)) 24),.sym .i64 (modF (IntKind.i64.wrap (y.tmod (24:Int)+Int.tmod 0 24)) 24),.sym .i64 (modF (IntKind.i64.wrap (z.tmod (24:Int)+Int.tmod 0 24)) 24)],.one (.con .i64 0)]) [])) := by kernel_rfl
theorem hMake : Holds P (Y4 stdOn) 46 qMake := by
  refine holdsA (fn := Tryz.f46) noAnn 10000 rfl (by kernel_rfl) (by kernel_rfl) fun args av hg => ?_
  unfold qMake at hg
  split at hg
  · rename_i a b c d e f g h i x y z
    rw [gives_ok hg]
    refine ⟨rfl, _, rfl, ?_⟩
    rw [nfmake]
    have em : matE a b c d e f g h i = (if over9 a b c d e f g h i = true then (4 : Int) else if det9 a b c d e f g h i = (1 : Int) then (0 : Int) else if det9 a b c d e f g h i = (-1 : Int) then (0 : Int) else (3 : Int)) := rfl
    rw [← em]
    generalize matE a b c d e f g h i = m
    refine ⟨fun hm => ?_, fun hm => ?_⟩
    · have hm : ¬ m = 0 := by simpa using hm
      simp only [mkO, if_neg hm]
      exact ⟨rfl, trivial⟩
    · have hm : m = 0 := by simpa using hm
      subst hm
      simp only [mkO, if_true]
      exact ⟨rfl, trivial⟩
  · exact (gives_fail hg).elim
def Y6 (o : OnB) : Sums := (Y5 o).add 46 qMake
theorem pY6 (o : OnB) : OkS P (Y6 o) := (pY5 o).add1 fine (pY4 stdOn) hMake
end Go.AM
open Go Go.AM Go.Proofs
namespace Go.AM
open Dist
def GoodT (t : Tok) : Prop := (t.kind = 110 → digs t.text) ∧ (t.kind = 120 → t.text = [120] ∨ t.text = [121] ∨ t.text = [122])
def GoodL (l : List Tok) (op : Bool) : Prop := (∀ t ∈ l, GoodT t) ∧ (op = true → 0 < l.length ∧ (tk l (l.length - 1)).kind = 110)
theorem kindR_num {r : Int} : kindR r = 110 ↔ digR r = true := by
  unfold kindR
  constructor
  · intro h
    split at h
    · assumption
    · split at h
      · cases h
      · split at h
        · cases h
        · split at h
          · omega
          · cases h
  · intro h
    rw [if_pos h]
theorem kindR_let {r : Int} (h : kindR r = 120) : r = 120 ∨ r = 121 ∨ r = 122 := by
  unfold kindR at h
  split at h
  · cases h
  · split at h
    · assumption
    · split at h
      · cases h
      · split at h
        · omega
        · cases h
theorem dig_byte {r : Int} (h : digR r = true) : encL r = [UInt8.ofNat r.toNat] ∧ digB (UInt8.ofNat r.toNat) := by
  have hd := digR_iff.1 h
  refine ⟨enc_ascii (by omega) (by omega), ?_⟩
  unfold digB
  simp only [UInt8.toNat_ofNat']
  omega
theorem stepT_good {l : List Tok} {op : Bool} {i r : Int} (hg : GoodL l op) : GoodL (stepT l op i r).1 (stepT l op i r).2 := by
  obtain ⟨g1, g2⟩ := hg
  unfold stepT
  split
  · rename_i hd
    obtain ⟨k1, k2⟩ := g2 hd.2
    obtain ⟨e1, e2⟩ := dig_byte hd.1
    have hm := tk_mem k1
    refine ⟨fun t ht => ?_, fun _ => ?_⟩
    · simp only [addLast] at ht
      rcases List.mem_or_eq_of_mem_set ht with ht | ht
      · exact g1 t ht
      · subst ht
        refine ⟨fun _ => ?_, fun h => ?_⟩
        · have h0 := (g1 _ hm).1 k2
          refine ⟨by simp [h0.1], fun b hb => ?_⟩
          rcases List.mem_append.1 hb with hb | hb
          · exact h0.2 b hb
          · rw [e1] at hb
            simp at hb
            subst hb
            exact e2
        · simp only at h
          omega
    · simp only [addLast_len]
      refine ⟨k1, ?_⟩
      have : tk (addLast l (encL r)) (l.length - 1) = ⟨(tk l (l.length - 1)).kind, (tk l (l.length - 1)).text ++ encL r, (tk l (l.length - 1)).pos⟩ := by
        show (addLast l (encL r)).getD (l.length - 1) _ = _
        unfold addLast
        rw [List.getD_eq_getElem?_getD, List.getElem?_set_self (by omega)]
        rfl
      rw [this]
      exact k2
  · split
    · rename_i h32
      refine ⟨g1, fun h => ?_⟩
      have := digR_iff.1 h
      omega
    · refine ⟨fun t ht => ?_, fun h => ?_⟩
      · rcases List.mem_append.1 ht with ht | ht
        · exact g1 t ht
        · simp at ht
          subst ht
          refine ⟨fun h => ?_, fun h => ?_⟩
          · obtain ⟨e1, e2⟩ := dig_byte (kindR_num.1 h)
            refine ⟨by simp [e1], fun b hb => ?_⟩
            simp only [e1] at hb
            simp at hb
            subst hb
            exact e2
          · rcases kindR_let h with e | e | e <;> subst e
            · exact .inl (enc_ascii (by omega) (by omega))
            · exact .inr (.inl (enc_ascii (by omega) (by omega)))
            · exact .inr (.inr (enc_ascii (by omega) (by omega)))
      · refine ⟨by simp, ?_⟩
        have : tk (l ++ [⟨kindR r, encL r, i⟩]) ((l ++ [(⟨kindR r, encL r, i⟩ : Tok)]).length - 1) = ⟨kindR r, encL r, i⟩ := by
          unfold tk
          simp
        rw [this]
        exact kindR_num.2 h
theorem toksP_good {s : List UInt8} : ∀ (n pos : Nat) (l : List Tok) (op : Bool), GoodL l op → (∀ t ∈ toksP s n pos l op, GoodT t) ∧ (toksP s n pos l op).length ≤ l.length + n
  | 0, pos, l, op, h => ⟨h.1, Nat.le_refl _⟩
  | n + 1, pos, l, op, h => by
    unfold toksP
    split
    · have h2 := toksP_good (s := s) n (pos + (runeL s pos).2) (stepT l op pos (runeL s pos).1).1 (stepT l op pos (runeL s pos).1).2 (stepT_good h)
      refine ⟨h2.1, Nat.le_trans h2.2 ?_⟩
      have : (stepT l op (pos : Int) (runeL s pos).1).1.length ≤ l.length + 1 := by
        unfold stepT
        split
        · simp only [addLast_len]; omega
        · split
          · simp
          · simp
      omega
    · exact ⟨h.1, by omega⟩
theorem tk_good {l : List Tok} (h : ∀ t ∈ l, GoodT t) (i : Nat) : GoodT (tk l i) := by
  unfold tk
  rw [List.getD_eq_getElem?_getD]
  rcases Nat.lt_or_ge i l.length with hi | hi
  · rw [List.getElem?_eq_getElem hi]
    exact h _ (List.getElem_mem _)
  · rw [List.getElem?_eq_none hi]
    exact ⟨fun h => (by cases h), fun h => (by cases h)⟩
theorem toks_len (s : List UInt8) : 0 < (toks s).length := by simp [toks]
theorem toks_ok {s : List UInt8} (hs : s.length ≤ 65536) : TokOk (toks s) := by
  obtain ⟨h1, h2⟩ := toksP_good (s := s) (s.length + 1) 0 [] false ⟨fun t h => by simp at h, fun h => by cases h⟩
  have hg : ∀ t ∈ toks s, GoodT t := fun t ht => by
    rcases List.mem_append.1 ht with ht | ht
    · exact h1 t ht
    · simp at ht
      subst ht
      exact ⟨fun h => (by cases h), fun h => (by cases h)⟩
  refine ⟨fun i => (tk_good hg i).1, fun i => (tk_good hg i).2, ?_, ?_⟩
  · show (tk (toks s) ((toks s).length - 1)).kind = 46
    have : tk (toks s) ((toks s).length - 1) = ⟨46, [], s.length⟩ := by
      unfold tk toks
      simp
    rw [this]
  · simp only [toks, List.length_append, List.length_cons, List.length_nil] at h2 ⊢
    simp at h2
    omega
end Go.AM
