import Derived.Test.YtbehdodaaobcdaaGreatDoorA26
set_option maxHeartbeats 4000000
open Go Go.AM Go.Proofs
namespace Go.AM
set_option maxRecDepth 100000
def HoldsFm (P : Program) (f : Nat) (q : FSpec) : Prop :=
  ∃ fn, P.funcs[f]? = some fn ∧ fn.body.isSome = true ∧ ∀ args p v hs, q args = some (p, v, hs) → p → noPtrs args = true ∧ noRo hs = true ∧ ∃ n A S, A.q = 0 ∧ OkS P S ∧ CallR P S A n fn args [] (fun v' h' => MatchTo 0 [v'] h' ([v], hs))
theorem OkS.addFm {P : Program} (hF : Fine P) {S : Sums} (h : OkS P S) {f : Nat} {q : FSpec} (hq : HoldsFm P f q) : OkS P (S.addF f q) := by
  refine ⟨h.pure, ⟨fun g sp hg => ?_, h.spec.2⟩, fun g sp hg => ?_⟩
  · by_cases e : g = f
    · subst e
      simp only [Sums.addF, if_true] at hg
      cases hg
      obtain ⟨fn, hf, hfb, hp⟩ := hq
      refine ⟨⟨fn, hf, hfb⟩, fun args hh K hsp w0 Sx pl w vals hR hargs => ?_⟩
      unfold freshSpec at hsp
      split at hsp
      · rename_i p v hs hqa
        obtain ⟨hp0, hK⟩ := hsp
        obtain ⟨hb0, hnr, n, A, S0, hA, hS0, hc⟩ := hp args p v hs hqa hp0
        refine (call_sound hF hS0.pure hS0.spec hS0.mono hf hc.out (.inl (by simpa using hA)) (empty_R w hR.tabw) (noPtrs_R hb0 hargs)).mono ?_
        rintro e w' ⟨v', av, h', pl0, rfl, hv0, _, hR0, hmt⟩
        rw [MatchTo_eq] at hmt
        obtain ⟨pl', hR', hE', _⟩ := MatchBy_sound hmt hR0 (tmps := #[v']) ⟨rfl, fun t => by
          cases t with
          | zero => simpa [getD, Array.getD] using hv0
          | succ t => exact any_R pl0 _⟩ (Nat.zero_le _)
        have hv' : v.R pl' v' := by simpa [getD, Array.getD] using hE'.2 0
        obtain ⟨j1, j2, j3⟩ := hR.join hR' (fun _ h => h) (fun c q y hq hy => noRo_get hnr hy)
        rw [app_eq, len'_eq, ← hR.len] at hK
        exact ⟨v', _, _, _, rfl, AV.sh_R j3 hv', j2, j1, hK⟩
      · exact hsp.elim
    · simp only [Sums.addF, if_neg e] at hg
      exact h.spec.1 g sp hg
  · by_cases e : g = f
    · subst e
      simp only [Sums.addF, if_true] at hg
      cases hg
      intro args hh K K' hK hx
      unfold freshSpec at hx ⊢
      split at hx
      · exact ⟨hx.1, hK _ _ hx.2⟩
      · exact hx.elim
    · simp only [Sums.addF, if_neg e] at hg
      exact h.mono g sp hg
def qToks : FSpec := fun args => match args with
  | [.v (.one (.str s))] => some (s.length ≤ 65536, .v (.one (.ow 0 3 0 (toks s).length false)), [.own 80 tokC (toks s)])
  | _ => none
theorem hToks : HoldsFm P 34 qToks := by
  refine ⟨Tryz.f34, by kernel_rfl, by kernel_rfl, fun args p v hs hq hp => ?_⟩
  unfold qToks at hq
  split at hq
  · rename_i s
    simp only [Option.some.injEq, Prod.mk.injEq] at hq
    obtain ⟨rfl, rfl, rfl⟩ := hq
    exact ⟨rfl, rfl, 1000, _, Y4 stdOn, rfl, pY4 stdOn, ⟨tok_run hp⟩⟩
  · cases hq
def Y5 (o : OnB) : Sums := (Y4 o).addF 34 qToks
theorem pY5 (o : OnB) : OkS P (Y5 o) := (pY4 o).addFm fine hToks
end Go.AM
open Go Go.AM Go.Proofs
namespace Go.AM
open Dist
set_option maxRecDepth 100000
def md24 (x : Int) : Int := modF (IntKind.i64.wrap (x.tmod 24 + Int.tmod 0 24)) 24
theorem md24_eq (x : Int) : md24 x = x % 24 := by
  unfold md24 modF
  have h0 : Int.tmod 0 24 = 0 := by decide
  have h3 := Int.tmod_eq_emod (a := x) (b := 24)
  have h4 : -24 < x.tmod 24 ∧ x.tmod 24 < 24 ∧ (x.tmod 24 - x) % 24 = 0 := by
    split at h3
    · omega
    · simp only [Int.natAbs] at h3
      omega
  rw [h0, Int.add_zero, wr_id (n := x.tmod 24) (by omega) (by omega)]
  generalize x.tmod 24 = y at *
  have h5 := Int.tmod_eq_emod (a := y) (b := 24)
  have j6 : -24 < y.tmod 24 ∧ y.tmod 24 < 24 ∧ (y.tmod 24 - y) % 24 = 0 := by
    split at h5
    · omega
    · simp only [Int.natAbs] at h5
      omega
  rw [wr_id (by omega) (by omega)]
  generalize y.tmod 24 = u at *
  rw [Int.tmod_eq_emod_of_nonneg (by omega)]
  omega
def mkO (e v : Int) : Int := if e = 0 then v else 0
def qMake : PSpec
  | [.v (.agg [.sym .i64 a, .sym .i64 b, .sym .i64 c, .sym .i64 d, .sym .i64 e, .sym .i64 f, .sym .i64 g, .sym .i64 h, .sym .i64 i]), .v (.agg [.sym .i64 x, .sym .i64 y, .sym .i64 z])] =>
    .ok (.tup [.agg [.sym .i64 (mkO (matE a b c d e f g h i) a), .sym .i64 (mkO (matE a b c d e f g h i) b), .sym .i64 (mkO (matE a b c d e f g h i) c), .sym .i64 (mkO (matE a b c d e f g h i) d), .sym .i64 (mkO (matE a b c d e f g h i) e), .sym .i64 (mkO (matE a b c d e f g h i) f), .sym .i64 (mkO (matE a b c d e f g h i) g), .sym .i64 (mkO (matE a b c d e f g h i) h), .sym .i64 (mkO (matE a b c d e f g h i) i), .sym .i64 (mkO (matE a b c d e f g h i) (md24 x)), .sym .i64 (mkO (matE a b c d e f g h i) (md24 y)), .sym .i64 (mkO (matE a b c d e f g h i) (md24 z))], .one (.sym .i64 (matE a b c d e f g h i))])
  | _ => .fail
theorem nfmake (a b c d e f g h i x y z : Int) (K : KV) : call P (Y4 stdOn) noAnn 10000 Tryz.f37 [.v (.agg [.sym .i64 a,.sym .i64 b,.sym .i64 c,.sym .i64 d,.sym .i64 e,.sym .i64 f,.sym .i64 g,.sym .i64 h,.sym .i64 i]), .v (.agg [.sym .i64 x,.sym .i64 y,.sym .i64 z])] [] K = (((!decide ((if over9 a b c d e f g h i=true then (4:Int) else if det9 a b c d e f g h i=1 then (0:Int) else if det9 a b c d e f g h i=(-1:Int) then (0:Int) else (3:Int))=0))=true->K (.tup [.agg [.con .i64 (0:Int),.con .i64 (0:Int),.con .i64 (0:Int),.con .i64 (0:Int),.con .i64 (0:Int),.con .i64 (0:Int),.con .i64 (0:Int),.con .i64 (0:Int),.con .i64 (0:Int),.con .i64 (0:Int),.con .i64 (0:Int),.con .i64 0],.one (.sym .i64 (if over9 a b c d e f g h i=true then (4:Int) else if det9 a b c d e f g h i=1 then (0:Int) else if det9 a b c d e f g h i=(-1:Int) then (0:Int) else (3:Int)))]) [])/\((!decide ((if over9 a b c d e f g h i=true then (4:Int) else if det9 a b c d e f g h i=1 then (0:Int) else if det9 a b c d e f g h i=(-1:Int) then (0:Int) else (3:Int))=0))=false->K (.tup [.agg [.sym .i64 a,.sym .i64 b,.sym .i64 c,.sym .i64 d,.sym .i64 e,.sym .i64 f,.sym .i64 g,.sym .i64 h,.sym .i64 i,.sym .i64 (modF (IntKind.i64.wrap (x.tmod (24:Int)+Int.tmod 0 24)) 24),.sym .i64 (modF (IntKind.i64.wrap (y.tmod (24:Int)+Int.tmod 0 24)) 24),.sym .i64 (modF (IntKind.i64.wrap (z.tmod (24:Int)+Int.tmod 0 24)) 24)],.one (.con .i64 0)]) [])) := by kernel_rfl
theorem hMake : Holds P (Y4 stdOn) 37 qMake := by
  refine holdsA (fn := Tryz.f37) noAnn 10000 rfl (by kernel_rfl) (by kernel_rfl) fun args av hg => ?_
  unfold qMake at hg
  split at hg
  · rename_i a b c d e f g h i x y z
    rw [gives_ok hg]
    refine ⟨rfl, _, rfl, ?_⟩
    rw [nfmake]
    have em : matE a b c d e f g h i = (if over9 a b c d e f g h i = true then (4 : Int) else if det9 a b c d e f g h i = (1 : Int) then (0 : Int) else if det9 a b c d e f g h i = (-1 : Int) then (0 : Int) else (3 : Int)) := rfl
    rw [← em]
    generalize matE a b c d e f g h i = m
    refine ⟨fun hm => ?_, fun hm => ?_⟩
    · have hm : ¬ m = 0 := by simpa using hm
      simp only [mkO, if_neg hm]
      exact ⟨rfl, trivial⟩
    · have hm : m = 0 := by simpa using hm
      subst hm
      simp only [mkO, if_true]
      exact ⟨rfl, trivial⟩
  · exact (gives_fail hg).elim
def Y6 (o : OnB) : Sums := (Y5 o).add 37 qMake
theorem pY6 (o : OnB) : OkS P (Y6 o) := (pY5 o).add1 fine (pY4 stdOn) hMake
end Go.AM
open Go Go.AM Go.Proofs
namespace Go.AM
open Dist
def GoodT (t : Tok) : Prop := (t.kind = 110 → digs t.text) ∧ (t.kind = 120 → t.text = [120] ∨ t.text = [121] ∨ t.text = [122])
def GoodL (l : List Tok) (op : Bool) : Prop := (∀ t ∈ l, GoodT t) ∧ (op = true → 0 < l.length ∧ (tk l (l.length - 1)).kind = 110)
theorem kindR_num {r : Int} : kindR r = 110 ↔ digR r = true := by
  unfold kindR
  constructor
  · intro h
    split at h
    · assumption
    · split at h
      · cases h
      · split at h
        · cases h
        · split at h
          · omega
          · cases h
  · intro h
    rw [if_pos h]
theorem kindR_let {r : Int} (h : kindR r = 120) : r = 120 ∨ r = 121 ∨ r = 122 := by
  unfold kindR at h
  split at h
  · cases h
  · split at h
    · assumption
    · split at h
      · cases h
      · split at h
        · omega
        · cases h
theorem dig_byte {r : Int} (h : digR r = true) : encL r = [UInt8.ofNat r.toNat] ∧ digB (UInt8.ofNat r.toNat) := by
  have hd := digR_iff.1 h
  refine ⟨enc_ascii (by omega) (by omega), ?_⟩
  unfold digB
  simp only [UInt8.toNat_ofNat']
  omega
theorem stepT_good {l : List Tok} {op : Bool} {i r : Int} (hg : GoodL l op) : GoodL (stepT l op i r).1 (stepT l op i r).2 := by
  obtain ⟨g1, g2⟩ := hg
  unfold stepT
  split
  · rename_i hd
    obtain ⟨k1, k2⟩ := g2 hd.2
    obtain ⟨e1, e2⟩ := dig_byte hd.1
    have hm := tk_mem k1
    refine ⟨fun t ht => ?_, fun _ => ?_⟩
    · simp only [addLast] at ht
      rcases List.mem_or_eq_of_mem_set ht with ht | ht
      · exact g1 t ht
      · subst ht
        refine ⟨fun _ => ?_, fun h => ?_⟩
        · have h0 := (g1 _ hm).1 k2
          refine ⟨by simp [h0.1], fun b hb => ?_⟩
          rcases List.mem_append.1 hb with hb | hb
          · exact h0.2 b hb
          · rw [e1] at hb
            simp at hb
            subst hb
            exact e2
        · simp only at h
          omega
    · simp only [addLast_len]
      refine ⟨k1, ?_⟩
      have : tk (addLast l (encL r)) (l.length - 1) = ⟨(tk l (l.length - 1)).kind, (tk l (l.length - 1)).text ++ encL r, (tk l (l.length - 1)).pos⟩ := by
        show (addLast l (encL r)).getD (l.length - 1) _ = _
        unfold addLast
        rw [List.getD_eq_getElem?_getD, List.getElem?_set_self (by omega)]
        rfl
      rw [this]
      exact k2
  · split
    · rename_i h32
      refine ⟨g1, fun h => ?_⟩
      have := digR_iff.1 h
      omega
    · refine ⟨fun t ht => ?_, fun h => ?_⟩
      · rcases List.mem_append.1 ht with ht | ht
        · exact g1 t ht
        · simp at ht
          subst ht
          refine ⟨fun h => ?_, fun h => ?_⟩
          · obtain ⟨e1, e2⟩ := dig_byte (kindR_num.1 h)
            refine ⟨by simp [e1], fun b hb => ?_⟩
            simp only [e1] at hb
            simp at hb
            subst hb
            exact e2
          · rcases kindR_let h with e | e | e <;> subst e
            · exact .inl (enc_ascii (by omega) (by omega))
            · exact .inr (.inl (enc_ascii (by omega) (by omega)))
            · exact .inr (.inr (enc_ascii (by omega) (by omega)))
      · refine ⟨by simp, ?_⟩
        have : tk (l ++ [⟨kindR r, encL r, i⟩]) ((l ++ [(⟨kindR r, encL r, i⟩ : Tok)]).length - 1) = ⟨kindR r, encL r, i⟩ := by
          unfold tk
          simp
        rw [this]
        exact kindR_num.2 h
theorem toksP_good {s : List UInt8} : ∀ (n pos : Nat) (l : List Tok) (op : Bool), GoodL l op → (∀ t ∈ toksP s n pos l op, GoodT t) ∧ (toksP s n pos l op).length ≤ l.length + n
  | 0, pos, l, op, h => ⟨h.1, Nat.le_refl _⟩
  | n + 1, pos, l, op, h => by
    unfold toksP
    split
    · have h2 := toksP_good (s := s) n (pos + (runeL s pos).2) (stepT l op pos (runeL s pos).1).1 (stepT l op pos (runeL s pos).1).2 (stepT_good h)
      refine ⟨h2.1, Nat.le_trans h2.2 ?_⟩
      have : (stepT l op (pos : Int) (runeL s pos).1).1.length ≤ l.length + 1 := by
        unfold stepT
        split
        · simp only [addLast_len]; omega
        · split
          · simp
          · simp
      omega
    · exact ⟨h.1, by omega⟩
theorem tk_good {l : List Tok} (h : ∀ t ∈ l, GoodT t) (i : Nat) : GoodT (tk l i) := by
  unfold tk
  rw [List.getD_eq_getElem?_getD]
  rcases Nat.lt_or_ge i l.length with hi | hi
  · rw [List.getElem?_eq_getElem hi]
    exact h _ (List.getElem_mem _)
  · rw [List.getElem?_eq_none hi]
    exact ⟨fun h => (by cases h), fun h => (by cases h)⟩
theorem toks_len (s : List UInt8) : 0 < (toks s).length := by simp [toks]
theorem toks_ok {s : List UInt8} (hs : s.length ≤ 65536) : TokOk (toks s) := by
  obtain ⟨h1, h2⟩ := toksP_good (s := s) (s.length + 1) 0 [] false ⟨fun t h => by simp at h, fun h => by cases h⟩
  have hg : ∀ t ∈ toks s, GoodT t := fun t ht => by
    rcases List.mem_append.1 ht with ht | ht
    · exact h1 t ht
    · simp at ht
      subst ht
      exact ⟨fun h => (by cases h), fun h => (by cases h)⟩
  refine ⟨fun i => (tk_good hg i).1, fun i => (tk_good hg i).2, ?_, ?_⟩
  · show (tk (toks s) ((toks s).length - 1)).kind = 46
    have : tk (toks s) ((toks s).length - 1) = ⟨46, [], s.length⟩ := by
      unfold tk toks
      simp
    rw [this]
  · simp only [toks, List.length_append, List.length_cons, List.length_nil] at h2 ⊢
    simp at h2
    omega
end Go.AM
open Go Go.AM Go.Proofs
namespace Go.AM
open Dist
set_option maxRecDepth 100000
structure Rd where
  a : Int
  b : Int
  c : Int
  d : Int
  e : Int
  f : Int
  g : Int
  h : Int
  i : Int
  x : Int
  y : Int
  z : Int
  at' : Int
  err : Int
def rdZ (p e : Int) : Rd := ⟨0, 0, 0, 0, 0, 0, 0, 0, 0, 0, 0, 0, p, e⟩
def rdV (r : Rd) : Value := .tuple #[.agg #[.int .i64 r.a, .int .i64 r.b, .int .i64 r.c, .int .i64 r.d, .int .i64 r.e, .int .i64 r.f, .int .i64 r.g, .int .i64 r.h, .int .i64 r.i, .int .i64 r.x, .int .i64 r.y, .int .i64 r.z], .int .i64 r.at', .int .i64 r.err]
def rdS (r : Rd) : AV := .tup [.agg [.sym .i64 r.a, .sym .i64 r.b, .sym .i64 r.c, .sym .i64 r.d, .sym .i64 r.e, .sym .i64 r.f, .sym .i64 r.g, .sym .i64 r.h, .sym .i64 r.i, .sym .i64 r.x, .sym .i64 r.y, .sym .i64 r.z], .one (.sym .i64 r.at'), .one (.sym .i64 r.err)]
def madeR (a b c d e f g h i x y z : Int) : Rd :=
  ⟨mkO (matE a b c d e f g h i) a, mkO (matE a b c d e f g h i) b, mkO (matE a b c d e f g h i) c, mkO (matE a b c d e f g h i) d, mkO (matE a b c d e f g h i) e, mkO (matE a b c d e f g h i) f, mkO (matE a b c d e f g h i) g, mkO (matE a b c d e f g h i) h, mkO (matE a b c d e f g h i) i, mkO (matE a b c d e f g h i) (md24 x), mkO (matE a b c d e f g h i) (md24 y), mkO (matE a b c d e f g h i) (md24 z), 0, matE a b c d e f g h i⟩
def rowT (ys : List Tok) (r : RR) (k : Int) (next : Rd) : Rd := if 0 ≤ r.fault then rdZ r.fault 12 else if ¬ (tk ys r.st).kind = k then rdZ (tk ys r.st).pos 12 else next
def row0 (ys : List Tok) : RR := rowF ys 0
def row1 (ys : List Tok) : RR := rowF ys (nx ys (row0 ys).st)
def row2 (ys : List Tok) : RR := rowF ys (nx ys (row1 ys).st)
def readT (ys : List Tok) : Rd := rowT ys (row0 ys) 44 (rowT ys (row1 ys) 44 (rowT ys (row2 ys) 46 (madeR (row0 ys).e0 (row0 ys).e1 (row0 ys).e2 (row1 ys).e0 (row1 ys).e1 (row1 ys).e2 (row2 ys).e0 (row2 ys).e1 (row2 ys).e2 (row0 ys).parts (row1 ys).parts (row2 ys).parts)))
def readF (s : List UInt8) : Rd := if 65536 < s.length then rdZ 0 2 else readT (toks s)
def qRead : PSpec
  | [.v (.one (.str s))] => .ok (rdS (readF s))
  | _ => .fail
theorem nfread (s : List UInt8) (K : KV) : call P (Y6 stdOn) noAnn 10000 Tryz.f22 [.v (.one (.str s))] [] K = ((decide ((65536:Int)<(↑s.length:Int))=true->K (.tup [.agg [.con .i64 (0:Int),.con .i64 (0:Int),.con .i64 (0:Int),.con .i64 (0:Int),.con .i64 (0:Int),.con .i64 (0:Int),.con .i64 (0:Int),.con .i64 (0:Int),.con .i64 (0:Int),.con .i64 (0:Int),.con .i64 (0:Int),.con .i64 0],.one (.con .i64 0),.one (.con .i64 2)]) [])/\(decide ((65536:Int)<(↑s.length:Int))=false->s.length.le 65536/\∃ (z:List tokC.τ),SameRows tokC z tokC (toks s)/\(((toks s).length=z.length-0/\(Nat.succ 0).le z.length)/\(∀ (i:Nat),(tk z i).kind=110->((tk z i).text=[]->False)/\∀ (b:UInt8),b ∈ (tk z i).text->Nat.le 48 b.toNat/\b.toNat.le 57)/\(∀ (i:Nat),(tk z i).kind=120->(tk z i).text=[(120:UInt8)]\/(tk z i).text=[(121:UInt8)]\/(tk z i).text=[(122:UInt8)])/\(tk z (z.length-1)).kind=46/\z.length.le 4611686018427387904)/\(decide ((0:Int)<=(rowF z 0).fault)=true->K (.tup [.agg [.con .i64 (0:Int),.con .i64 (0:Int),.con .i64 (0:Int),.con .i64 (0:Int),.con .i64 (0:Int),.con .i64 (0:Int),.con .i64 (0:Int),.con .i64 (0:Int),.con .i64 (0:Int),.con .i64 (0:Int),.con .i64 (0:Int),.con .i64 0],.one (.sym .i64 (rowF z 0).fault),.one (.con .i64 12)]) [])/\(decide ((0:Int)<=(rowF z 0).fault)=false->∃ (z_1:List tokC.τ),SameRows tokC z_1 tokC (toks s)/\(z.length-(rowF z 0).st=z_1.length-(rowF z 0).st/\(rowF z 0).st.succ.le z_1.length/\z_1.length.le 4611686018427387904)/\((!decide ((tk z_1 (rowF z 0).st).kind=44))=true->K (.tup [.agg [.con .i64 (0:Int),.con .i64 (0:Int),.con .i64 (0:Int),.con .i64 (0:Int),.con .i64 (0:Int),.con .i64 (0:Int),.con .i64 (0:Int),.con .i64 (0:Int),.con .i64 (0:Int),.con .i64 (0:Int),.con .i64 (0:Int),.con .i64 0],.one (.sym .i64 (tk z_1 (rowF z 0).st).pos),.one (.con .i64 12)]) [])/\((!decide ((tk z_1 (rowF z 0).st).kind=44))=false->∃ (z_2:List tokC.τ),SameRows tokC z_2 tokC (toks s)/\((z_1.length-nx z_1 (rowF z 0).st=z_2.length-nx z_1 (rowF z 0).st/\(nx z_1 (rowF z 0).st).succ.le z_2.length)/\(∀ (i:Nat),(tk z_2 i).kind=110->((tk z_2 i).text=[]->False)/\∀ (b:UInt8),b ∈ (tk z_2 i).text->Nat.le 48 b.toNat/\b.toNat.le 57)/\(∀ (i:Nat),(tk z_2 i).kind=120->(tk z_2 i).text=[(120:UInt8)]\/(tk z_2 i).text=[(121:UInt8)]\/(tk z_2 i).text=[(122:UInt8)])/\(tk z_2 (z_2.length-1)).kind=46/\z_2.length.le 4611686018427387904)/\(decide ((0:Int)<=(rowF z_2 (nx z_1 (rowF z 0).st)).fault)=true->K (.tup [.agg [.con .i64 (0:Int),.con .i64 (0:Int),.con .i64 (0:Int),.con .i64 (0:Int),.con .i64 (0:Int),.con .i64 (0:Int),.con .i64 (0:Int),.con .i64 (0:Int),.con .i64 (0:Int),.con .i64 (0:Int),.con .i64 (0:Int),.con .i64 0],.one (.sym .i64 (rowF z_2 (nx z_1 (rowF z 0).st)).fault),.one (.con .i64 12)]) [])/\(decide ((0:Int)<=(rowF z_2 (nx z_1 (rowF z 0).st)).fault)=false->∃ (z_3:List tokC.τ),SameRows tokC z_3 tokC (toks s)/\(z_2.length-(rowF z_2 (nx z_1 (rowF z 0).st)).st=z_3.length-(rowF z_2 (nx z_1 (rowF z 0).st)).st/\(rowF z_2 (nx z_1 (rowF z 0).st)).st.succ.le z_3.length/\z_3.length.le 4611686018427387904)/\((!decide ((tk z_3 (rowF z_2 (nx z_1 (rowF z 0).st)).st).kind=44))=true->K (.tup [.agg [.con .i64 (0:Int),.con .i64 (0:Int),.con .i64 (0:Int),.con .i64 (0:Int),.con .i64 (0:Int),.con .i64 (0:Int),.con .i64 (0:Int),.con .i64 (0:Int),.con .i64 (0:Int),.con .i64 (0:Int),.con .i64 (0:Int),.con .i64 0],.one (.sym .i64 (tk z_3 (rowF z_2 (nx z_1 (rowF z 0).st)).st).pos),.one (.con .i64 12)]) [])/\((!decide ((tk z_3 (rowF z_2 (nx z_1 (rowF z 0).st)).st).kind=44))=false->∃ (z_4:List tokC.τ),SameRows tokC z_4 tokC (toks s)/\((z_3.length-nx z_3 (rowF z_2 (nx z_1 (rowF z 0).st)).st=z_4.length-nx z_3 (rowF z_2 (nx z_1 (rowF z 0).st)).st/\(nx z_3 (rowF z_2 (nx z_1 (rowF z 0).st)).st).succ.le z_4.length)/\(∀ (i:Nat),(tk z_4 i).kind=110->((tk z_4 i).text=[]->False)/\∀ (b:UInt8),b ∈ (tk z_4 i).text->Nat.le 48 b.toNat/\b.toNat.le 57)/\(∀ (i:Nat),(tk z_4 i).kind=120->(tk z_4 i).text=[(120:UInt8)]\/(tk z_4 i).text=[(121:UInt8)]\/(tk z_4 i).text=[(122:UInt8)])/\(tk z_4 (z_4.length-1)).kind=46/\z_4.length.le 4611686018427387904)/\(decide ((0:Int)<=(rowF z_4 (nx z_3 (rowF z_2 (nx z_1 (rowF z 0).st)).st)).fault)=true->K (.tup [.agg [.con .i64 (0:Int),.con .i64 (0:Int),.con .i64 (0:Int),.con .i64 (0:Int),.con .i64 (0:Int),.con .i64 (0:Int),.con .i64 (0:Int),.con .i64 (0:Int),.con .i64 (0:Int),.con .i64 (0:Int),.con .i64 (0:Int),.con .i64 0],.one (.sym .i64 (rowF z_4 (nx z_3 (rowF z_2 (nx z_1 (rowF z 0).st)).st)).fault),.one (.con .i64 12)]) [])/\(decide ((0:Int)<=(rowF z_4 (nx z_3 (rowF z_2 (nx z_1 (rowF z 0).st)).st)).fault)=false->∃ (z_5:List tokC.τ),SameRows tokC z_5 tokC (toks s)/\(z_4.length-(rowF z_4 (nx z_3 (rowF z_2 (nx z_1 (rowF z 0).st)).st)).st=z_5.length-(rowF z_4 (nx z_3 (rowF z_2 (nx z_1 (rowF z 0).st)).st)).st/\(rowF z_4 (nx z_3 (rowF z_2 (nx z_1 (rowF z 0).st)).st)).st.succ.le z_5.length/\z_5.length.le 4611686018427387904)/\((!decide ((tk z_5 (rowF z_4 (nx z_3 (rowF z_2 (nx z_1 (rowF z 0).st)).st)).st).kind=46))=true->K (.tup [.agg [.con .i64 (0:Int),.con .i64 (0:Int),.con .i64 (0:Int),.con .i64 (0:Int),.con .i64 (0:Int),.con .i64 (0:Int),.con .i64 (0:Int),.con .i64 (0:Int),.con .i64 (0:Int),.con .i64 (0:Int),.con .i64 (0:Int),.con .i64 0],.one (.sym .i64 (tk z_5 (rowF z_4 (nx z_3 (rowF z_2 (nx z_1 (rowF z 0).st)).st)).st).pos),.one (.con .i64 12)]) [])/\((!decide ((tk z_5 (rowF z_4 (nx z_3 (rowF z_2 (nx z_1 (rowF z 0).st)).st)).st).kind=46))=false->K (.tup [.agg [.sym .i64 (mkO (matE (rowF z 0).e0 (rowF z 0).e1 (rowF z 0).e2 (rowF z_2 (nx z_1 (rowF z 0).st)).e0 (rowF z_2 (nx z_1 (rowF z 0).st)).e1 (rowF z_2 (nx z_1 (rowF z 0).st)).e2 (rowF z_4 (nx z_3 (rowF z_2 (nx z_1 (rowF z 0).st)).st)).e0 (rowF z_4 (nx z_3 (rowF z_2 (nx z_1 (rowF z 0).st)).st)).e1 (rowF z_4 (nx z_3 (rowF z_2 (nx z_1 (rowF z 0).st)).st)).e2) (rowF z 0).e0),.sym .i64 (mkO (matE (rowF z 0).e0 (rowF z 0).e1 (rowF z 0).e2 (rowF z_2 (nx z_1 (rowF z 0).st)).e0 (rowF z_2 (nx z_1 (rowF z 0).st)).e1 (rowF z_2 (nx z_1 (rowF z 0).st)).e2 (rowF z_4 (nx z_3 (rowF z_2 (nx z_1 (rowF z 0).st)).st)).e0 (rowF z_4 (nx z_3 (rowF z_2 (nx z_1 (rowF z 0).st)).st)).e1 (rowF z_4 (nx z_3 (rowF z_2 (nx z_1 (rowF z 0).st)).st)).e2) (rowF z 0).e1),.sym .i64 (mkO (matE (rowF z 0).e0 (rowF z 0).e1 (rowF z 0).e2 (rowF z_2 (nx z_1 (rowF z 0).st)).e0 (rowF z_2 (nx z_1 (rowF z 0).st)).e1 (rowF z_2 (nx z_1 (rowF z 0).st)).e2 (rowF z_4 (nx z_3 (rowF z_2 (nx z_1 (rowF z 0).st)).st)).e0 (rowF z_4 (nx z_3 (rowF z_2 (nx z_1 (rowF z 0).st)).st)).e1 (rowF z_4 (nx z_3 (rowF z_2 (nx z_1 (rowF z 0).st)).st)).e2) (rowF z 0).e2),.sym .i64 (mkO (matE (rowF z 0).e0 (rowF z 0).e1 (rowF z 0).e2 (rowF z_2 (nx z_1 (rowF z 0).st)).e0 (rowF z_2 (nx z_1 (rowF z 0).st)).e1 (rowF z_2 (nx z_1 (rowF z 0).st)).e2 (rowF z_4 (nx z_3 (rowF z_2 (nx z_1 (rowF z 0).st)).st)).e0 (rowF z_4 (nx z_3 (rowF z_2 (nx z_1 (rowF z 0).st)).st)).e1 (rowF z_4 (nx z_3 (rowF z_2 (nx z_1 (rowF z 0).st)).st)).e2) (rowF z_2 (nx z_1 (rowF z 0).st)).e0),.sym .i64 (mkO (matE (rowF z 0).e0 (rowF z 0).e1 (rowF z 0).e2 (rowF z_2 (nx z_1 (rowF z 0).st)).e0 (rowF z_2 (nx z_1 (rowF z 0).st)).e1 (rowF z_2 (nx z_1 (rowF z 0).st)).e2 (rowF z_4 (nx z_3 (rowF z_2 (nx z_1 (rowF z 0).st)).st)).e0 (rowF z_4 (nx z_3 (rowF z_2 (nx z_1 (rowF z 0).st)).st)).e1 (rowF z_4 (nx z_3 (rowF z_2 (nx z_1 (rowF z 0).st)).st)).e2) (rowF z_2 (nx z_1 (rowF z 0).st)).e1),.sym .i64 (mkO (matE (rowF z 0).e0 (rowF z 0).e1 (rowF z 0).e2 (rowF z_2 (nx z_1 (rowF z 0).st)).e0 (rowF z_2 (nx z_1 (rowF z 0).st)).e1 (rowF z_2 (nx z_1 (rowF z 0).st)).e2 (rowF z_4 (nx z_3 (rowF z_2 (nx z_1 (rowF z 0).st)).st)).e0 (rowF z_4 (nx z_3 (rowF z_2 (nx z_1 (rowF z 0).st)).st)).e1 (rowF z_4 (nx z_3 (rowF z_2 (nx z_1 (rowF z 0).st)).st)).e2) (rowF z_2 (nx z_1 (rowF z 0).st)).e2),.sym .i64 (mkO (matE (rowF z 0).e0 (rowF z 0).e1 (rowF z 0).e2 (rowF z_2 (nx z_1 (rowF z 0).st)).e0 (rowF z_2 (nx z_1 (rowF z 0).st)).e1 (rowF z_2 (nx z_1 (rowF z 0).st)).e2 (rowF z_4 (nx z_3 (rowF z_2 (nx z_1 (rowF z 0).st)).st)).e0 (rowF z_4 (nx z_3 (rowF z_2 (nx z_1 (rowF z 0).st)).st)).e1 (rowF z_4 (nx z_3 (rowF z_2 (nx z_1 (rowF z 0).st)).st)).e2) (rowF z_4 (nx z_3 (rowF z_2 (nx z_1 (rowF z 0).st)).st)).e0),.sym .i64 (mkO (matE (rowF z 0).e0 (rowF z 0).e1 (rowF z 0).e2 (rowF z_2 (nx z_1 (rowF z 0).st)).e0 (rowF z_2 (nx z_1 (rowF z 0).st)).e1 (rowF z_2 (nx z_1 (rowF z 0).st)).e2 (rowF z_4 (nx z_3 (rowF z_2 (nx z_1 (rowF z 0).st)).st)).e0 (rowF z_4 (nx z_3 (rowF z_2 (nx z_1 (rowF z 0).st)).st)).e1 (rowF z_4 (nx z_3 (rowF z_2 (nx z_1 (rowF z 0).st)).st)).e2) (rowF z_4 (nx z_3 (rowF z_2 (nx z_1 (rowF z 0).st)).st)).e1),.sym .i64 (mkO (matE (rowF z 0).e0 (rowF z 0).e1 (rowF z 0).e2 (rowF z_2 (nx z_1 (rowF z 0).st)).e0 (rowF z_2 (nx z_1 (rowF z 0).st)).e1 (rowF z_2 (nx z_1 (rowF z 0).st)).e2 (rowF z_4 (nx z_3 (rowF z_2 (nx z_1 (rowF z 0).st)).st)).e0 (rowF z_4 (nx z_3 (rowF z_2 (nx z_1 (rowF z 0).st)).st)).e1 (rowF z_4 (nx z_3 (rowF z_2 (nx z_1 (rowF z 0).st)).st)).e2) (rowF z_4 (nx z_3 (rowF z_2 (nx z_1 (rowF z 0).st)).st)).e2),.sym .i64 (mkO (matE (rowF z 0).e0 (rowF z 0).e1 (rowF z 0).e2 (rowF z_2 (nx z_1 (rowF z 0).st)).e0 (rowF z_2 (nx z_1 (rowF z 0).st)).e1 (rowF z_2 (nx z_1 (rowF z 0).st)).e2 (rowF z_4 (nx z_3 (rowF z_2 (nx z_1 (rowF z 0).st)).st)).e0 (rowF z_4 (nx z_3 (rowF z_2 (nx z_1 (rowF z 0).st)).st)).e1 (rowF z_4 (nx z_3 (rowF z_2 (nx z_1 (rowF z 0).st)).st)).e2) (md24 (rowF z 0).parts)),.sym .i64 (mkO (matE (rowF z 0).e0 (rowF z 0).e1 (rowF z 0).e2 (rowF z_2 (nx z_1 (rowF z 0).st)).e0 (rowF z_2 (nx z_1 (rowF z 0).st)).e1 (rowF z_2 (nx z_1 (rowF z 0).st)).e2 (rowF z_4 (nx z_3 (rowF z_2 (nx z_1 (rowF z 0).st)).st)).e0 (rowF z_4 (nx z_3 (rowF z_2 (nx z_1 (rowF z 0).st)).st)).e1 (rowF z_4 (nx z_3 (rowF z_2 (nx z_1 (rowF z 0).st)).st)).e2) (md24 (rowF z_2 (nx z_1 (rowF z 0).st)).parts)),.sym .i64 (mkO (matE (rowF z 0).e0 (rowF z 0).e1 (rowF z 0).e2 (rowF z_2 (nx z_1 (rowF z 0).st)).e0 (rowF z_2 (nx z_1 (rowF z 0).st)).e1 (rowF z_2 (nx z_1 (rowF z 0).st)).e2 (rowF z_4 (nx z_3 (rowF z_2 (nx z_1 (rowF z 0).st)).st)).e0 (rowF z_4 (nx z_3 (rowF z_2 (nx z_1 (rowF z 0).st)).st)).e1 (rowF z_4 (nx z_3 (rowF z_2 (nx z_1 (rowF z 0).st)).st)).e2) (md24 (rowF z_4 (nx z_3 (rowF z_2 (nx z_1 (rowF z 0).st)).st)).parts))],.one (.con .i64 0),.one (.sym .i64 (matE (rowF z 0).e0 (rowF z 0).e1 (rowF z 0).e2 (rowF z_2 (nx z_1 (rowF z 0).st)).e0 (rowF z_2 (nx z_1 (rowF z 0).st)).e1 (rowF z_2 (nx z_1 (rowF z 0).st)).e2 (rowF z_4 (nx z_3 (rowF z_2 (nx z_1 (rowF z 0).st)).st)).e0 (rowF z_4 (nx z_3 (rowF z_2 (nx z_1 (rowF z 0).st)).st)).e1 (rowF z_4 (nx z_3 (rowF z_2 (nx z_1 (rowF z 0).st)).st)).e2))]) [])))))))) := by kernel_rfl
theorem letP_lt {ys : List Tok} {x : RS} {sk : Int} {q : Nat} (hq : q < ys.length) : match letP ys x sk q with | .inl y => y.st < ys.length | .inr r => r.st < ys.length := by
  have h := nx_lt hq
  unfold letP
  by_cases c0 : (tk ys q).text = [120]
  · rw [if_pos c0]
    by_cases d : x.s0 = true
    · rw [if_pos d]; exact h
    · rw [if_neg d]; exact h
  · rw [if_neg c0]
    by_cases c1 : (tk ys q).text = [121]
    · rw [if_pos c1]
      by_cases d : x.s1 = true
      · rw [if_pos d]; exact h
      · rw [if_neg d]; exact h
    · rw [if_neg c1]
      by_cases d : x.s2 = true
      · rw [if_pos d]; exact h
      · rw [if_neg d]; exact h
theorem stepR_lt {ys : List Tok} {x : RS} (hs : x.st < ys.length) : match stepR ys x with | .inl y => y.st < ys.length | .inr r => r.st < ys.length := by
  have k0 := (sgN_lt hs).1
  have k1 := nx_lt k0
  have k2 := frS_lt k0 x.again
  by_cases c1 : x.first = false ∧ sgB ys x.st = false
  · rw [stepR, if_pos c1]; exact k0
  · rw [stepR, if_neg c1]
    by_cases c2 : (tk ys (sgN ys x.st)).kind = 110 ∧ (tk ys (nx ys (sgN ys x.st))).kind = 120
    · rw [if_pos c2]
      by_cases c3 : numV (tk ys (sgN ys x.st)).text 1000 < 1
      · rw [if_pos c3]; exact k1
      · rw [if_neg c3]; exact letP_lt k1
    · rw [if_neg c2]
      by_cases c4 : (tk ys (sgN ys x.st)).kind = 120
      · rw [if_pos c4]; exact letP_lt k0
      · rw [if_neg c4]
        by_cases c5 : (tk ys (sgN ys x.st)).kind = 110
        · rw [if_pos c5]
          by_cases c7 : 0 ≤ (frS ys (sgN ys x.st) x.again).2.1
          · rw [if_pos c7]; exact k2
          · rw [if_neg c7]; exact k2
        · rw [if_neg c5]; exact k0
theorem rowR_lt {ys : List Tok} : ∀ (n : Nat) (x : RS), x.st < ys.length → (rowR ys n x).st < ys.length
  | 0, x, h => h
  | n + 1, x, h => by
    have hs := stepR_lt h
    unfold rowR
    split
    · rename_i r he
      rw [he] at hs
      exact hs
    · rename_i y he
      rw [he] at hs
      exact rowR_lt n y hs
theorem rowF_lt {ys : List Tok} {st : Nat} (h : st < ys.length) : (rowF ys st).st < ys.length := rowR_lt _ _ h
theorem hRead : Holds P (Y6 stdOn) 22 qRead := by
  refine holdsA (fn := Tryz.f22) noAnn 10000 rfl (by kernel_rfl) (by kernel_rfl) fun args av hg => ?_
  unfold qRead at hg
  split at hg
  · rename_i s
    rw [gives_ok hg]
    refine ⟨rfl, rdV (readF s), rfl, ?_⟩
    rw [nfread]
    refine ⟨fun hl => ?_, fun hl => ?_⟩
    · rw [show readF s = rdZ 0 2 from if_pos (by have := of_decide_eq_true hl; omega)]
      exact ⟨rfl, rfl⟩
    · have hs : s.length ≤ 65536 := by have := of_decide_eq_false hl; omega
      have e : readF s = readT (toks s) := if_neg (by omega)
      rw [e]
      have hok := toks_ok hs
      have h0 := toks_len s
      generalize toks s = ys at *
      have k0 : (row0 ys).st < ys.length := rowF_lt h0
      have k1 := nx_lt k0
      have k2 : (row1 ys).st < ys.length := rowF_lt k1
      have k3 := nx_lt k2
      have k4 : (row2 ys).st < ys.length := rowF_lt k3
      have hb := hok.2.2.2
      refine ⟨hs, ys, sameT (C := tokC) ys, ⟨⟨rfl, h0⟩, hok⟩, fun f0 => ?_, fun f0 => ⟨ys, sameT (C := tokC) ys, ⟨rfl, k0, hb⟩, fun c0 => ?_, fun c0 => ⟨ys, sameT (C := tokC) ys, ⟨⟨rfl, k1⟩, hok⟩, fun f1 => ?_, fun f1 => ⟨ys, sameT (C := tokC) ys, ⟨rfl, k2, hb⟩, fun c1 => ?_, fun c1 => ⟨ys, sameT (C := tokC) ys, ⟨⟨rfl, k3⟩, hok⟩, fun f2 => ?_, fun f2 => ⟨ys, sameT (C := tokC) ys, ⟨rfl, k4, hb⟩, fun c2 => ?_, fun c2 => ?_⟩⟩⟩⟩⟩⟩
      · rw [show readT ys = rdZ (row0 ys).fault 12 from if_pos (of_decide_eq_true f0)]
        exact ⟨rfl, rfl⟩
      · rw [show readT ys = rdZ (tk ys (row0 ys).st).pos 12 from (if_neg (of_decide_eq_false f0)).trans (if_pos (by simpa [row0] using c0))]
        exact ⟨rfl, rfl⟩
      · rw [show readT ys = rdZ (row1 ys).fault 12 from (if_neg (of_decide_eq_false f0)).trans ((if_neg (by simpa [row0] using c0)).trans (if_pos (of_decide_eq_true f1)))]
        exact ⟨rfl, rfl⟩
      · rw [show readT ys = rdZ (tk ys (row1 ys).st).pos 12 from (if_neg (of_decide_eq_false f0)).trans ((if_neg (by simpa [row0] using c0)).trans ((if_neg (of_decide_eq_false f1)).trans (if_pos (by simpa [row1, row0] using c1))))]
        exact ⟨rfl, rfl⟩
      · rw [show readT ys = rdZ (row2 ys).fault 12 from (if_neg (of_decide_eq_false f0)).trans ((if_neg (by simpa [row0] using c0)).trans ((if_neg (of_decide_eq_false f1)).trans ((if_neg (by simpa [row1, row0] using c1)).trans (if_pos (of_decide_eq_true f2)))))]
        exact ⟨rfl, rfl⟩
      · rw [show readT ys = rdZ (tk ys (row2 ys).st).pos 12 from (if_neg (of_decide_eq_false f0)).trans ((if_neg (by simpa [row0] using c0)).trans ((if_neg (of_decide_eq_false f1)).trans ((if_neg (by simpa [row1, row0] using c1)).trans ((if_neg (of_decide_eq_false f2)).trans (if_pos (by simpa [row2, row1, row0] using c2))))))]
        exact ⟨rfl, rfl⟩
      · rw [show readT ys = madeR (row0 ys).e0 (row0 ys).e1 (row0 ys).e2 (row1 ys).e0 (row1 ys).e1 (row1 ys).e2 (row2 ys).e0 (row2 ys).e1 (row2 ys).e2 (row0 ys).parts (row1 ys).parts (row2 ys).parts from (if_neg (of_decide_eq_false f0)).trans ((if_neg (by simpa [row0] using c0)).trans ((if_neg (of_decide_eq_false f1)).trans ((if_neg (by simpa [row1, row0] using c1)).trans ((if_neg (of_decide_eq_false f2)).trans (if_neg (by simpa [row2, row1, row0] using c2))))))]
        exact ⟨rfl, rfl⟩
  · exact (gives_fail hg).elim
end Go.AM
