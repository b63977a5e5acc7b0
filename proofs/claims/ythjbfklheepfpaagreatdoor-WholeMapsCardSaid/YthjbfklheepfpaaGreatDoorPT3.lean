import Derived.Test.YthjbfklheepfpaaGreatDoorPC
set_option linter.unusedVariables false
set_option linter.unusedSimpArgs false
set_option maxHeartbeats 4000000
open Go Go.AM Go.Proofs
namespace Go.AM
open Dist
theorem decFrom_app : ∀ (l : List UInt8) (acc : Nat) (b : UInt8), Lib.decFrom acc (l ++ [b]) = (Lib.decFrom acc l).bind fun n => (Lib.digitVal b).map fun d => n * 10 + d
  | [], acc, b => by
    show Lib.decFrom acc [b] = _
    unfold Lib.decFrom
    cases Lib.digitVal b <;> rfl
  | a :: l, acc, b => by
    show Lib.decFrom acc (a :: (l ++ [b])) = _
    unfold Lib.decFrom
    cases Lib.digitVal a with
    | none => rfl
    | some d => exact decFrom_app l _ b
theorem dig_of (d : Nat) (h : d < 10) : digB (UInt8.ofNat (48 + d)) ∧ Lib.digitVal (UInt8.ofNat (48 + d)) = some d := by
  have e : (UInt8.ofNat (48 + d)).toNat = 48 + d := by simp only [UInt8.toNat_ofNat']; omega
  constructor
  · unfold digB; omega
  · unfold Lib.digitVal; rw [e, if_pos (by omega)]; congr 1; omega
theorem dec_facts : ∀ (u : Nat), digs (Lib.decDigits u) ∧ Lib.decFrom 0 (Lib.decDigits u) = some u ∧ (1 ≤ u → (Lib.decDigits u).getD 0 0 ≠ 48) ∧ (∀ k, u < 10 ^ (k + 1) → (Lib.decDigits u).length ≤ k + 1) ∧ (u < 10 → (Lib.decDigits u).length = 1) := by
  intro u
  induction u using Nat.strongRecOn with
  | ind u ih =>
    rw [Lib.decDigits]
    split
    · rename_i h
      obtain ⟨g1, g2⟩ := dig_of u h
      refine ⟨⟨by simp, fun b hb => by rw [List.mem_singleton.1 hb]; exact g1⟩, ?_, fun h1 => ?_, fun k _ => by simp, fun _ => by simp⟩
      · unfold Lib.decFrom; rw [g2]; simp [Lib.decFrom]
      · have e : (UInt8.ofNat (48 + u)).toNat = 48 + u := by simp only [UInt8.toNat_ofNat']; omega
        intro e2
        have e2 : UInt8.ofNat (48 + u) = 48 := e2
        rw [e2] at e
        have : (48 : UInt8).toNat = 48 := rfl
        omega
    · rename_i h
      obtain ⟨i1, i2, i3, i4, _⟩ := ih (u / 10) (by omega)
      obtain ⟨g1, g2⟩ := dig_of (u % 10) (by omega)
      refine ⟨⟨by simp, fun b hb => ?_⟩, ?_, fun h1 => ?_, fun k hk => ?_, fun h2 => absurd h2 h⟩
      · rcases List.mem_append.1 hb with hb | hb
        · exact i1.2 b hb
        · rw [List.mem_singleton.1 hb]; exact g1
      · rw [decFrom_app, i2, g2]
        simp
        omega
      · have h3 := i3 (by omega)
        have hl : 0 < (Lib.decDigits (u / 10)).length := List.length_pos_iff.2 i1.1
        rw [List.getD_eq_getElem?_getD, List.getElem?_append_left hl]
        rwa [List.getD_eq_getElem?_getD] at h3
      · rw [List.length_append]
        cases k with
        | zero => simp at hk; omega
        | succ k =>
          have hk' : u / 10 < 10 ^ (k + 1) := by
            rw [Nat.pow_succ] at hk
            omega
          have := i4 k hk'
          simp
          omega
theorem atoi_digs {s : List UInt8} {u : Nat} (h : digs s) (hd : Lib.decFrom 0 s = some u) : Lib.atoi s = some (u : Int) := by
  obtain ⟨h1, h2⟩ := h
  cases s with
  | nil => exact absurd rfl h1
  | cons b r =>
    have hb := h2 b (by simp)
    unfold digB at hb
    unfold Lib.atoi
    have e1 : ¬ (b == 45) = true := fun e => by
      have := congrArg UInt8.toNat (eq_of_beq e)
      simp at this
      omega
    have e2 : ¬ (b == 43) = true := fun e => by
      have := congrArg UInt8.toNat (eq_of_beq e)
      simp at this
      omega
    simp only [e1, e2]
    unfold Lib.decNat
    simp only [List.isEmpty_cons, hd]
    rfl
theorem itoa_digs (n : Int) (h : 0 ≤ n) : digs (Lib.itoa n) := by
  unfold Lib.itoa
  rw [if_neg (by omega)]
  exact (dec_facts _).1
theorem numV_itoa {n most : Int} (h0 : 0 ≤ n) (h1 : n ≤ most) (h2 : n < 10000) : numV (Lib.itoa n) most = n := by
  have ha : Lib.atoi (Lib.itoa n) = some n := by
    have h := dec_facts n.toNat
    unfold Lib.itoa
    rw [if_neg (by omega), atoi_digs h.1 h.2.1]
    congr 1
    omega
  have h := dec_facts n.toNat
  have hl : (Lib.itoa n).length ≤ 4 := by
    unfold Lib.itoa
    rw [if_neg (by omega)]
    exact h.2.2.2.1 3 (by omega)
  have hz : ¬ (1 < (Lib.itoa n).length ∧ (Lib.itoa n).getD 0 0 = 48) := by
    unfold Lib.itoa
    rw [if_neg (by omega)]
    rintro ⟨g1, g2⟩
    rcases Nat.lt_or_ge n.toNat 10 with h9 | h9
    · have := h.2.2.2.2 h9
      omega
    · exact h.2.2.1 (by omega) g2
  unfold numV
  rw [if_neg (by omega), if_neg hz, ha, if_neg (by simp only [Option.getD_some]; omega)]
  rfl
def asc (s : List UInt8) : Prop := ∀ b ∈ s, b.toNat < 128
def lexP : List UInt8 → Nat → List Tok → Bool → List Tok
  | [], _, l, _ => l
  | b :: u, pos, l, op => lexP u (pos + 1) (stepT l op pos b.toNat).1 (stepT l op pos b.toNat).2
theorem runeL_asc {s : List UInt8} {pos : Nat} (h : pos < s.length) (ha : asc s) : runeL s pos = ((s[pos]).toNat, 1) := by
  have hs : pos < (ByteArray.mk s.toArray).size := by simpa [ByteArray.size] using h
  have e : (ByteArray.mk s.toArray)[pos]'hs = s[pos] := rfl
  show Utf8.decode ⟨s.toArray⟩ pos = _
  rw [decode_ascii _ _ hs (by rw [e]; exact ha _ (List.getElem_mem h)), e]
theorem lex_toks {s : List UInt8} (ha : asc s) : ∀ (u : List UInt8) (n pos : Nat) (l : List Tok) (op : Bool), s.drop pos = u → u.length < n → toksP s n pos l op = lexP u pos l op
  | _, 0, _, _, _, _, hn => by omega
  | [], n + 1, pos, l, op, hu, _ => by
    have : s.length ≤ pos := by simpa using hu
    unfold toksP
    rw [if_neg (by omega)]
    rfl
  | b :: u, n + 1, pos, l, op, hu, hn => by
    have hp : pos < s.length := by
      rcases Nat.lt_or_ge pos s.length with h | h
      · exact h
      · rw [List.drop_eq_nil_of_le h] at hu; cases hu
    rw [List.drop_eq_getElem_cons hp] at hu
    injection hu with hb hu
    unfold toksP
    rw [if_pos hp, runeL_asc hp ha, hb]
    exact lex_toks ha u n (pos + 1) _ _ hu (by simp at hn; omega)
def symB (b : UInt8) : Prop := b = 120 ∨ b = 121 ∨ b = 122 ∨ b = 43 ∨ b = 45 ∨ b = 44 ∨ b = 47
def wordOk (w : List UInt8) : Prop := digs w ∨ ∃ b, symB b ∧ w = [b]
def wk (w : List UInt8) : Int := kindR (w.getD 0 0).toNat
def isDig (w : List UInt8) : Bool := digR (w.getD 0 0).toNat
def alt : Bool → List (List UInt8) → Prop
  | _, [] => True
  | op, w :: l => (op = true → isDig w = false) ∧ alt (isDig w) l
def bl (n : Nat) : List UInt8 := List.replicate n 32
def flat (n : Nat) : List (List UInt8) → List UInt8
  | [] => bl n
  | w :: l => bl n ++ (w ++ flat n l)
def says : List Tok → List (List UInt8) → Prop
  | [], [] => True
  | t :: ts, w :: l => t.kind = wk w ∧ t.text = w ∧ says ts l
  | _, _ => False
theorem lex_bl : ∀ (n : Nat) (u : List UInt8) (pos : Nat) (l : List Tok) (op : Bool), ∃ op', (n = 0 → op' = op) ∧ (1 ≤ n → op' = false) ∧ lexP (bl n ++ u) pos l op = lexP u (pos + n) l op'
  | 0, u, pos, l, op => ⟨op, fun _ => rfl, fun h => by omega, rfl⟩
  | n + 1, u, pos, l, op => by
    obtain ⟨op', h1, h2, h3⟩ := lex_bl n u (pos + 1) l false
    refine ⟨op', fun h => by omega, fun _ => ?_, ?_⟩
    · rcases Nat.eq_zero_or_pos n with h | h
      · exact h1 h
      · exact h2 h
    · have : bl (n + 1) ++ u = 32 :: (bl n ++ u) := by simp [bl, List.replicate_succ]
      rw [this]
      show lexP (bl n ++ u) (pos + 1) (stepT l op pos (32 : UInt8).toNat).1 (stepT l op pos (32 : UInt8).toNat).2 = _
      have e : stepT l op pos ((32 : UInt8).toNat : Int) = (l, false) := by
        unfold stepT
        rw [if_neg (by rintro ⟨h, _⟩; exact absurd (digR_iff.1 h) (by decide)), if_pos (by decide)]
        rfl
      rw [e, h3]
      congr 1
      omega
theorem digR_b {b : UInt8} (h : digB b) : digR b.toNat = true := by unfold digB at h; exact digR_iff.2 (by omega)
theorem enc_b {b : UInt8} (h : b.toNat < 128) : encL b.toNat = [b] := by
  rw [enc_ascii (by omega) (by omega)]
  simp
theorem lex_digs : ∀ (ds u : List UInt8) (pos : Nat) (l : List Tok) (t : List UInt8) (p : Int), (∀ b ∈ ds, digB b) → lexP (ds ++ u) pos (l ++ [⟨110, t, p⟩]) true = lexP u (pos + ds.length) (l ++ [⟨110, t ++ ds, p⟩]) true
  | [], u, pos, l, t, p, _ => by simp
  | b :: ds, u, pos, l, t, p, h => by
    have hb := h b (by simp)
    show lexP (ds ++ u) (pos + 1) (stepT (l ++ [⟨110, t, p⟩]) true pos b.toNat).1 (stepT (l ++ [⟨110, t, p⟩]) true pos b.toNat).2 = _
    have e : stepT (l ++ [(⟨110, t, p⟩ : Tok)]) true pos (b.toNat : Int) = (l ++ [⟨110, t ++ [b], p⟩], true) := by
      unfold stepT
      rw [if_pos ⟨digR_b hb, rfl⟩, enc_b (by unfold digB at hb; omega)]
      unfold addLast tk
      simp
    rw [e, lex_digs ds u (pos + 1) l (t ++ [b]) p (fun c hc => h c (by simp [hc]))]
    simp [Nat.add_comm, Nat.add_left_comm]
theorem lex_word {w : List UInt8} (h : wordOk w) (u : List UInt8) (pos : Nat) (l : List Tok) (op : Bool) (ho : op = true → isDig w = false) :
    lexP (w ++ u) pos l op = lexP u (pos + w.length) (l ++ [⟨wk w, w, pos⟩]) (isDig w) := by
  rcases h with h | ⟨b, hb, rfl⟩
  · obtain ⟨h1, h2⟩ := h
    cases w with
    | nil => exact absurd rfl h1
    | cons b ds =>
      have hb := h2 b (by simp)
      have hi : isDig (b :: ds) = true := digR_b hb
      have hop : op = false := by
        cases op with
        | true => rw [ho rfl] at hi; cases hi
        | false => rfl
      subst hop
      have hk : wk (b :: ds) = 110 := by show kindR b.toNat = 110; unfold kindR; rw [if_pos (digR_b hb)]
      show lexP (ds ++ u) (pos + 1) (stepT l false pos b.toNat).1 (stepT l false pos b.toNat).2 = _
      have e : stepT l false pos (b.toNat : Int) = (l ++ [⟨110, [b], pos⟩], true) := by
        unfold stepT
        rw [if_neg (by simp), if_neg (by unfold digB at hb; omega), enc_b (by unfold digB at hb; omega), digR_b hb]
        unfold kindR
        rw [if_pos (digR_b hb)]
      rw [e, lex_digs ds u (pos + 1) l [b] pos (fun c hc => h2 c (by simp [hc])), hi, hk]
      simp [Nat.add_comm, Nat.add_left_comm]
  · have hd : digR b.toNat = false := by
      rcases hb with e | e | e | e | e | e | e <;> subst e <;> rfl
    show lexP u (pos + 1) (stepT l op pos b.toNat).1 (stepT l op pos b.toNat).2 = _
    have e : stepT l op pos (b.toNat : Int) = (l ++ [⟨kindR b.toNat, [b], pos⟩], false) := by
      unfold stepT
      rw [if_neg (by rw [hd]; simp), if_neg (by rcases hb with e | e | e | e | e | e | e <;> subst e <;> decide), enc_b (by rcases hb with e | e | e | e | e | e | e <;> subst e <;> decide), hd]
    rw [e]
    show _ = lexP u (pos + 1) (l ++ [⟨kindR b.toNat, [b], pos⟩]) (digR b.toNat)
    rw [hd]
theorem lex_flat (n : Nat) : ∀ (ws : List (List UInt8)) (pos : Nat) (l : List Tok) (op : Bool), (∀ w ∈ ws, wordOk w) → alt op ws → ∃ ts, says ts ws ∧ lexP (flat n ws) pos l op = l ++ ts
  | [], pos, l, op, _, _ => by
    obtain ⟨op', _, _, h⟩ := lex_bl n [] pos l op
    rw [List.append_nil] at h
    exact ⟨[], trivial, by rw [show flat n [] = bl n from rfl, h]; simp [lexP]⟩
  | w :: ws, pos, l, op, hw, ha => by
    obtain ⟨op', h1, h2, h⟩ := lex_bl n (w ++ flat n ws) pos l op
    have ho : op' = true → isDig w = false := fun e => by
      rcases Nat.eq_zero_or_pos n with hn | hn
      · exact ha.1 (by rw [← h1 hn]; exact e)
      · rw [h2 hn] at e; cases e
    obtain ⟨ts, g1, g2⟩ := lex_flat n ws (pos + n + w.length) (l ++ [⟨wk w, w, ((pos + n : Nat) : Int)⟩]) (isDig w) (fun v hv => hw v (by simp [hv])) ha.2
    refine ⟨⟨wk w, w, ((pos + n : Nat) : Int)⟩ :: ts, ⟨rfl, rfl, g1⟩, ?_⟩
    rw [show flat n (w :: ws) = bl n ++ (w ++ flat n ws) from rfl, h, lex_word (hw w (by simp)) _ _ _ _ ho, g2]
    simp
theorem word_asc {w : List UInt8} (h : wordOk w) : asc w := by
  rcases h with h | ⟨b, hb, rfl⟩
  · intro b hb
    have := h.2 b hb
    unfold digB at this
    omega
  · intro c hc
    simp at hc
    subst hc
    rcases hb with e | e | e | e | e | e | e <;> subst e <;> decide
theorem flat_asc (n : Nat) : ∀ {ws : List (List UInt8)}, (∀ w ∈ ws, wordOk w) → asc (flat n ws)
  | [], _ => fun b hb => by
    have : b ∈ bl n := hb
    unfold bl at this
    rw [(List.mem_replicate.1 this).2]
    decide
  | w :: ws, h => fun b hb => by
    rcases List.mem_append.1 (show b ∈ bl n ++ (w ++ flat n ws) from hb) with hb | hb
    · unfold bl at hb
      rw [(List.mem_replicate.1 hb).2]
      decide
    · rcases List.mem_append.1 hb with hb | hb
      · exact word_asc (h w (by simp)) b hb
      · exact flat_asc n (fun v hv => h v (by simp [hv])) b hb
theorem toks_flat {n : Nat} {ws : List (List UInt8)} (hw : ∀ w ∈ ws, wordOk w) (ha : alt false ws) : ∃ ts, says ts ws ∧ toks (flat n ws) = ts ++ [⟨46, [], (flat n ws).length⟩] := by
  obtain ⟨ts, h1, h2⟩ := lex_flat n ws 0 [] false hw ha
  refine ⟨ts, h1, ?_⟩
  unfold toks
  rw [lex_toks (flat_asc n hw) (flat n ws) _ 0 [] false rfl (Nat.lt_succ_self _), h2]
  rfl
end Go.AM
open Go Go.AM Go.Proofs
namespace Go.AM
open Dist
set_option maxRecDepth 100000
def saysAt (ys : List Tok) : Nat → List (List UInt8) → Prop
  | _, [] => True
  | i, w :: l => (tk ys i).kind = wk w ∧ (tk ys i).text = w ∧ i + 1 < ys.length ∧ saysAt ys (i + 1) l
theorem saysAt_app {ys : List Tok} : ∀ {a b : List (List UInt8)} {i : Nat}, saysAt ys i (a ++ b) → saysAt ys i a ∧ saysAt ys (i + a.length) b
  | [], b, i, h => ⟨trivial, h⟩
  | w :: a, b, i, h => by
    obtain ⟨h1, h2, h3, h4⟩ := h
    obtain ⟨g1, g2⟩ := saysAt_app h4
    refine ⟨⟨h1, h2, h3, g1⟩, ?_⟩
    rw [List.length_cons, show i + (a.length + 1) = i + 1 + a.length by omega]
    exact g2
theorem says_at {e : Tok} : ∀ {ts : List Tok} {ws : List (List UInt8)} {pre : List Tok}, says ts ws → saysAt (pre ++ (ts ++ [e])) pre.length ws
  | [], [], _, _ => trivial
  | t :: ts, w :: ws, pre, h => by
    obtain ⟨h1, h2, h3⟩ := h
    have et : tk (pre ++ (t :: ts ++ [e])) pre.length = t := by unfold tk; simp [List.getD_eq_getElem?_getD]
    refine ⟨by rw [et]; exact h1, by rw [et]; exact h2, by simp, ?_⟩
    have := says_at (e := e) (pre := pre ++ [t]) h3
    simp only [List.append_assoc, List.length_append, List.length_cons, List.length_nil] at this
    simpa using this
  | [], _ :: _, _, h => h.elim
  | _ :: _, [], _, h => h.elim
theorem nx_at {ys : List Tok} {i : Nat} (h : i + 1 < ys.length) : nx ys i = i + 1 := if_pos h
inductive Sg
  | no
  | plus
  | minus
def Sg.w : Sg → List (List UInt8)
  | .no => []
  | .plus => [[43]]
  | .minus => [[45]]
def Sg.v : Sg → Int
  | .minus => -1
  | _ => 1
inductive Trm
  | lt (s : Sg) (k : Option Int) (l : UInt8)
  | fr (s : Sg) (n : Int) (d : Option Int)
def numW : Option Int → List (List UInt8)
  | none => []
  | some n => [Lib.itoa n]
def denW : Option Int → List (List UInt8)
  | none => []
  | some n => [[47], Lib.itoa n]
def Trm.sg : Trm → Sg
  | .lt s _ _ => s
  | .fr s _ _ => s
def Trm.w : Trm → List (List UInt8)
  | .lt s k l => s.w ++ (numW k ++ [[l]])
  | .fr s n d => s.w ++ (Lib.itoa n :: denW d)
def Trm.ok (x : RS) : Trm → Prop
  | .lt s k l => (x.first = true ∨ s ≠ .no) ∧ (∀ n, k = some n → 1 ≤ n ∧ n ≤ 1000) ∧ ((l = 120 ∧ x.s0 = false) ∨ (l = 121 ∧ x.s1 = false) ∨ (l = 122 ∧ x.s2 = false))
  | .fr s n d => (x.first = true ∨ s ≠ .no) ∧ 0 ≤ n ∧ n ≤ 999 ∧ x.again = false ∧ (∀ m, d = some m → 1 ≤ m ∧ m ≤ 999 ∧ (24 * n).tmod m = 0)
def RS.app (x : RS) : Trm → RS
  | .lt s k l => if l = 120 then ⟨x.st + (Trm.lt s k l).w.length, s.v * k.getD 1, x.e1, x.e2, x.parts, true, x.s1, x.s2, x.again, false⟩
    else if l = 121 then ⟨x.st + (Trm.lt s k l).w.length, x.e0, s.v * k.getD 1, x.e2, x.parts, x.s0, true, x.s2, x.again, false⟩
    else ⟨x.st + (Trm.lt s k l).w.length, x.e0, x.e1, s.v * k.getD 1, x.parts, x.s0, x.s1, true, x.again, false⟩
  | .fr s n d => ⟨x.st + (Trm.fr s n d).w.length, x.e0, x.e1, x.e2, s.v * (24 * n).tdiv (d.getD 1), x.s0, x.s1, x.s2, true, false⟩
theorem wk_itoa {n : Int} (h : 0 ≤ n) : wk (Lib.itoa n) = 110 := by
  obtain ⟨h1, h2⟩ := itoa_digs n h
  generalize Lib.itoa n = s at *
  cases s with
  | nil => exact absurd rfl h1
  | cons b r =>
    show kindR b.toNat = 110
    unfold kindR
    rw [if_pos (digR_b (h2 b (by simp)))]
theorem wk_let {l : UInt8} (h : l = 120 ∨ l = 121 ∨ l = 122) : wk [l] = 120 := by rcases h with e | e | e <;> subst e <;> rfl
theorem sg_at {ys : List Tok} {st : Nat} {s : Sg} (h : saysAt ys st s.w) (hn : s = .no → ¬ (tk ys st).kind = 43) : sgN ys st = st + s.w.length ∧ sgV ys st = s.v ∧ (s ≠ .no → sgB ys st = true) := by
  cases s with
  | no =>
    have := hn rfl
    refine ⟨if_neg this, if_neg (fun h => this h.1), fun h => absurd rfl h⟩
  | plus =>
    obtain ⟨h1, h2, h3, _⟩ := h
    have h1 : (tk ys st).kind = 43 := h1
    refine ⟨(if_pos h1).trans (nx_at h3), if_neg (fun h => by rw [h2] at h; exact absurd h.2 (by decide)), fun _ => decide_eq_true h1⟩
  | minus =>
    obtain ⟨h1, h2, h3, _⟩ := h
    have h1 : (tk ys st).kind = 43 := h1
    refine ⟨(if_pos h1).trans (nx_at h3), if_pos ⟨h1, h2⟩, fun _ => decide_eq_true h1⟩
theorem letP_at {ys : List Tok} {x : RS} {sk : Int} {q : Nat} {l : UInt8} (h : (tk ys q).text = [l]) (hq : q + 1 < ys.length) (ho : (l = 120 ∧ x.s0 = false) ∨ (l = 121 ∧ x.s1 = false) ∨ (l = 122 ∧ x.s2 = false)) :
    letP ys x sk q = .inl (if l = 120 then ⟨q + 1, sk, x.e1, x.e2, x.parts, true, x.s1, x.s2, x.again, false⟩ else if l = 121 then ⟨q + 1, x.e0, sk, x.e2, x.parts, x.s0, true, x.s2, x.again, false⟩ else ⟨q + 1, x.e0, x.e1, sk, x.parts, x.s0, x.s1, true, x.again, false⟩) := by
  unfold letP
  rw [nx_at hq]
  rcases ho with ⟨rfl, hs⟩ | ⟨rfl, hs⟩ | ⟨rfl, hs⟩
  · rw [if_pos h, if_neg (by rw [hs]; decide)]; rfl
  · rw [if_neg (by rw [h]; decide), if_pos h, if_neg (by rw [hs]; decide)]; rfl
  · rw [if_neg (by rw [h]; decide), if_neg (by rw [h]; decide), if_neg (by rw [hs]; decide)]; rfl
theorem step_lt {ys : List Tok} {x : RS} {s : Sg} {k : Option Int} {l : UInt8} (h : saysAt ys x.st (Trm.lt s k l).w) (ok : (Trm.lt s k l).ok x) : stepR ys x = .inl (x.app (.lt s k l)) := by
  obtain ⟨o1, o2, o3⟩ := ok
  obtain ⟨h1, h2⟩ := saysAt_app h
  obtain ⟨h3, h4⟩ := saysAt_app h2
  obtain ⟨m1, m2, m3, _⟩ := h4
  have hl : l = 120 ∨ l = 121 ∨ l = 122 := by rcases o3 with h | h | h <;> simp [h.1]
  rw [wk_let hl] at m1
  have hno : s = .no → ¬ (tk ys x.st).kind = 43 := by
    rintro rfl hk
    cases k with
    | none =>
      have m1 : (tk ys x.st).kind = 120 := m1
      omega
    | some n =>
      have : (tk ys x.st).kind = wk (Lib.itoa n) := h3.1
      rw [wk_itoa (by have := o2 n rfl; omega)] at this
      omega
  obtain ⟨s1, s2, s3⟩ := sg_at h1 hno
  unfold stepR
  rw [if_neg (by rintro ⟨f1, f2⟩; rcases o1 with f | f
                 · rw [f] at f1; cases f1
                 · rw [s3 f] at f2; cases f2)]
  rw [s1, s2]
  cases k with
  | none =>
    have m1 : (tk ys (x.st + s.w.length)).kind = 120 := m1
    have m2 : (tk ys (x.st + s.w.length)).text = [l] := m2
    rw [if_neg (by rintro ⟨f, _⟩; omega), if_pos m1, letP_at m2 m3 o3]
    have e : x.st + (Trm.lt s none l).w.length = x.st + s.w.length + 1 := by simp [Trm.w, numW]; omega
    simp only [RS.app, e, Option.getD_none, Int.mul_one]
  | some n =>
    obtain ⟨b0, b1⟩ := o2 n rfl
    obtain ⟨n1, n2, n3, _⟩ := h3
    rw [wk_itoa (by omega)] at n1
    have m1 : (tk ys (x.st + s.w.length + 1)).kind = 120 := m1
    have m2 : (tk ys (x.st + s.w.length + 1)).text = [l] := m2
    rw [nx_at n3, if_pos ⟨n1, m1⟩, n2, numV_itoa (by omega) b1 (by omega), if_neg (by omega), letP_at m2 m3 o3]
    have e : x.st + (Trm.lt s (some n) l).w.length = x.st + s.w.length + 1 + 1 := by simp [Trm.w, numW]; omega
    simp only [RS.app, e, Option.getD_some]
    try rfl
theorem step_fr {ys : List Tok} {x : RS} {s : Sg} {n : Int} {d : Option Int} (h : saysAt ys x.st (Trm.fr s n d).w) (ok : (Trm.fr s n d).ok x) (hn : d = none → ¬ (tk ys (x.st + (Trm.fr s n d).w.length)).kind = 47 ∧ ¬ (tk ys (x.st + (Trm.fr s n d).w.length)).kind = 120) : stepR ys x = .inl (x.app (.fr s n d)) := by
  obtain ⟨o1, o2, o3, o4, o5⟩ := ok
  obtain ⟨h1, h2⟩ := saysAt_app h
  obtain ⟨n1, n2, n3, h4⟩ := h2
  rw [wk_itoa o2] at n1
  have hno : s = .no → ¬ (tk ys x.st).kind = 43 := by
    rintro rfl hk
    have n1 : (tk ys x.st).kind = 110 := n1
    omega
  obtain ⟨s1, s2, s3⟩ := sg_at h1 hno
  have hx : numV (tk ys (x.st + s.w.length)).text 999 = n := by rw [n2, numV_itoa o2 o3 (by omega)]
  unfold stepR
  rw [if_neg (by rintro ⟨f1, f2⟩; rcases o1 with f | f
                 · rw [f] at f1; cases f1
                 · rw [s3 f] at f2; cases f2)]
  rw [s1, s2, nx_at n3]
  cases d with
  | none =>
    obtain ⟨g1, g2⟩ := hn rfl
    have e : x.st + (Trm.fr s n none).w.length = x.st + s.w.length + 1 := by simp [Trm.w, denW]; omega
    rw [e] at g1 g2
    rw [if_neg (by rintro ⟨_, f⟩; exact g2 f), if_neg (by rw [n1]; decide), if_pos n1]
    have hf : frS ys (x.st + s.w.length) x.again = (24 * n, -1, x.st + s.w.length + 1) := by
      unfold frS
      rw [hx, nx_at n3, o4, if_neg (by rintro (f | f); omega; cases f), if_pos g1]
    rw [hf, if_neg (show ¬ (0 : Int) ≤ -1 by decide)]
    simp only [RS.app, e, Option.getD_none, Int.tdiv_one]
  | some m =>
    obtain ⟨b0, b1, b2⟩ := o5 m rfl
    obtain ⟨k1, k2, k3, q1, q2, q3, _⟩ := h4
    have k1 : (tk ys (x.st + s.w.length + 1)).kind = 47 := k1
    rw [wk_itoa (by omega)] at q1
    have e : x.st + (Trm.fr s n (some m)).w.length = x.st + s.w.length + 1 + 1 + 1 := by simp [Trm.w, denW]; omega
    rw [if_neg (by rintro ⟨_, f⟩; rw [k1] at f; cases f), if_neg (by rw [n1]; decide), if_pos n1]
    have hf : frS ys (x.st + s.w.length) x.again = ((24 * n).tdiv m, -1, x.st + s.w.length + 1 + 1 + 1) := by
      unfold frS
      rw [hx, nx_at n3, nx_at k3, nx_at q3, q2, numV_itoa (by omega) b1 (by omega), o4, if_neg (by rintro (f | f); omega; cases f), if_neg (by rw [k1]; simp), if_neg (by rw [q1]; simp), if_neg (by rintro (f | f); omega; exact f b2)]
    rw [hf, if_neg (show ¬ (0 : Int) ≤ -1 by decide)]
    simp only [RS.app, e, Option.getD_some]
    try rfl
def wordsL : List Trm → List (List UInt8)
  | [] => []
  | t :: l => t.w ++ wordsL l
def okL : RS → List Trm → Prop
  | x, [] => x.first = false
  | x, t :: l => t.ok x ∧ okL (x.app t) l
def appL : RS → List Trm → RS
  | x, [] => x
  | x, t :: l => appL (x.app t) l
theorem app_st (x : RS) (t : Trm) : (x.app t).st = x.st + t.w.length ∧ (x.app t).first = false := by
  cases t with
  | lt s k l =>
    simp only [RS.app]
    split
    · exact ⟨rfl, rfl⟩
    · split <;> exact ⟨rfl, rfl⟩
  | fr s n d => exact ⟨rfl, rfl⟩
theorem row_terms {ys : List Tok} : ∀ (l : List Trm) (x : RS) (n : Nat), l.length < n → saysAt ys x.st (wordsL l) → okL x l → (tk ys (x.st + (wordsL l).length)).kind = 44 ∨ (tk ys (x.st + (wordsL l).length)).kind = 46 →
    rowR ys n x = ⟨(appL x l).e0, (appL x l).e1, (appL x l).e2, (appL x l).parts, -1, x.st + (wordsL l).length⟩
  | _, _, 0, hn, _, _, _ => by omega
  | [], x, n + 1, _, _, ok, he => by
    have ok : x.first = false := ok
    have he : (tk ys x.st).kind = 44 ∨ (tk ys x.st).kind = 46 := he
    have h43 : ¬ (tk ys x.st).kind = 43 := by omega
    have hs : stepR ys x = .inr ⟨x.e0, x.e1, x.e2, x.parts, -1, x.st⟩ := by
      unfold stepR
      rw [if_pos ⟨ok, decide_eq_false h43⟩]
      unfold sgN
      rw [if_neg h43]
    unfold rowR
    rw [hs]
    rfl
  | t :: l, x, n + 1, hn, hs, ok, he => by
    obtain ⟨o1, o2⟩ := ok
    obtain ⟨h1, h2⟩ := saysAt_app hs
    have ea := app_st x t
    have el : (wordsL (t :: l)).length = t.w.length + (wordsL l).length := by show (t.w ++ wordsL l).length = _; rw [List.length_append]
    rw [el, ← Nat.add_assoc, ← ea.1] at he
    have hnext : ¬ (tk ys (x.st + t.w.length)).kind = 47 ∧ ¬ (tk ys (x.st + t.w.length)).kind = 120 := by
      rw [← ea.1]
      cases l with
      | nil =>
        have he : (tk ys (x.app t).st).kind = 44 ∨ (tk ys (x.app t).st).kind = 46 := he
        omega
      | cons u l =>
        have hu : u.sg ≠ .no := by
          have o3 : u.ok (x.app t) := o2.1
          have := ea.2
          cases u with
          | lt s k l => rcases o3.1 with f | f
                        · rw [this] at f; cases f
                        · exact f
          | fr s n d => rcases o3.1 with f | f
                        · rw [this] at f; cases f
                        · exact f
        have h2 : saysAt ys (x.st + t.w.length) (u.w ++ wordsL l) := h2
        rw [← ea.1] at h2
        have h43 : (tk ys (x.app t).st).kind = 43 := by
          have h3 := (saysAt_app h2).1
          cases u with
          | lt s k l => cases s with
            | no => exact absurd rfl hu
            | plus => exact h3.1
            | minus => exact h3.1
          | fr s n d => cases s with
            | no => exact absurd rfl hu
            | plus => exact h3.1
            | minus => exact h3.1
        omega
    have hstep : stepR ys x = .inl (x.app t) := by
      cases t with
      | lt s k l => exact step_lt h1 o1
      | fr s n d => exact step_fr h1 o1 (fun _ => hnext)
    unfold rowR
    rw [hstep]
    show rowR ys n (x.app t) = _
    rw [row_terms l (x.app t) n (by simp at hn; omega) (by rw [ea.1]; exact h2) o2 he, el, ea.1]
    simp only [Nat.add_assoc]
    rfl
theorem w_pos (t : Trm) : 1 ≤ t.w.length := by
  cases t with
  | lt s k l => simp [Trm.w]; omega
  | fr s n d => simp [Trm.w]; omega
theorem words_len : ∀ l : List Trm, l.length ≤ (wordsL l).length
  | [] => Nat.le_refl _
  | t :: l => by
    have := words_len l
    have := w_pos t
    show l.length + 1 ≤ (t.w ++ wordsL l).length
    rw [List.length_append]
    omega
theorem rowF_terms {ys : List Tok} {l : List Trm} {st : Nat} (hs : saysAt ys st (wordsL l)) (hl : st + (wordsL l).length < ys.length) (ok : okL (rs0 st) l) (he : (tk ys (st + (wordsL l).length)).kind = 44 ∨ (tk ys (st + (wordsL l).length)).kind = 46) :
    rowF ys st = ⟨(appL (rs0 st) l).e0, (appL (rs0 st) l).e1, (appL (rs0 st) l).e2, (appL (rs0 st) l).parts, -1, st + (wordsL l).length⟩ :=
  row_terms l (rs0 st) (ys.length + 1) (by have := words_len l; omega) hs ok he
end Go.AM
