import Derived.Test.YtagcmdpmmmbedaaGreatDoorKC
import Derived.Test.YtagcmdpmmmbedaaGreatDoorP3
/- A law that reads a row: from the machine to a call. -/
namespace Go.AM
open Go Go.Proofs
theorem bool_any {pl : List Pl} {av : AV} {u : Value} {b : Bool} (hval : av.valOf = some (.bool b)) (hv : av.R pl u) : u = .bool b := by
  have h1 := (AV.valOf_spec hval).1.ext (pl' := pl) (fun b p hb => by simp at hb)
  cases av with
  | v p =>
    cases p with
    | one s =>
      have hkn : (PV.one s).known = true := by
        cases s <;> first | rfl | (simp [AV.valOf, PV.valOf, SV.val] at hval)
      exact PV.known_eq hkn hv h1
    | agg l =>
      simp only [AV.valOf, PV.valOf] at hval
      split at hval <;> cases hval
  | tup l =>
    simp only [AV.valOf] at hval
    split at hval <;> cases hval
theorem law_callsR {S : Sums} (ok : OkS Tryz.prog S) {f : Nat} {fn : Func} (hf : Tryz.prog.funcs[f]? = some fn) {args : List AV} {n : Nat} {A : Annos} {C : Codec} {xs : List C.τ} (hc : LawR S n fn args [.ro 0 C xs] A)
    {vals : List Value} {w : World} {ad : Option Addr} {c : Nat} {us : List Value} (hr : RL [] (flatC C xs) us) (hn : ad = none → xs = [] ∧ c = 0) (ha : ∀ a, ad = some a → a.spot = none ∧ a.block < w.heap.size ∧ Seen w a.block a.off us)
    (hargs : ∀ p, rsVal [p] 0 xs.length c = some (.slice ad xs.length c) → ArgsR [p] args vals) (hA : A.q = 1) :
    Calls Tryz.prog f vals.toArray w fun e w' => e = .returned (.bool true) ∧ Fr w (fun _ => False) w' := by
  obtain ⟨p, M, hM, hR, hv⟩ := row_R (w := w) (pl := []) hr (fun h => (hn h).1) ha
  have hv := hv xs.length c (fun h => ⟨by rw [(hn h).1]; rfl, (hn h).2⟩)
  refine (call_sound (P := Tryz.prog) (S := S) (vals := vals) fine ok.pure ok.spec ok.mono hf hc.out (.inl (by simpa using hA)) hR (hargs p hv)).mono fun e w' hp => ?_
  obtain ⟨v, av, h', pl', rfl, hv, hpe, hR', hval⟩ := hp
  rw [bool_any hval hv]
  exact ⟨rfl, ⟨hR'.fr.os, hR'.fr.tape, hR'.fr.output, hR'.fr.size, fun k hk _ => hR'.fr.block k hk (hM k)⟩⟩
theorem intsOp : ∀ l : List Int, l.length = ([.i64, .i64, .i64, .i64, .i64, .i64, .i64, .i64, .i64, .i64, .i64, .i64] : List IntKind).length → intsWf [.i64, .i64, .i64, .i64, .i64, .i64, .i64, .i64, .i64, .i64, .i64, .i64] l → ∃ x : cOp.τ, RL [] (cOp.enc x) (ints [.i64, .i64, .i64, .i64, .i64, .i64, .i64, .i64, .i64, .i64, .i64, .i64] l)
  | [a, b, c, d, e, f, g, h, i, x, y, z], _, _ => ⟨⟨a, b, c, d, e, f, g, h, i, x, y, z⟩, .inr rfl, .inr rfl, .inr rfl, .inr rfl, .inr rfl, .inr rfl, .inr rfl, .inr rfl, .inr rfl, .inr rfl, .inr rfl, .inr rfl, trivial⟩
end Go.AM
