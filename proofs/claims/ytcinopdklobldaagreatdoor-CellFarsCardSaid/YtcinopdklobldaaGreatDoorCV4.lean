import Derived.Test.YtcinopdklobldaaGreatDoorCV3
open Go Go.AM Go.Proofs
namespace Go.AM
set_option maxRecDepth 100000
theorem nfdocmin (m a b c n d e f : Int) (K : KV) : call P E3 noAnn 3000 Tryz.f45 [Pt m a b c, Pt n d e f] [] K = (((!form m a b c) = true → K (AV.tup [PV.agg [SV.con IntKind.i64 (0 : Int), SV.con IntKind.i64 (0 : Int), SV.con IntKind.i64 (0 : Int), SV.con IntKind.i64 (0 : Int)], PV.one (SV.con IntKind.i64 (3 : Int))]) []) ∧ ((!form m a b c) = false → ((!form n d e f) = true → K (AV.tup [PV.agg [SV.con IntKind.i64 (0 : Int), SV.con IntKind.i64 (0 : Int), SV.con IntKind.i64 (0 : Int), SV.con IntKind.i64 (0 : Int)], PV.one (SV.con IntKind.i64 (3 : Int))]) []) ∧ ((!form n d e f) = false → ((!decide (m = n)) = true → K (AV.tup [PV.agg [SV.con IntKind.i64 (0 : Int), SV.con IntKind.i64 (0 : Int), SV.con IntKind.i64 (0 : Int), SV.con IntKind.i64 (0 : Int)], PV.one (SV.con IntKind.i64 (6 : Int))]) []) ∧ ((!decide (m = n)) = false → (form m a b c = true ∧ form m d e f = true) ∧ K (AV.tup [PV.agg [SV.sym IntKind.i64 m, SV.sym IntKind.i64 (modF (IntKind.i64.wrap (a - d)) m), SV.sym IntKind.i64 (modF (IntKind.i64.wrap (b - e)) m), SV.sym IntKind.i64 (modF (IntKind.i64.wrap (c - f)) m)], PV.one (SV.con IntKind.i64 (0 : Int))]) [])))) := by kernel_rfl
theorem hcDocMin : Holds P E3 45 q10 := by
  refine holds_okA (fn := Tryz.f45) noAnn 3000 rfl (by kernel_rfl) (by kernel_rfl) fun args av hg => ?_
  unfold q10 at hg
  split at hg
  · rename_i m a b c n d e f
    rw [gives_ok hg]
    refine ⟨rfl, _, rfl, ?_⟩
    rw [nfdocmin]
    cases h1 : form m a b c with
    | false => exact ⟨fun _ => by simp only [bad10, h1, Bool.false_and, Bool.false_eq_true, if_false]; exact ⟨rfl, trivial⟩, fun h => absurd h (by decide)⟩
    | true =>
      cases h2 : form n d e f with
      | false => exact ⟨fun h => absurd h (by decide), fun _ => ⟨fun _ => by simp only [bad10, h1, h2, Bool.and_false, Bool.false_eq_true, if_false]; exact ⟨rfl, trivial⟩, fun h => absurd h (by decide)⟩⟩
      | true =>
        by_cases h3 : m = n
        · subst h3
          refine ⟨fun h => absurd h (by decide), fun _ => ⟨fun h => absurd h (by decide), fun _ => ⟨fun h => by simp at h, fun _ => ⟨⟨rfl, h2⟩, ?_⟩⟩⟩⟩
          simp only [bad10, h1, h2, Bool.and_self, if_true]
          exact ⟨rfl, trivial⟩
        · refine ⟨fun h => absurd h (by decide), fun _ => ⟨fun h => absurd h (by decide), fun _ => ⟨fun _ => ?_, fun h => by simp [h3] at h⟩⟩⟩
          simp only [bad10, h1, h2, h3, Bool.and_self, if_true, if_false]
          exact ⟨rfl, trivial⟩
  · exact (gives_fail hg).elim
theorem hcDocMink : Holds P E3 45 q10k := hcDocMin.weaken fun args av hg => by
  unfold q10k at hg
  split at hg
  · obtain ⟨hp, rfl⟩ := gives_iff hg
    exact ⟨_, .inl rfl, by simp only [hp, if_true]; rfl⟩
  · exact (gives_fail hg).elim
theorem hcDocCheckk : Holds P D1 14 q20k := hc13.weaken fun args av hg => by
  unfold q20k at hg
  split at hg
  · obtain ⟨hp, rfl⟩ := gives_iff hg
    exact ⟨_, .inl rfl, by rw [checkR_eq, hp]; rfl⟩
  · exact (gives_fail hg).elim
def E4 : Sums := E3.add 45 q10
def E5 : Sums := (E3.add 45 q10k).add 14 q20k
def withM (env : Env) (h : Heap) (K : Int → Int → Int → Int → Len3 → Option Ann) : Option Ann :=
  withN (.v (.one (cellS h (blkOf (getD env 4 AV.any)) 0))) fun m => withN (.v (.one (cellS h (blkOf (getD env 9 AV.any)) 1))) fun w1 => withN (.v (.one (cellS h (blkOf (getD env 9 AV.any)) 2))) fun w2 => withN (.v (.one (cellS h (blkOf (getD env 9 AV.any)) 3))) fun w3 =>
    match rowCells h (blkOf (getD env 3 AV.any)) with
    | [.sym _ a, .sym _ b, .sym _ c, .sym _ d, .sym _ e, .sym _ f] => K m w1 w2 w3 (Dist.len9 a f e f b d e d c)
    | _ => none
abbrev Upto (m : Int) := { k : Nat // (k : Int) ≤ 2 * m + 1 }
def annX (env : Env) (h : Heap) : Option Ann := withM env h fun m w1 w2 w3 g =>
  forceE (keepE [3, 4, 9, 11, 12] 0 env) fun env' => forceH (keepH [blkOf (getD env 3 AV.any), blkOf (getD env 4 AV.any), blkOf (getD env 9 AV.any)] 0 h) fun h => some ⟨Upto m, fun k =>
    (set (set env' 12 (.v (.one (.sym .i64 ((k.1 : Int) - m))))) 11 (.v (.one (.sym .i64 (Dist.best3 g (Dist.cl w1 m k.1) (Dist.nb w2 m) (Dist.nb w3 m) (-1))))), h), fun k => 400 - k.1⟩
def annYY (env : Env) (h : Heap) : Option Ann := withM env h fun m _ w2 w3 g => withN (getD env 11 AV.any) fun least => withN (getD env 12 AV.any) fun x =>
  forceE (keepE [3, 4, 9, 11, 12, 13] 0 env) fun env' => forceH (keepH [blkOf (getD env 3 AV.any), blkOf (getD env 4 AV.any), blkOf (getD env 9 AV.any)] 0 h) fun h => some ⟨Upto m, fun k =>
    (set (set env' 13 (.v (.one (.sym .i64 ((k.1 : Int) - m))))) 11 (.v (.one (.sym .i64 (Dist.best4 g x (Dist.cl w2 m k.1) (Dist.nb w3 m) least)))), h), fun k => 400 - k.1⟩
def annZ (env : Env) (h : Heap) : Option Ann := withM env h fun m _ _ w3 g => withN (getD env 11 AV.any) fun least => withN (getD env 12 AV.any) fun x => withN (getD env 13 AV.any) fun y =>
  forceE (keepE [3, 4, 9, 11, 12, 13, 14] 0 env) fun env' => forceH (keepH [blkOf (getD env 3 AV.any), blkOf (getD env 4 AV.any), blkOf (getD env 9 AV.any)] 0 h) fun h => some ⟨Upto m, fun k =>
    (set (set env' 14 (.v (.one (.sym .i64 ((k.1 : Int) - m))))) 11 (.v (.one (.sym .i64 (Dist.best5 g x y (Dist.cl w3 m k.1) least)))), h), fun k => 400 - k.1⟩
def AF : Annos := ⟨0, fun id env h => if id = 8 then annX env h else if id = 12 then annYY env h else if id = 16 then annZ env h else none, fun _ => none⟩
end Go.AM
