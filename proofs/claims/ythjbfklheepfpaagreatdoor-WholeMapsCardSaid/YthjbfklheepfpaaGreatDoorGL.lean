import Derived.Test.YthjbfklheepfpaaGreatDoorProg
import Derived.Test.YthjbfklheepfpaaGreatDoorP1
import Derived.Lib.LaidTab
import Derived.Lib.ItoaMem
set_option linter.unusedVariables false
set_option linter.unusedSimpArgs false
set_option maxHeartbeats 4000000
namespace Go.AM
open Go Go.Proofs
noncomputable abbrev P := Tryz.prog
def tabAt (w : World) : Prop := ∀ g, P.globalNamed "internal/strconv.uint64pow10" = some g → ∃ T fz, w.heap[g]? = some (.cells (Lib.pow10Tab.map fun z => Value.int .u64 z).toArray T fz)
theorem tabAt_lt {w : World} {g : Nat} (h : tabAt w) (hg : P.globalNamed "internal/strconv.uint64pow10" = some g) : g < w.heap.size := by
  obtain ⟨T, fz, h1⟩ := h g hg
  exact (Array.getElem?_eq_some_iff.1 h1).1
theorem tabAt_is {w : World} {g : Nat} (h : tabAt w) (hg : P.globalNamed "internal/strconv.uint64pow10" = some g) : Lib.TabIs P w "internal/strconv.uint64pow10" .u64 Lib.pow10Tab := by
  obtain ⟨T, fz, h1⟩ := h g hg
  unfold Lib.TabIs World.var?
  rw [hg]
  simp [h1]
theorem tabAt_of {w : World} (h : ∀ g, P.globalNamed "internal/strconv.uint64pow10" = some g → Lib.TabIs P w "internal/strconv.uint64pow10" .u64 Lib.pow10Tab) : tabAt w := by
  intro g hg
  have h1 := h g hg
  unfold Lib.TabIs World.var? at h1
  rw [hg] at h1
  simp only [Option.bind_some] at h1
  split at h1
  · rename_i cs T fz hc
    simp only [Option.some.injEq] at h1
    subst h1
    exact ⟨T, fz, hc⟩
  · cases h1
instance glob : Glob where
  tab := tabAt
  blk k := P.globalNamed "internal/strconv.uint64pow10" = some k
  keep w w' hk ht g hg := by
    obtain ⟨T, fz, h1⟩ := ht g hg
    exact ⟨T, fz, (hk g hg (Array.getElem?_eq_some_iff.1 h1).1).trans h1⟩
  lt w k ht hk := tabAt_lt ht hk
end Go.AM
