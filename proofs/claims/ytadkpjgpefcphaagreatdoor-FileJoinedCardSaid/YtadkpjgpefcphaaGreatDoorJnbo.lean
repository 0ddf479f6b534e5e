/- Parts of the proof of a law of layer 11 (file): LfRdBy. The conditions stand in each theorem. -/
import Derived.Test.YtadkpjgpefcphaaGreatDoorProg
import Derived.Test.YtadkpjgpefcphaaGreatDoorJnbm
set_option linter.all false
set_option linter.unusedVariables false
set_option linter.unusedSimpArgs false
namespace Go.Proofs.LF
open Go.RowKit
set_option maxRecDepth 100000
theorem cells5 : Tryz.prog.cellsOf 5 = 1 := by kernel_rfl
section
variable {H : Type} {enc : TypeId × Value → H} {W : World}
theorem read_bytes {fuel : Nat} {v : Value} {x : DataW H × List MemPlace} (h : DataW.trod enc Tryz.prog W 0 (fun _ => true) true fuel 57 [v] = some x) : ∃ l, Byt (fun b => b < W.heap.size) W v l := by
  rcases Go.ChangeShapes.open_ints Tryz.underlying57 Tryz.underlying5 cells5 h with ⟨hc, _⟩ | ⟨a, len, cap, zs, hc, _, hl, hm, hz, _, hcell, _⟩
  · obtain rfl : v = _ := by simpa using hc
    exact ⟨[], rfl, none, 0, rfl, Nat.le_refl _, by simp [maxLen], fun _ => rfl, .inl rfl⟩
  · obtain rfl : v = _ := by simpa using hc
    simp only [if_true] at hz
    have hlen : (zs.take len).length = len := by rw [List.length_take]; omega
    refine ⟨zs.take len, ?_⟩
    unfold Byt
    rw [hlen]
    refine ⟨by simp; omega, some a, cap, rfl, hl, hm, (fun h => by cases h), ?_⟩
    by_cases h0 : len = 0
    · exact .inl h0
    · have hs := cell_plain (hcell 0 (by omega))
      have h1 := hs.1
      have hadd0 : (a.add 0) = a := rfl
      rw [hadd0] at hs
      refine .inr ⟨a.block, a.off, by cases a; simp only at hs; rw [hs.1], hs.2, fun j u hj => ?_⟩
      simp only [List.getElem?_map, Option.map_eq_some_iff, List.getElem?_take] at hj
      obtain ⟨z, hz', rfl⟩ := hj
      split at hz'
      · have hj' := (List.getElem?_eq_some_iff.1 hz').1
        have := hcell j hj'
        rw [add_plain a hs.1] at this
        rw [this, List.getD_eq_getElem?_getD, hz']; rfl
      · cases hz'
end
end Go.Proofs.LF
