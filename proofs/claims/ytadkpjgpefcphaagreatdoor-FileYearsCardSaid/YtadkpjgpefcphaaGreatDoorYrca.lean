/- Parts of the proof of a law of layer 11 (file): LfRdIn. The conditions stand in each theorem. -/
import Derived.Below
import Derived.ChangeSame
import Derived.Deep.DeepHandedRow
import Derived.Deep.DeepWitnessRowRef
import Derived.Deep.Slices
import Derived.Lib.LaidIn
import Derived.Lib.LaidTab
import Derived.OpenShut
import Derived.ProofKit
import Derived.Stop.LaidErr
import Derived.Test.YtadkpjgpefcphaaGreatDoorCards
import Derived.Test.YtadkpjgpefcphaaGreatDoorProg
import Derived.Test.YtadkpjgpefcphaaGreatDoorTie
import Derived.Test.YtadkpjgpefcphaaGreatDoorYrbz
set_option linter.all false
set_option linter.unusedVariables false
set_option linter.unusedSimpArgs false
namespace Go.Proofs.LF
open Go.RowKit
set_option maxRecDepth 100000
theorem cells22 : Tryz.prog.cellsOf 85 = 3 := by kernel_rfl
theorem cells3 : Tryz.prog.cellsOf 3 = 1 := by kernel_rfl
theorem cells9 : Tryz.prog.cellsOf 9 = 1 := by kernel_rfl
theorem cells66 : Tryz.prog.cellsOf 66 = 1 := by kernel_rfl
theorem cells22' : Tryz.prog.cellsOf 22 = 1 := by kernel_rfl
section
variable {H : Type} {enc : TypeId × Value → H} {W : World}
theorem cell_plain {a : Addr} {v : Value} (h : W.cell? a = some v) : a.spot = none ∧ a.block < W.heap.size := by
  unfold World.cell? at h
  split at h
  · rename_i c t f hb
    split at h
    · cases h
    · rename_i hs
      exact ⟨by simpa using hs, (Array.getElem?_eq_some_iff.1 hb).1⟩
  · cases h
theorem add_plain (a : Addr) (h : a.spot = none) (i : Nat) : a.add i = ⟨a.block, a.off + i, none⟩ := by
  unfold Addr.add
  split
  · rename_i h0
    subst h0
    cases a
    simp only at h
    subst h
    rfl
  · rfl
theorem read_ints {fuel : Nat} {v : Value} {x : DataW H × List MemPlace} (h : DataW.trod enc Tryz.prog W 0 (fun _ => true) true fuel 66 [v] = some x) : ∃ l, Ints (fun b => b < W.heap.size) W v l := by
  rcases Go.ChangeShapes.open_ints Tryz.underlying66 Tryz.underlying3 cells3 h with ⟨hc, _⟩ | ⟨a, len, cap, zs, hc, _, hl, hm, hz, _, hcell, _⟩
  · obtain rfl : v = _ := by simpa using hc
    exact ⟨[], rfl, none, 0, rfl, Nat.le_refl _, by simp [maxLen], fun _ => rfl, .inl rfl⟩
  · obtain rfl : v = _ := by simpa using hc
    simp only [if_true] at hz
    have hlen : (zs.take len).length = len := by rw [List.length_take]; omega
    refine ⟨zs.take len, ?_⟩
    unfold Ints
    rw [hlen]
    refine ⟨by simp; omega, some a, cap, rfl, hl, hm, (fun h => by cases h), ?_⟩
    by_cases h0 : len = 0
    · exact .inl h0
    · have hs := cell_plain (hcell 0 (by omega))
      have h1 := hs.1
      have hadd0 : (a.add 0) = a := rfl
      rw [hadd0] at hs
      refine .inr ⟨a.block, a.off, by cases a; simp only at hs; rw [hs.1], hs.2, fun j u hj => ?_⟩
      simp only [List.getElem?_map, Option.map_eq_some_iff, List.getElem?_take] at hj
      obtain ⟨z, hz', rfl⟩ := hj
      split at hz'
      · have hj' := (List.getElem?_eq_some_iff.1 hz').1
        have := hcell j hj'
        rw [add_plain a hs.1] at this
        rw [this, List.getD_eq_getElem?_getD, hz']; rfl
      · cases hz'
theorem read_nodes : ∀ (fuel : Nat) (v : Value) (x : DataW H × List MemPlace), DataW.trod enc Tryz.prog W 0 (fun _ => true) true fuel 22 [v] = some x → ∃ y, FSl (fun b => b < W.heap.size) W v y := by
  intro fuel
  induction fuel using Nat.strongRecOn with
  | _ fuel ih =>
  intro v x h
  rcases DataW.trod_slice Tryz.underlying22 h with ⟨hc, _⟩ | ⟨a, len, cap, elems, rest, n, hfu, hc, _, hb, hl, hm, hlen, hel, _, _⟩
  · obtain rfl : v = _ := by simpa using hc
    exact ⟨.nil, [], ⟨rfl, none, 0, rfl, Nat.le_refl _, by simp [maxLen], fun _ => rfl, .inl rfl⟩, rfl⟩
  · obtain rfl : v = _ := by simpa using hc
    rw [cells22] at hel
    have each : ∀ i, i < len → ∃ s l y vn vs, W.cell? (a.add (i * 3)) = some (.string s) ∧ W.cell? ((a.add (i * 3)).add 1) = some vn ∧ W.cell? ((a.add (i * 3)).add 2) = some vs ∧ Ints (fun b => b < W.heap.size) W vn l ∧ FSl (fun b => b < W.heap.size) W vs y := by
      intro i hi
      have h1 := hel i hi
      rw [List.getElem?_eq_getElem (by omega)] at h1
      obtain ⟨cs', hcs, hx⟩ := Option.bind_eq_some_iff.1 h1
      obtain ⟨_, hcl, hcc⟩ := World.cells?_some hcs
      obtain ⟨xs, m, hnm, _, _, hxl, hfs⟩ := DataW.trod_struct Tryz.underlying85 hx
      match cs', hcl with
      | [c0, c1, c2], _ =>
        have f0 := hfs 0 _ rfl
        have f1 := hfs 1 _ rfl
        have f2 := hfs 2 _ rfl
        change DataW.trod enc Tryz.prog W 0 (fun _ => true) true m 9 (([c0, c1, c2].drop 0).take (Tryz.prog.cellsOf 9)) = xs[0]? at f0
        change DataW.trod enc Tryz.prog W 0 (fun _ => true) true m 66 (([c0, c1, c2].drop 1).take (Tryz.prog.cellsOf 66)) = xs[1]? at f1
        change DataW.trod enc Tryz.prog W 0 (fun _ => true) true m 22 (([c0, c1, c2].drop 2).take (Tryz.prog.cellsOf 22)) = xs[2]? at f2
        rw [cells9] at f0
        rw [cells66] at f1
        rw [cells22'] at f2
        have g0 : DataW.trod enc Tryz.prog W 0 (fun _ => true) true m 9 [c0] = xs[0]? := f0
        have g1 : DataW.trod enc Tryz.prog W 0 (fun _ => true) true m 66 [c1] = xs[1]? := f1
        have g2 : DataW.trod enc Tryz.prog W 0 (fun _ => true) true m 22 [c2] = xs[2]? := f2
        have hx3 : xs.length = 3 := hxl
        rw [List.getElem?_eq_getElem (by omega)] at g0 g1 g2
        obtain ⟨s, hs, _⟩ := DataW.trod_string Tryz.underlying9 g0
        obtain rfl : c0 = .string s := by simpa using hs
        obtain ⟨l, hI⟩ := read_ints g1
        obtain ⟨y, hF⟩ := ih m (by omega) c2 _ g2
        have e0 := hcc 0 (by omega)
        have e1 := hcc 1 (by omega)
        have e2 := hcc 2 (by omega)
        exact ⟨s, l, y, c1, c2, e0, e1, e2, hI, hF⟩
    have all : ∀ k, k ≤ len → ∃ y ds, y.len = k ∧ ds.length = k * 3 ∧ FCs (fun b => b < W.heap.size) W y ds ∧ ∀ j u, ds[j]? = some u → W.cell? ⟨a.block, a.off + j, none⟩ = some u := by
      intro k
      induction k with
      | zero => intro _; exact ⟨.nil, [], rfl, rfl, rfl, fun j u hj => by simp at hj⟩
      | succ k ihk =>
        intro hk
        obtain ⟨y, ds, h1, h2, h3, h4⟩ := ihk (by omega)
        obtain ⟨s, l, z, vn, vs, c0, c1, c2, hI, hF⟩ := each k (by omega)
        have hsp : a.spot = none := by
          obtain ⟨s0, _, _, _, _, d0, _⟩ := each 0 (by omega)
          exact (cell_plain d0).1
        rw [add_plain a hsp, add_plain _ rfl] at c1 c2
        rw [add_plain a hsp] at c0
        obtain ⟨an, cn, rfl, _⟩ := SlC.shape hI
        obtain ⟨ab, cb, rfl, _, _, _⟩ := hF.at
        refine ⟨y.app (.cons s.data.toList l z .nil), ds ++ [.string (bs s.data.toList), .slice an l.length cn, .slice ab z.len cb], by rw [Fo.len_app, h1]; rfl, by simp [h2]; omega, h3.app (FCs.one hI hF), fun j u hj => ?_⟩
        by_cases hjl : j < ds.length
        · rw [List.getElem?_append_left hjl] at hj
          exact h4 j u hj
        · rw [List.getElem?_append_right (by omega)] at hj
          rw [bs_of] at hj
          have hj3 : j - ds.length < 3 := by have := (List.getElem?_eq_some_iff.1 hj).1; simpa using this
          obtain h | h | h : j = k * 3 ∨ j = k * 3 + 1 ∨ j = k * 3 + 2 := by omega
          · subst h
            rw [show k * 3 - ds.length = 0 by omega] at hj
            simp only [List.getElem?_cons_zero, Option.some.injEq] at hj
            rw [← hj]; exact c0
          · subst h
            rw [show k * 3 + 1 - ds.length = 1 by omega] at hj
            simp only [List.getElem?_cons_succ, List.getElem?_cons_zero, Option.some.injEq] at hj
            rw [← hj, ← Nat.add_assoc]; exact c1
          · subst h
            rw [show k * 3 + 2 - ds.length = 2 by omega] at hj
            simp only [List.getElem?_cons_succ, List.getElem?_cons_zero, Option.some.injEq] at hj
            rw [← hj, ← Nat.add_assoc]; exact c2
    obtain ⟨y, ds, h1, h2, h3, h4⟩ := all len (Nat.le_refl _)
    refine ⟨y, ds, ?_, h3⟩
    rw [h1]
    refine ⟨h2, some a, cap, rfl, hl, hm, (fun h => by cases h), ?_⟩
    by_cases h0 : len = 0
    · exact .inl h0
    · obtain ⟨s0, _, _, _, _, d0, _⟩ := each 0 (by omega)
      have hs := cell_plain d0
      exact .inr ⟨a.block, a.off, by cases a; have := hs.1; simp only [Addr.add] at this; simp at this; rw [this], hs.2, h4⟩
end
end Go.Proofs.LF
