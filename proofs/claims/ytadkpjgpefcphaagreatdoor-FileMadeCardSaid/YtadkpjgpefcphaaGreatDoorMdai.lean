/- Parts of the proof of a law of layer 11 (file): LfW40b. The conditions stand in each theorem. -/
import Derived.BigQuiet
import Derived.Deep.AppendLies
import Derived.Deep.QuietTactic
import Derived.Deep.RegionHeld3
import Derived.Laws.Externs
import Derived.Laws.ResultCell
import Derived.Lib.AppendZeros
import Derived.Lib.AppendZerosOnto
import Derived.Lib.Overlaps
import Derived.Lib.Walk
import Derived.Outline
import Derived.Shelf.RegionOpenPlain
import Derived.Test.YtadkpjgpefcphaaGreatDoorProg
import Derived.WalkKit
import Derived.WalkLawsBesides
import Derived.WalkSpells
import Derived.Test.YtadkpjgpefcphaaGreatDoorMdae
import Derived.Test.YtadkpjgpefcphaaGreatDoorMdah
set_option linter.all false
set_option linter.unusedVariables false
set_option linter.unusedSimpArgs false
namespace Go.Proofs.LF
open Go.RowKit
set_option maxHeartbeats 4000000
set_option maxRecDepth 100000
theorem Tryz.info85j : (Tryz.prog.info? 85).map (fun i => (i.zero, i.size, i.bytes)) = some (some (.agg #[.string ByteArray.empty, .slice none 0 0, .slice none 0 0]), 3, 64) := by kernel_rfl
theorem ins_room (g n i cap : Nat) (cur : Array Value) (cs : List Value) (x y z : Value) (vb B : Nat) (w : World) (hi : i < n) (hbg : B ≤ g) (hg : w.heap[g]? = some (.cells cur 85 (0, 0))) (hroom : n + 1 ≤ cap) (hcap : cap ≤ maxLen) (hcs : cur.size = cap * 3) (htk : cur.toList.take (n * 3) = cs)
    (hvb : w.heap[vb]? = some (.cells #[x, y, z] 85 (0, 0))) (hne : vb ≠ g) (h1 : ∀ u ∈ cs, u.oneCell' = true) (h1v : ∀ u ∈ [x, y, z], u.oneCell' = true) :
    Calls Tryz.prog 205 #[.slice (some ⟨g, 0, none⟩) n cap, .int .i64 i, .slice (some ⟨vb, 0, none⟩) 1 1] w (InsR (.slice (some ⟨g, 0, none⟩) n cap) n i cs [x, y, z] B w) := by
  have hsz : (Tryz.prog.info? 85).map (·.size) = some 3 := by
    obtain ⟨i0, hi0, hz0, hz1, hz2⟩ := info_parts Tryz.info85j
    rw [hi0]; simp [hz1]
  have hso : ∀ W : World, (Go.sizeOf 85).run Tryz.prog W = .ok 3 W := fun W => by
    obtain ⟨i0, hi0, hz0, hz1, hz2⟩ := info_parts Tryz.info85j
    simp [Go.sizeOf, typeInfo, hi0, hz1]
  have hnews : ∀ (j : Nat) (u : Value), [x, y, z][j]? = some u → ∀ W : World, W.heap[vb]? = w.heap[vb]? → W.cell? ((⟨vb, 0, none⟩ : Addr).add j) = some u := fun j u hj W hW =>
    World.news_of_block (w := W) (cs := #[x, y, z]) (t := 85) (fr := (0, 0)) (hW.trans hvb) j u hj
  have hcl : cs.length = n * 3 := by rw [← htk, List.length_take, Array.length_toList, hcs]; omega
  have hdl : (cs.drop (i * 3)).length = 3 * (n - i) := by rw [List.length_drop, hcl]; omega
  have hcl2 : cur.toList.length = cap * 3 := by rw [Array.length_toList, hcs]
  have hov : ∀ lb cb, (callFunc 240 #[.slice (some ⟨vb, 0, none⟩) 1 1, .slice (some ⟨g, (i + 1) * 3, none⟩) lb cb]).run Tryz.prog w = .ok (.value (.bool false)) w := fun lb cb => by
    rw [run_callFunc_extern Tryz.func240 (by kernel_rfl) (by kernel_rfl) (by kernel_rfl) (e := Extern.SlicesOverlaps.overlaps #[22, 22] #[4]) (by kernel_rfl),
      Lib.run_overlaps_apart w 22 4 85 Tryz.underlying22 3 hso ⟨vb, 0, none⟩ ⟨g, (i + 1) * 3, none⟩ 1 1 lb cb hne 85 85 3 (cap * 3) (by simp [World.shape?, hvb]) (by simp [World.shape?, hg, hcs]) (by omega) (by simp [World.frozen?, hvb]) (by simp [World.frozen?, hvb])]
    rfl
  unfold maxLen at hcap
  obtain ⟨c1, hc1⟩ : ∃ c1, c1 = cur.toList.take ((i + 1) * 3) ++ cs.drop (i * 3) ++ cur.toList.drop ((i + 1) * 3 + (cs.drop (i * 3)).length) := ⟨_, rfl⟩
  obtain ⟨k1, k2, k3⟩ := ins_cells (news := [x, y, z]) (k := 3) rfl htk hcl (Nat.le_of_lt hi) hroom hcl2 hc1
  have hcp1 : ∀ ty dc sc, (Builtin.copy_ #[22, 22] ty #[.slice (some ⟨g, (i + 1) * 3, none⟩) (n - i) dc, .slice (some ⟨g, i * 3, none⟩) (n + 1 - i) sc]).run Tryz.prog w.drew = .ok (goInt (n - i : Nat)) (w.drew.setRow g c1.toArray) := fun ty dc sc => by
    have := run_copy_rowK (P := Tryz.prog) w.drew 22 22 ty 85 3 g ((i + 1) * 3) (n - i) dc (n - i) ⟨g, i * 3, none⟩ (n + 1 - i) sc cur 85 (cs.drop (i * 3)) Tryz.underlying22 hsz hg (by simp only [Nat.min_def]; split <;> omega) hdl
      (fun j v hj => by
        rw [Addr.add_lit]
        rw [List.getElem?_drop, ← htk, List.getElem?_take] at hj
        split at hj
        · have hgd : w.drew.heap[g]? = some (.cells cur 85 (0, 0)) := hg
          simp only [World.cell?, hgd]; simpa using hj
        · cases hj) (by rw [hdl, hcs]; omega) (fun v hv => h1 v (List.mem_of_mem_drop hv))
    rw [this, hc1]
  obtain ⟨W1, hW1⟩ : ∃ W1, w.drew.setRow g c1.toArray = W1 := ⟨_, rfl⟩
  have hg1 : W1.heap[g]? = some (.cells c1.toArray 85 (0, 0)) := by rw [← hW1]; exact setRow_at hg
  have hvb1 : W1.heap[vb]? = w.heap[vb]? := by rw [← hW1]; exact setRow_other w.drew g vb _ (fun e => hne e)
  have hcp2 : ∀ ty dc, (Builtin.copy_ #[22, 22] ty #[.slice (some ⟨g, i * 3, none⟩) (n + 1 - i) dc, .slice (some ⟨vb, 0, none⟩) 1 1]).run Tryz.prog W1 = .ok (goInt (1 : Nat)) (W1.setRow g (c1.take (i * 3) ++ [x, y, z] ++ c1.drop (i * 3 + [x, y, z].length)).toArray) := fun ty dc => by
    have := run_copy_rowK (P := Tryz.prog) W1 22 22 ty 85 3 g (i * 3) (n + 1 - i) dc 1 ⟨vb, 0, none⟩ 1 1 c1.toArray 85 [x, y, z] Tryz.underlying22 hsz hg1 (by simp only [Nat.min_def]; split <;> omega) rfl
      (fun j v hj => hnews j v hj W1 hvb1) (by simp [k3]; omega) h1v
    simpa using this
  rw [hW1] at hcp1
  obtain ⟨c2, hc2⟩ : ∃ c2, c1.take (i * 3) ++ [x, y, z] ++ c1.drop (i * 3 + [x, y, z].length) = c2 := ⟨_, rfl⟩
  rw [hc2] at hcp2 k1 k2
  have hin : ¬ ((i : Int) = (n : Int)) := by omega
  have hle : ¬ ((cap : Int) < (n : Int) + (1 : Int)) := by omega
  have hb1 : (0 : Int) ≤ (i : Int) + (1 : Int) := by omega
  have hii : (i : Int) ≤ (n : Int) := by omega
  have htn : ((i : Int) + (1 : Int)).toNat = i + 1 := by omega
  have hb2 : ¬ (cap = i + 1) := by omega
  have hb3 : (i : Int) ≤ (n : Int) + (1 : Int) := by omega
  have hb4 : ¬ (cap = i) := by omega
  have hgrw : w.grownBy (W1.setRow g c2.toArray) (some g) := by
    rw [← hW1]
    refine ⟨rfl, rfl, rfl, by simp [World.setRow], fun k hk hne' => ?_⟩
    exact (setRow_other _ g k _ (fun e => hne' (by rw [e]))).trans (setRow_other _ g k _ (fun e => hne' (by rw [e])))
  have hg2 : (W1.setRow g c2.toArray).heap[g]? = some (.cells c2.toArray 85 (0, 0)) := setRow_at hg1
  have mixed : Tryz.prog.follows Departure.mixedOrders = true := by kernel_rfl
  have hw1 : IntKind.i64.wrap ((i : Int) + (1 : Int)) = (i : Int) + (1 : Int) := by rw [IntKind.wrap_i64]; omega
  have hb5 : ¬ (i + 1 = cap) := by omega
  go_enter Tryz.func205, Tryz.ntmps205
  go_wp2_with (first | simp only [hov] | fail)
  go_region_law_o (refine step_copyRow rfl _ _ 22 22 rfl _ _ (by simp [Act.eval, Act.put]) (by simp [Act.eval, Act.put]) (hcp1 _ _ _) ?_)
  go_wp2_with (at_builtin; refine wpList_copyRow rfl _ _ 22 22 rfl _ _ rfl rfl (hcp2 _ _) ?_)
  go_ret
  exact ⟨some ⟨g, 0, none⟩, cap, rfl, ⟨by simp [hcl]; omega, .inr ⟨g, cap, c2.toArray, rfl, hbg, hg2, hroom, by unfold maxLen; omega, by simpa using k2, by simpa using k1⟩⟩, hgrw, fun g' hg' => .inl hg'⟩
theorem ins_grow (g n i cap : Nat) (cur : Array Value) (cs : List Value) (x y z : Value) (vb B : Nat) (w : World) (hi : i < n) (hbg : B ≤ w.heap.size) (hg : w.heap[g]? = some (.cells cur 85 (0, 0))) (hnc : n ≤ cap) (hroom : cap < n + 1) (hcs : cur.size = cap * 3) (htk : cur.toList.take (n * 3) = cs) (hn : n ≤ 1000)
    (hvb : w.heap[vb]? = some (.cells #[x, y, z] 85 (0, 0))) (h1 : ∀ u ∈ cs, u.oneCell' = true) (h1v : ∀ u ∈ [x, y, z], u.oneCell' = true) :
    Calls Tryz.prog 205 #[.slice (some ⟨g, 0, none⟩) n cap, .int .i64 i, .slice (some ⟨vb, 0, none⟩) 1 1] w (InsR (.slice (some ⟨g, 0, none⟩) n cap) n i cs [x, y, z] B w) := by
  obtain ⟨i0, hi0, hz0, hz1, hz2⟩ := info_parts Tryz.info85j
  have hsz : (Tryz.prog.info? 85).map (·.size) = some 3 := by rw [hi0]; simp [hz1]
  have hgw : g < w.heap.size := (Array.getElem?_eq_some_iff.1 hg).1
  have hvw : vb < w.heap.size := (Array.getElem?_eq_some_iff.1 hvb).1
  have hcl : cs.length = n * 3 := by rw [← htk, List.length_take, Array.length_toList, hcs]; omega
  have hdl : (cs.drop (i * 3)).length = 3 * (n - i) := by rw [List.length_drop, hcl]; omega
  have hcell : ∀ (j : Nat) (u : Value), cs[j]? = some u → ∀ W : World, W.heap[g]? = w.heap[g]? → W.cell? ⟨g, j, none⟩ = some u := fun j u hj W hW => by
    rw [← htk, List.getElem?_take] at hj
    split at hj
    · simp only [World.cell?, hW, hg]; simpa using hj
    · cases hj
  have hold : (Builtin.firstCells i0.size i (.slice (some ⟨g, 0, none⟩) i cap)).run Tryz.prog w.drew = .ok (cs.take (i * 3)).toArray w.drew := by
    rw [hz1]
    exact run_firstCells_some w.drew 3 i ⟨g, 0, none⟩ i cap (cs.take (i * 3)) (by rw [List.length_take]; omega) (fun j v hj => by
      rw [Addr.add_lit]
      rw [List.getElem?_take] at hj
      split at hj
      · rw [Nat.zero_add]; exact hcell j v hj _ rfl
      · cases hj)
  obtain ⟨G, hG⟩ : ∃ G, G = grownCap w (n + 1) cap 85 := ⟨_, rfl⟩
  obtain ⟨zs, hzs⟩ : ∃ zs : List Value, zs = (Builtin.zeroCells (Value.agg #[.string ByteArray.empty, .slice none 0 0, .slice none 0 0]).cells (n + 1 - i) ++ Builtin.zeroCells (Value.agg #[.string ByteArray.empty, .slice none 0 0, .slice none 0 0]).cells (G - (n + 1))).toList := ⟨_, rfl⟩
  have hGn : n + 1 ≤ G := by rw [hG]; exact grownCap_ge w _ _ _
  have hG63 : G ≤ 9223372036854775807 := by
    have := grownCap_le_maxLen w (n + 1) cap 85 (by unfold maxLen; omega)
    rw [← hG] at this
    unfold maxLen at this
    omega
  have hc3 : (Value.agg #[.string ByteArray.empty, .slice none 0 0, .slice none 0 0]).cells.size = 3 := rfl
  have hzl : zs.length = (n + 1 - i) * 3 + (G - (n + 1)) * 3 := by
    rw [hzs, Array.length_toList, Array.size_append]
    simp only [Builtin.zeroCells, Array.size_map, Array.size_range, hc3]
  obtain ⟨r0, hr0⟩ : ∃ r0, r0 = cs.take (i * 3) ++ zs := ⟨_, rfl⟩
  have hrl : r0.length = G * 3 := by rw [hr0, List.length_append, List.length_take, hzl]; omega
  obtain ⟨c1, hc1⟩ : ∃ c1, c1 = r0.take (i * 3) ++ [x, y, z] ++ r0.drop (i * 3 + [x, y, z].length) := ⟨_, rfl⟩
  obtain ⟨k1, k2, k3⟩ := ins_cells2 (n := n) (k := 3) rfl hcl (Nat.le_of_lt hi) hr0 (by rw [hzl]; omega) hc1
  have hik : i + (n + 1 - i) = n + 1 := by omega
  have hrz : ∀ ty, (Builtin.append_ #[22, 3] ty #[.slice (some ⟨g, 0, none⟩) i cap, .int .i64 ((n : Int) + (1 : Int) - (i : Int))]).run Tryz.prog w = .ok (.slice (some ⟨w.heap.size, 0, none⟩) (n + 1) G) (w.drew.alloc (.cells r0.toArray 85)) := fun ty => by
    have h := Lib.run_append_grow_zeros (P := Tryz.prog) w 22 3 ty 85 i0 _ .i64 .i64 Tryz.underlying22 Tryz.underlying3 hi0 hz0 (some ⟨g, 0, none⟩) i cap (cs.take (i * 3)) hold (n + 1 - i) (by omega) (by omega) (by omega) (by omega) (by rw [hz2]; omega) (by rw [hz2, hik]; exact growslice_fits hroom (by omega))
    rw [hik, ← hG] at h
    rw [show (n : Int) + (1 : Int) - (i : Int) = ((n + 1 - i : Nat) : Int) by omega, h, hr0, hzs]
    refine congrArg (fun r => Result.ok _ (w.drew.alloc (.cells r 85))) ?_
    apply Array.ext'
    simp
  obtain ⟨W1, hW1⟩ : ∃ W1, w.drew.alloc (.cells r0.toArray 85) = W1 := ⟨_, rfl⟩
  have hn1 : W1.heap[w.heap.size]? = some (.cells r0.toArray 85 (0, 0)) := by rw [← hW1]; exact heap_alloc_new w.drew _
  have hg1 : W1.heap[g]? = w.heap[g]? := by rw [← hW1]; exact heap_alloc_old w.drew _ hgw
  have hv1 : W1.heap[vb]? = w.heap[vb]? := by rw [← hW1]; exact heap_alloc_old w.drew _ hvw
  have hb1 : Below w.heap.size w W1 := by rw [← hW1]; exact (Below.refl _ _).drew.alloc (Nat.le_refl _) _
  rw [hW1] at hrz
  have hcp1 : ∀ (W : World), W.heap = W1.heap → ∀ ty dc, (Builtin.copy_ #[22, 22] ty #[.slice (some ⟨w.heap.size, i * 3, none⟩) (n + 1 - i) dc, .slice (some ⟨vb, 0, none⟩) 1 1]).run Tryz.prog W = .ok (goInt (1 : Nat)) (W.setRow w.heap.size c1.toArray) := fun W hW ty dc => by
    have := run_copy_rowK (P := Tryz.prog) W 22 22 ty 85 3 w.heap.size (i * 3) (n + 1 - i) dc 1 ⟨vb, 0, none⟩ 1 1 r0.toArray 85 [x, y, z] Tryz.underlying22 hsz (by rw [hW]; exact hn1) (by simp only [Nat.min_def]; split <;> omega) rfl
      (fun j v hj => World.news_of_block (w := W) (cs := #[x, y, z]) (t := 85) (fr := (0, 0)) (by rw [hW, hv1]; exact hvb) j v hj) (by simp [hrl]; omega) h1v
    rw [this, hc1]
  obtain ⟨W2, hW2⟩ : ∃ W2, W1.setRow w.heap.size c1.toArray = W2 := ⟨_, rfl⟩
  have hn2 : W2.heap[w.heap.size]? = some (.cells c1.toArray 85 (0, 0)) := by rw [← hW2]; exact setRow_at hn1
  have hg2 : W2.heap[g]? = w.heap[g]? := by rw [← hW2]; exact (setRow_other W1 _ g _ (by omega)).trans hg1
  have hb2 : Below w.heap.size w W2 := by rw [← hW2]; exact setRow_below hb1 (Nat.le_refl _) _
  have hcp2 : ∀ ty dc sc, (Builtin.copy_ #[22, 22] ty #[.slice (some ⟨w.heap.size, (i + 1) * 3, none⟩) (n - i) dc, .slice (some ⟨g, i * 3, none⟩) (n - i) sc]).run Tryz.prog W2.drew = .ok (goInt (n - i : Nat)) (W2.drew.setRow w.heap.size (c1.take ((i + 1) * 3) ++ cs.drop (i * 3) ++ c1.drop ((i + 1) * 3 + (cs.drop (i * 3)).length)).toArray) := fun ty dc sc => by
    have := run_copy_rowK (P := Tryz.prog) W2.drew 22 22 ty 85 3 w.heap.size ((i + 1) * 3) (n - i) dc (n - i) ⟨g, i * 3, none⟩ (n - i) sc c1.toArray 85 (cs.drop (i * 3)) Tryz.underlying22 hsz hn2 (Nat.min_self _).symm hdl
      (fun j v hj => by
        rw [Addr.add_lit]
        rw [List.getElem?_drop] at hj
        exact hcell _ v hj W2.drew hg2) (by simp [k3, hrl]; omega) (fun v hv => h1 v (List.mem_of_mem_drop hv))
    simpa using this
  obtain ⟨c2, hc2⟩ : ∃ c2, c1.take ((i + 1) * 3) ++ cs.drop (i * 3) ++ c1.drop ((i + 1) * 3 + (cs.drop (i * 3)).length) = c2 := ⟨_, rfl⟩
  rw [hc2] at hcp2 k1 k2
  have hn3 : (W2.drew.setRow w.heap.size c2.toArray).heap[w.heap.size]? = some (.cells c2.toArray 85 (0, 0)) := setRow_at hn2
  have hb3 : Below w.heap.size w (W2.drew.setRow w.heap.size c2.toArray) := setRow_below hb2.drew (Nat.le_refl _) _
  have hin : ¬ ((i : Int) = (n : Int)) := by omega
  have hlt : (cap : Int) < (n : Int) + (1 : Int) := by omega
  have hb1 : (0 : Int) ≤ (i : Int) + (1 : Int) := by omega
  have hii : (i : Int) ≤ (n : Int) := by omega
  have hic : (i : Int) ≤ (cap : Int) := by omega
  have htn : ((i : Int) + (1 : Int)).toNat = i + 1 := by omega
  have hb2' : ¬ (G = i + 1) := by omega
  have hb3' : (i : Int) ≤ (n : Int) + (1 : Int) := by omega
  have hb4 : ¬ (cap = i) := by omega
  have hb5 : ¬ (i + 1 = G) := by omega
  have hb6 : ¬ (G = i) := by omega
  have mixed : Tryz.prog.follows Departure.mixedOrders = true := by kernel_rfl
  have hw1 : IntKind.i64.wrap ((i : Int) + (1 : Int)) = (i : Int) + (1 : Int) := by rw [IntKind.wrap_i64]; omega
  have hE : ∀ W : World, W.drew.heap = W.heap := fun _ => rfl
  clear hcell hold hG hzs hr0 hc1 hc2
  go_enter Tryz.func205, Tryz.ntmps205
  go_wp2_with (first
    | (at_builtin; refine Lib.wpList_append_run _ rfl _ _ _ _ rfl _ _ rfl rfl _ _ (hrz _) ?_)
    | (at_builtin; refine wpList_copyRow rfl _ _ 22 22 rfl _ _ rfl rfl (hcp1 _ rfl _ _) ?_))
  go_region_law_o (refine step_copyRow rfl _ _ 22 22 rfl _ _ (by simp [Act.eval, Act.put]) (by simp [Act.eval, Act.put]) (hcp2 _ _ _) ?_)
  go_wp2
  go_ret
  exact ⟨some ⟨w.heap.size, 0, none⟩, G, rfl, ⟨by simp [hcl]; omega, .inr ⟨w.heap.size, G, c2.toArray, rfl, hbg, hn3, hGn, by unfold maxLen; omega, by simpa [hrl] using k2, by simpa using k1⟩⟩, ⟨hb3.os, hb3.tape, hb3.output, hb3.size, fun k hk _ => hb3.block k hk⟩, fun g' hg' => .inr (by simpa [Value.ownBlock] using hg'.symm)⟩
theorem ins_any (v : Value) (n i : Nat) (cs : List Value) (x y z : Value) (vb B : Nat) (w : World) (hown : w.ownsRow B 85 3 v n cs) (hi : i ≤ n) (hvb : w.heap[vb]? = some (.cells #[x, y, z] 85 (0, 0))) (hne : v.ownBlock ≠ some vb)
    (h1 : ∀ u ∈ cs, u.oneCell' = true) (h1v : ∀ u ∈ [x, y, z], u.oneCell' = true) (hn : n ≤ 1000) (hB : B ≤ w.heap.size) :
    Calls Tryz.prog 205 #[v, .int .i64 i, .slice (some ⟨vb, 0, none⟩) 1 1] w (InsR v n i cs [x, y, z] B w) := by
  by_cases hin : i = n
  · subst hin
    exact ins_end v i cs x y z vb B w hown hvb h1v hn hB
  · rcases hown.2 with ⟨rfl, rfl⟩ | ⟨g, cap, cur, rfl, hbg, hg, hnc, hcap, hcs, htk⟩
    · omega
    · by_cases hroom : n + 1 ≤ cap
      · exact ins_room g n i cap cur cs x y z vb B w (by omega) hbg hg hroom hcap hcs htk hvb (fun e => hne (by rw [e]; rfl)) h1 h1v
      · exact ins_grow g n i cap cur cs x y z vb B w (by omega) hB hg hnc (by omega) hcs htk hn hvb h1 h1v
end Go.Proofs.LF
