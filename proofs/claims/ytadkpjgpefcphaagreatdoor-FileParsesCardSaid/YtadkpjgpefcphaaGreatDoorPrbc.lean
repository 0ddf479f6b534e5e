/- Parts of the proof of a law of layer 11 (file): LfW32. The conditions stand in each theorem. -/
import Derived.Laws.ResultCell
import Derived.Shelf.SlSortCmp.NoneTotal
import Derived.Test.YtadkpjgpefcphaaGreatDoorProg
import Derived.WalkKit
import Derived.Test.YtadkpjgpefcphaaGreatDoorPrac
import Derived.Test.YtadkpjgpefcphaaGreatDoorPrah
import Derived.Test.YtadkpjgpefcphaaGreatDoorPrbb
set_option linter.all false
set_option linter.unusedVariables false
set_option linter.unusedSimpArgs false
namespace Go.Proofs
def Tryz.laysSort_ren : Go.Shelf.Ren := ⟨fun | 6 => 121 | 15 => 199 | 14 => 198 | 28 => 237 | 29 => 238 | 20 => 229 | 21 => 230 | 22 => 231 | 23 => 232 | 24 => 233 | 25 => 234 | 26 => 235 | 27 => 236 | 46 => 275 | 47 => 276 | 48 => 277 | 49 => 278 | 50 => 279 | 57 => 299 | n => n, fun | 22 => 49 | 24 => 65 | 25 => 175 | 3 => 3 | 39 => 240 | 0 => 0 | 53 => 201 | 55 => 278 | 4 => 4 | 46 => 292 | 45 => 291 | 50 => 265 | 5 => 5 | 9 => 9 | 66 => 325 | 70 => 329 | 76 => 344 | 77 => 345 | n => n, fun | n => n⟩
theorem Tryz.laysSort : Go.Proofs.SlLaysF.n6 Tryz.prog Tryz.laysSort_ren := {
  mixed := by kernel_rfl
  f6 := ⟨Tryz.f121.name, by decide, Tryz.func121.trans (congrArg some (by kernel_rfl))⟩
  f14 := ⟨Tryz.f198.name, by decide, Tryz.func198.trans (congrArg some (by kernel_rfl))⟩
  f15 := Tryz.func199.trans (congrArg some (by kernel_rfl))
  f20 := ⟨Tryz.f229.name, by decide, Tryz.func229.trans (congrArg some (by kernel_rfl))⟩
  f21 := ⟨Tryz.f230.name, by decide, Tryz.func230.trans (congrArg some (by kernel_rfl))⟩
  f22 := ⟨Tryz.f231.name, by decide, Tryz.func231.trans (congrArg some (by kernel_rfl))⟩
  f23 := ⟨Tryz.f232.name, by decide, Tryz.func232.trans (congrArg some (by kernel_rfl))⟩
  f24 := ⟨Tryz.f233.name, by decide, Tryz.func233.trans (congrArg some (by kernel_rfl))⟩
  f25 := ⟨Tryz.f234.name, by decide, Tryz.func234.trans (congrArg some (by kernel_rfl))⟩
  f26 := ⟨Tryz.f235.name, by decide, Tryz.func235.trans (congrArg some (by kernel_rfl))⟩
  f27 := ⟨Tryz.f236.name, by decide, Tryz.func236.trans (congrArg some (by kernel_rfl))⟩
  f28 := Tryz.func237.trans (congrArg some (by kernel_rfl))
  f29 := Tryz.func238.trans (congrArg some (by kernel_rfl))
  f46 := ⟨Tryz.f275.name, by decide, Tryz.func275.trans (congrArg some (by kernel_rfl))⟩
  f47 := Tryz.func276.trans (congrArg some (by kernel_rfl))
  f48 := Tryz.func277.trans (congrArg some (by kernel_rfl))
  f49 := ⟨Tryz.f278.name, by decide, Tryz.func278.trans (congrArg some (by kernel_rfl))⟩
  f50 := ⟨Tryz.f279.name, by decide, Tryz.func279.trans (congrArg some (by kernel_rfl))⟩
  f57 := ⟨Tryz.f299.name, by decide, Tryz.func299.trans (congrArg some (by kernel_rfl))⟩
  t0 := Tryz.underlying0
  a0 := Tryz.isAgg0
  z0 := Tryz.sizeOf0
  v0 := Tryz.zeroValue0
  t3 := Tryz.underlying3
  a3 := Tryz.isAgg3
  z3 := Tryz.sizeOf3
  v3 := Tryz.zeroValue3
  t4 := Tryz.underlying4
  a4 := Tryz.isAgg4
  z4 := Tryz.sizeOf4
  v4 := Tryz.zeroValue4
  t5 := Tryz.underlying5
  a5 := Tryz.isAgg5
  z5 := Tryz.sizeOf5
  v5 := Tryz.zeroValue5
  t9 := Tryz.underlying9
  a9 := Tryz.isAgg9
  z9 := Tryz.sizeOf9
  v9 := Tryz.zeroValue9
  t22 := Tryz.underlying49
  a22 := Tryz.isAgg49
  z22 := Tryz.sizeOf49
  v22 := Tryz.zeroValue49
  a24 := Tryz.isAgg65
  z24 := Tryz.sizeOf65
  t25 := Tryz.underlying175
  a25 := Tryz.isAgg175
  z25 := Tryz.sizeOf175
  v25 := Tryz.zeroValue175
  t39 := Tryz.underlying240
  a39 := Tryz.isAgg240
  z39 := Tryz.sizeOf240
  v39 := Tryz.zeroValue240
  t45 := Tryz.underlying291
  a45 := Tryz.isAgg291
  z45 := Tryz.sizeOf291
  v45 := Tryz.zeroValue291
  t46 := Tryz.underlying292
  a46 := Tryz.isAgg292
  z46 := Tryz.sizeOf292
  v46 := Tryz.zeroValue292
  t50 := Tryz.underlying265
  a50 := Tryz.isAgg265
  z50 := Tryz.sizeOf265
  v50 := Tryz.zeroValue265
  t53 := Tryz.underlying201
  a53 := Tryz.isAgg201
  z53 := Tryz.sizeOf201
  v53 := Tryz.zeroValue201
  t55 := Tryz.underlying278
  a55 := Tryz.isAgg278
  z55 := Tryz.sizeOf278
  v55 := Tryz.zeroValue278
  t66 := Tryz.underlying325
  a66 := Tryz.isAgg325
  z66 := Tryz.sizeOf325
  v66 := Tryz.zeroValue325
  t70 := Tryz.underlying329
  a70 := Tryz.isAgg329
  z70 := Tryz.sizeOf329
  v70 := Tryz.zeroValue329
  t76 := Tryz.underlying344
  a76 := Tryz.isAgg344
  z76 := Tryz.sizeOf344
  v76 := Tryz.zeroValue344
  t77 := Tryz.underlying345
  a77 := Tryz.isAgg345
  z77 := Tryz.sizeOf345
  v77 := Tryz.zeroValue345 }
namespace LF
open Go.RowKit Go.Sort
set_option maxHeartbeats 4000000
set_option maxRecDepth 100000
structure PV where
  v : Value
  p : List Ky
  deriving Inhabited
theorem swoP {α : Type} (f : α → List Ky) : SWO (ltOf (fun x y : α => cmpP (f x) (f y))) where
  irrefl x := by simp [ltOf, cmpP_ord.refl]
  trans x y z h1 h2 := by simp only [ltOf, decide_eq_true_eq] at *; exact cmpP_ord.trans h1 h2
  ntrans x y z h1 h2 := by
    simp only [ltOf, decide_eq_false_iff_not] at *
    intro h
    rcases Int.lt_trichotomy (cmpP (f x) (f y)) 0 with h3 | h3 | h3
    · exact h1 h3
    · rw [cmpP_ord.eq h3] at h; exact h2 h
    · have h4 := cmpP_ord.flop h3
      exact h2 (cmpP_ord.trans h4 h)
theorem sortW_block {α : Type} [Inhabited α] {enc : α → Value} {w : World} {g n b : Nat} {os : Array Obj} {d : Array α} (hb : b < w.heap.size) (hne : b ≠ g) : (sortWorld enc w g 0 n d os).heap[b]? = w.heap[b]? := by
  unfold sortWorld
  rw [heap_grow_old _ _ (by simpa using hb)]
  have : g ≠ b := fun e => hne e.symm
  simp [putRow, mapBlock, Sort.ahead, Array.getElem?_modify, this]
theorem sortW_grown {α : Type} [Inhabited α] {enc : α → Value} {w : World} {g n : Nat} {os : Array Obj} (d : Array α) : w.grownBy (sortWorld enc w g 0 n d os) (some g) :=
  ⟨rfl, rfl, rfl, by unfold sortWorld; simp, fun k hk hne => sortW_block hk (fun e => hne (by rw [e]))⟩
theorem sortW_row {α : Type} [Inhabited α] {enc : α → Value} {w : World} {g n : Nat} {os : Array Obj} {d : Array α} {cur : Array Value} {e : TypeId} (hb : w.heap[g]? = some (.cells cur e (0, 0))) : (sortWorld enc w g 0 n d os).heap[g]? = some (.cells (putCells enc 0 d cur) e (0, 0)) := by
  have hg : g < w.heap.size := (Array.getElem?_eq_some_iff.1 hb).1
  unfold sortWorld
  rw [heap_grow_old _ _ (by simpa using hg)]
  simp [putRow, mapBlock, Sort.ahead, Array.getElem?_modify, hb, onCells]
theorem take_putC {α : Type} [Inhabited α] (enc : α → Value) (cur : Array Value) (d : Array α) (h : d.size ≤ cur.size) : (putCells enc 0 d cur).toList.take d.size = d.toList.map enc := by
  apply List.ext_getElem?
  intro j
  by_cases hj : j < d.size
  · rw [List.getElem?_take_of_lt hj, Array.getElem?_toList]
    simp [putCells, hj, show j < cur.size by omega]
  · rw [List.getElem?_take_eq_none (by omega), List.getElem?_eq_none (by simp; omega)]
abbrev PVs (M : Nat → Prop) (w : World) := { x : PV // (∃ a c, x.v = .slice a x.p.length c) ∧ Pth M w x.v x.p ∧ x.p.length ≤ 1000 }
theorem pvs_of {M : Nat → Prop} {w : World} : ∀ {ps : List (List Ky)} {cs : List Value}, LCs rdPa M w ps cs → (∀ p ∈ ps, p.length ≤ 1000) → ∃ ds : List (PVs M w), ds.map (·.1.v) = cs ∧ ds.map (·.1.p) = ps
  | [], _, h, _ => ⟨[], by rw [show _ = [] from h]; rfl, rfl⟩
  | p :: ps, _, ⟨c, es, h1, ⟨ap, cp, h2, h3⟩, h4⟩, hl => by
    obtain ⟨ds, hd1, hd2⟩ := pvs_of h4 (fun q hq => hl q (by simp [hq]))
    exact ⟨⟨⟨.slice ap p.length cp, p⟩, ⟨ap, cp, rfl⟩, h3, hl p (by simp)⟩ :: ds, by rw [h1, h2, ← hd1]; rfl, by simp [hd2]⟩
theorem pvs_to {M : Nat → Prop} {w : World} : ∀ (ds : List (PVs M w)), LCs rdPa M w (ds.map (·.1.p)) (ds.map (·.1.v))
  | [] => rfl
  | x :: ds => by
    obtain ⟨a, c, h⟩ := x.2.1
    refine ⟨[x.1.v], ds.map (·.1.v), rfl, ⟨a, c, by rw [h], ?_⟩, pvs_to ds⟩
    have := x.2.2.1
    rwa [h] at this
theorem enters103 (args : Array Value) (w : World) : (callFunc 103 args).run Tryz.prog w = .ok (.enter 103 args) w := by simp [go_sem]
theorem sort_any (ps : List (List Ky)) (v : Value) (B : Nat) (cs : List Value) (M : Nat → Prop) (w : World) (hown : w.ownsRow B 65 1 v ps.length cs) (hlc : LCs rdPa M w ps cs) (hM : ∀ b, M b → b < w.heap.size ∧ v.ownBlock ≠ some b) (hps : ∀ p ∈ ps, p.length ≤ 1000) (hl : ps.length ≤ 100000) :
    Calls Tryz.prog 121 #[v, .func (.func 103) #[] #[]] w fun e w' => e = .returned (.tuple #[]) ∧ ∃ cs', w'.ownsRow B 65 1 v ps.length cs' ∧ LCs rdPa M w' (srtP ps) cs' ∧ w.grownBy w' v.ownBlock := by
  by_cases h0 : ps.length = 0
  · obtain rfl := List.eq_nil_of_length_eq_zero h0
    obtain ⟨a, c, rfl, _, _⟩ := owns_shape hown
    refine (AnyF.slices_SortFunc_none (L := { Tryz.laysSort with }) a c (.func (.func 103) #[] #[]) w).mono ?_
    rintro e w' ⟨rfl, rfl⟩
    exact ⟨rfl, cs, hown, by simpa [srtP] using hlc, World.grownBy.refl _ _⟩
  · obtain ⟨h1, ⟨rfl, h2⟩ | ⟨g, cap, cur, rfl, hbg, hgg, hn, hcap, hsz, htk⟩⟩ := hown
    · exact absurd h2 h0
    · obtain ⟨ds, hd1, hd2⟩ := pvs_of hlc hps
      have hdl : ds.length = ps.length := by rw [← hd2]; simp
      have hgl : g < w.heap.size := (Array.getElem?_eq_some_iff.1 hgg).1
      haveI : Inhabited (PVs M w) := ⟨ds[0]'(by omega)⟩
      have hMg : ∀ b, M b → b ≠ g := fun b hb e => (hM b hb).2 (by simp [Value.ownBlock, e])
      have hH : Holds (fun x : PVs M w => x.1.v) w g 0 ds.toArray := by
        intro j hj
        have hj' : j < ds.length := by simpa using hj
        have e1 : cs[j]? = some (ds[j]).1.v := by rw [← hd1]; simp [hj']
        rw [← htk, Nat.mul_one, List.getElem?_take] at e1
        rw [if_pos (by omega)] at e1
        refine ⟨?_, by simp [World.frozen?, hgg]⟩
        simp only [World.cell?, hgg, Nat.zero_add]
        rw [← Array.getElem?_toList, e1]
        simp [hj']
      have hag : ∀ m os (dk : Array (PVs M w)), Agree M w (sortWorld (fun x : PVs M w => x.1.v) w g 0 m dk os) := fun m os dk b hb => sortW_block (hM b hb).1 (hMg b hb)
      have hcmp : CmpLays1 Tryz.prog 103 #[] (fun x : PVs M w => x.1.v) (fun x y => cmpP x.1.p y.1.p) g 0 ds.toArray.size w := by
        intro m os dk hs x y
        obtain ⟨ax, cx, hx⟩ := x.2.1
        obtain ⟨ay, cy, hy⟩ := y.2.1
        have hpx := x.2.2.1
        have hpy := y.2.2.1
        have := byPath_g x.1.p y.1.p ax ay cx cy M (sortWorld (fun x : PVs M w => x.1.v) w g 0 m dk os) ((by rw [← hx]; exact hpx.agree (hag m os dk))) ((by rw [← hy]; exact hpy.agree (hag m os dk))) (fun b hb => by have h9 := (sortW_grown (enc := fun x : PVs M w => x.1.v) (w := w) (g := g) (n := m) (os := os) dk).size; have := (hM b hb).1; omega) x.2.2.2 y.2.2.2
        simp only [hx, hy]
        simpa [Grw] using this
      have hcon := Any.slices_SortFunc Tryz.laysSort (fun x : PVs M w => x.1.v) (fun x => by obtain ⟨a, c, h⟩ := x.2.1; show x.1.v.oneCell' = true; rw [h]; rfl) (fun x y => cmpP x.1.p y.1.p) (swoP fun x : PVs M w => x.1.p) 103 #[] g 0 cap ds.toArray w enters103 hcmp hH hgl (by simp; omega)
      have e1 : ds.toArray.size = ps.length := by simpa using hdl
      rw [e1] at hcon
      refine hcon.mono ?_
      rintro e w' ⟨rfl, d', n, os, ⟨hp1, _, hp3⟩, hs, rfl⟩
      have hps' : (d'.toList.map (·.1.p)).Perm ps := by
        have h3 : d'.toList.Perm ds := by
          have := hp3
          rw [← e1] at this
          rw [Array.extract_eq_self_of_le (by omega), Array.extract_eq_self_of_le (by omega)] at this
          simpa using this
        rw [← hd2]
        exact h3.map _
      have hd's : d'.size = ps.length := by rw [hp1, e1]
      have hsorted : (d'.toList.map (·.1.p)).Pairwise (fun a b => cmpP a b ≤ 0) := by
        rw [List.pairwise_map, List.pairwise_iff_getElem]
        intro i j hi hj hij
        have hi' : i < d'.size := by simpa using hi
        have hj' : j < d'.size := by simpa using hj
        have := hs i j (Nat.zero_le _) hij (by omega)
        simp only [ltOf, decide_eq_false_iff_not] at this
        rw [getElem!_pos d' j hj', getElem!_pos d' i hi'] at this
        simp only [Array.getElem_toList]
        rcases Int.lt_trichotomy (cmpP d'[i].1.p d'[j].1.p) 0 with h | h | h
        · omega
        · omega
        · exact absurd (cmpP_ord.flop h) this
      have hsrt := srtP_of hps' hsorted
      refine ⟨rfl, d'.toList.map (·.1.v), ⟨by simp [hd's], .inr ⟨g, cap, _, rfl, hbg, sortW_row hgg, hn, hcap, by simp [putCells, hsz], ?_⟩⟩, ?_, sortW_grown d'⟩
      · rw [Nat.mul_one, ← hd's]
        exact take_putC _ _ _ (by omega)
      · rw [← hsrt]
        exact (pvs_to d'.toList).agree (hag n os d')
end LF
end Go.Proofs
