/- Parts of the proof of a law of layer 11 (file): LfW90, LfW32, LfW28, LfW21, LfW38. The conditions stand in each theorem. -/
import Derived.Shelf.SlSortCmp.NoneTotal
import Derived.Test.YtadkpjgpefcphaaGreatDoorProg
import Derived.Test.YtadkpjgpefcphaaGreatDoorAfac
import Derived.Test.YtadkpjgpefcphaaGreatDoorAfad
import Derived.Test.YtadkpjgpefcphaaGreatDoorAfae
import Derived.Test.YtadkpjgpefcphaaGreatDoorAfag
import Derived.Test.YtadkpjgpefcphaaGreatDoorAfak
import Derived.Test.YtadkpjgpefcphaaGreatDoorAfal
set_option linter.all false
set_option linter.unusedVariables false
set_option linter.unusedSimpArgs false
namespace Go.Proofs.LF
open Go.RowKit Go.Sort
set_option maxHeartbeats 4000000
set_option maxRecDepth 100000
attribute [local go_sem] bs_toList bs_size bs_get
theorem key_elemV {p : List Ky} {i : Nat} (hi : i < p.length) : elemV 3 (p.flatMap Ky.cells) i = .agg #[.string (bs p[i].n), .bool p[i].h, .int .i64 p[i].x] := by
 obtain ⟨h0, h1, h2⟩ := key_cells hi
 simp [elemV, List.range_succ, List.getD_eq_getElem?_getD, h0, h1, h2]
theorem nany (p : Ky → Bool) : ∀ l : List Ky, (!(l.any fun k => !p k)) = l.all p
 | [] => rfl
 | x :: l => by
   have := nany p l
   rw [List.any_cons, List.all_cons, ← this]
   cases p x <;> simp
theorem enters207 : Enters 207 := by intro args W; simp [go_sem]
theorem enters153 : Enters 153 := by intro args W; simp [go_sem]
theorem enters155 : Enters 155 := by intro args W; simp [go_sem]
theorem enters211 : Enters 211 := by intro args W; simp [go_sem]
theorem every1_key (g : Nat) (hE : Enters g) (caps : List Value) (k : Ky) (b : Bool) (bx : Nat) (W : World) (hbx : W.cell? ⟨bx, 0, none⟩ = some (.func (.func g) #[] caps.toArray)) (hlt : bx < W.heap.size)
 (h : ∀ W1, Below W.heap.size W W1 → Calls Tryz.prog g (Value.agg #[.string (bs k.n), .bool k.h, .int .i64 k.x] :: caps).toArray W1 fun e w' => e = .returned (.bool b) ∧ Below W1.heap.size W1 w') :
 Calls Tryz.prog 207 #[.agg #[.string (bs k.n), .bool k.h, .int .i64 k.x], .pointer (some ⟨bx, 0, none⟩)] W fun e w' => e = .returned (.bool (!b)) ∧ Below W.heap.size W w' := by
 have hE' : ∀ (args : Array Value) (W : World), Sem.run Tryz.prog (callFunc g args) W = .ok (.enter g args) W := hE
 have hA := (Below.refl W.heap.size W).alloc (nl_ _) (.cells #[.string (bs k.n), .bool k.h, .int .i64 k.x] 71)
 have H := hid (h _ hA)
 have hb1 := bc_ hA hlt hbx
 have HA := hid hA
 clear hE h hbx hA
 go_enter Tryz.func207, Tryz.ntmps207
 go_wp2_with fail
 refine H.out.mono ?_
 rintro e w' ⟨rfl, hb⟩
 have HB := hid (HA.out.trans (hb.mono (by simp)))
 clear hb
 go_wp2_with fail
 go_ret
 exact ⟨rfl, HB.out⟩
theorem every_key (g : Nat) (hE : Enters g) (p : Ky → Bool) (caps : List Value) (l : List Ky) (a : Option Addr) (c : Nat) (S : Nat → Prop) (w : World) (hl : Pth S w (.slice a l.length c) l) (hS : ∀ b, S b → b < w.heap.size) (hlen : l.length ≤ 100000)
 (hp : ∀ k ∈ l, ∀ W, Below w.heap.size w W → Calls Tryz.prog g (Value.agg #[.string (bs k.n), .bool k.h, .int .i64 k.x] :: caps).toArray W fun e w' => e = .returned (.bool (p k)) ∧ Below W.heap.size W w') :
 Calls Tryz.prog 152 #[.slice a l.length c, .func (.func g) #[] caps.toArray] w fun e w' => e = .returned (.bool (l.all p)) ∧ Below w.heap.size w w' := by
 have HP := hid hp
 clear hp
 go_enter Tryz.func152, Tryz.ntmps152
 go_wp2_with fail
 refine (cont_key 207 enters207 (fun i => !p (l.getD i ⟨[], false, 0⟩)) [.pointer (some ⟨w.heap.size, 0, none⟩)] l.length a c _ S _ (SlC.agree hl (Ag_b (B := w.heap.size) ((Below.refl _ _).alloc (nl_ _) _) hS)) ?_ hlen ?_).mono ?_
 · intro b hb; have := hS b hb; simp; omega
 · intro i hi W hW
   rw [key_elemV hi]
   have hg : l.getD i ⟨[], false, 0⟩ = l[i] := by simp [List.getD_eq_getElem?_getD, hi]
   rw [hg]
   refine every1_key g hE caps l[i] (p l[i]) w.heap.size W (bc_ hW (by simp) (by simp)) (by have := hW.size; simp at this; omega) (fun W1 h1 => HP.out l[i] (List.getElem_mem hi) W1 ?_)
   exact ((Below.refl _ _).alloc (nl_ _) _).trans ((hW.trans (h1.mono hW.size)).mono (by simp))
 · rintro e w' ⟨rfl, hb⟩
   go_wp2_with fail
   go_ret
   refine ⟨ret_bool ?_, ((Below.refl _ _).alloc (nl_ _) _).trans (hb.mono (by simp))⟩
   rw [anyN_list (fun k => !p k) _ l (fun i hi => by simp [List.getD_eq_getElem?_getD, hi])]
   exact nany p l
theorem namedK1 (k : Ky) (W : World) (hk : k.n.length ≤ 1000000) : Calls Tryz.prog 153 #[.agg #[.string (bs k.n), .bool k.h, .int .i64 k.x]] W fun e w' => e = .returned (.bool (!badNm k.n)) ∧ Below W.heap.size W w' := by
 have hA := (Below.refl W.heap.size W).alloc (nl_ _) (.cells #[.string (bs k.n), .bool k.h, .int .i64 k.x] 71)
 have HA := hid hA
 clear hA
 go_enter Tryz.func153, Tryz.ntmps153
 go_wp2_with fail
 refine (named_any k.n _ hk).mono ?_
 rintro e w' ⟨rfl, hb⟩
 have HB := hid (HA.out.trans (hb.mono (by simp)))
 clear hb
 go_wp2_with fail
 go_ret
 exact ⟨rfl, HB.out⟩
theorem numberK1 (k : Ky) (W : World) (hk : k.n.length ≤ 1000000) : Calls Tryz.prog 155 #[.agg #[.string (bs k.n), .bool k.h, .int .i64 k.x]] W fun e w' => e = .returned (.bool (inB k.x 0 9999)) ∧ Below W.heap.size W w' := by
 have hA := (Below.refl W.heap.size W).alloc (nl_ _) (.cells #[.string (bs k.n), .bool k.h, .int .i64 k.x] 71)
 have HA := hid hA
 clear hA
 go_enter Tryz.func155, Tryz.ntmps155
 go_wp2_with fail
 refine (number_any k.x _).mono ?_
 rintro e w' ⟨rfl, hw⟩
 subst hw
 go_wp2_with fail
 go_ret
 exact ⟨rfl, HA.out⟩
theorem plainK1 (k : Ky) (W : World) : Calls Tryz.prog 211 #[.agg #[.string (bs k.n), .bool k.h, .int .i64 k.x]] W fun e w' => e = .returned (.bool (k.h || decide (k.x = 0))) ∧ Below W.heap.size W w' := by
 obtain ⟨n, h, x⟩ := k
 have hA := (Below.refl W.heap.size W).alloc (nl_ _) (.cells #[.string (bs n), .bool h, .int .i64 x] 71)
 have HA := hid hA
 clear hA
 cases h
 · by_cases hx : x = 0
   · subst hx
     go_enter Tryz.func211, Tryz.ntmps211
     go_wp2_with fail
     go_ret
     exact ⟨rfl, HA.out⟩
   · have hx' : (x == 0) = false := by simp [hx]
     go_enter Tryz.func211, Tryz.ntmps211
     go_wp2_with fail
     go_ret
     exact ⟨ret_bool (by simp [hx]), HA.out⟩
 · go_enter Tryz.func211, Tryz.ntmps211
   go_wp2_with fail
   go_ret
   exact ⟨rfl, HA.out⟩
theorem namesK_any (l : List Ky) (a : Option Addr) (c : Nat) (S : Nat → Prop) (w : World) (hl : Pth S w (.slice a l.length c) l) (hS : ∀ b, S b → b < w.heap.size) (hlen : l.length ≤ 1000) (hn : ∀ k ∈ l, k.n.length ≤ 1000) :
 Calls Tryz.prog 152 #[.slice a l.length c, .func (.func 153) #[] #[]] w fun e w' => e = .returned (.bool (l.all fun k => !badNm k.n)) ∧ Below w.heap.size w w' :=
 every_key 153 enters153 (fun k => !badNm k.n) [] l a c S w hl hS (by omega) (fun k hk W _ => namedK1 k W (by have := hn k hk; omega))
theorem numsK_any (l : List Ky) (a : Option Addr) (c : Nat) (S : Nat → Prop) (w : World) (hl : Pth S w (.slice a l.length c) l) (hS : ∀ b, S b → b < w.heap.size) (hlen : l.length ≤ 1000) (hn : ∀ k ∈ l, k.n.length ≤ 1000) :
 Calls Tryz.prog 152 #[.slice a l.length c, .func (.func 155) #[] #[]] w fun e w' => e = .returned (.bool (l.all fun k => inB k.x 0 9999)) ∧ Below w.heap.size w w' :=
 every_key 155 enters155 (fun k => inB k.x 0 9999) [] l a c S w hl hS (by omega) (fun k hk W _ => numberK1 k W (by have := hn k hk; omega))
theorem plainK_any (l : List Ky) (a : Option Addr) (c : Nat) (S : Nat → Prop) (w : World) (hl : Pth S w (.slice a l.length c) l) (hS : ∀ b, S b → b < w.heap.size) (hlen : l.length ≤ 1000) :
 Calls Tryz.prog 152 #[.slice a l.length c, .func (.func 211) #[] #[]] w fun e w' => e = .returned (.bool (l.all fun k => k.h || decide (k.x = 0))) ∧ Below w.heap.size w w' :=
 every_key 211 enters211 (fun k => k.h || decide (k.x = 0)) [] l a c S w hl hS (by omega) (fun k hk W _ => plainK1 k W)
end Go.Proofs.LF
namespace Go.Proofs
def Tryz.laysSort_ren : Go.Shelf.Ren := ⟨fun | 6 => 121 | 15 => 199 | 14 => 198 | 28 => 237 | 29 => 238 | 20 => 229 | 21 => 230 | 22 => 231 | 23 => 232 | 24 => 233 | 25 => 234 | 26 => 235 | 27 => 236 | 46 => 275 | 47 => 276 | 48 => 277 | 49 => 278 | 50 => 279 | 57 => 299 | n => n, fun | 22 => 49 | 24 => 65 | 25 => 175 | 3 => 3 | 39 => 240 | 0 => 0 | 53 => 201 | 55 => 278 | 4 => 4 | 46 => 292 | 45 => 291 | 50 => 265 | 5 => 5 | 9 => 9 | 66 => 325 | 70 => 329 | 76 => 344 | 77 => 345 | n => n, fun | n => n⟩
theorem Tryz.laysSort : Go.Proofs.SlLaysF.n6 Tryz.prog Tryz.laysSort_ren := {
 mixed := by kernel_rfl
 f6 := ⟨Tryz.f121.name, by decide, Tryz.func121.trans (congrArg some (by kernel_rfl))⟩
 f14 := ⟨Tryz.f198.name, by decide, Tryz.func198.trans (congrArg some (by kernel_rfl))⟩
 f15 := Tryz.func199.trans (congrArg some (by kernel_rfl))
 f20 := ⟨Tryz.f229.name, by decide, Tryz.func229.trans (congrArg some (by kernel_rfl))⟩
 f21 := ⟨Tryz.f230.name, by decide, Tryz.func230.trans (congrArg some (by kernel_rfl))⟩
 f22 := ⟨Tryz.f231.name, by decide, Tryz.func231.trans (congrArg some (by kernel_rfl))⟩
 f23 := ⟨Tryz.f232.name, by decide, Tryz.func232.trans (congrArg some (by kernel_rfl))⟩
 f24 := ⟨Tryz.f233.name, by decide, Tryz.func233.trans (congrArg some (by kernel_rfl))⟩
 f25 := ⟨Tryz.f234.name, by decide, Tryz.func234.trans (congrArg some (by kernel_rfl))⟩
 f26 := ⟨Tryz.f235.name, by decide, Tryz.func235.trans (congrArg some (by kernel_rfl))⟩
 f27 := ⟨Tryz.f236.name, by decide, Tryz.func236.trans (congrArg some (by kernel_rfl))⟩
 f28 := Tryz.func237.trans (congrArg some (by kernel_rfl))
 f29 := Tryz.func238.trans (congrArg some (by kernel_rfl))
 f46 := ⟨Tryz.f275.name, by decide, Tryz.func275.trans (congrArg some (by kernel_rfl))⟩
 f47 := Tryz.func276.trans (congrArg some (by kernel_rfl))
 f48 := Tryz.func277.trans (congrArg some (by kernel_rfl))
 f49 := ⟨Tryz.f278.name, by decide, Tryz.func278.trans (congrArg some (by kernel_rfl))⟩
 f50 := ⟨Tryz.f279.name, by decide, Tryz.func279.trans (congrArg some (by kernel_rfl))⟩
 f57 := ⟨Tryz.f299.name, by decide, Tryz.func299.trans (congrArg some (by kernel_rfl))⟩
 t0 := Tryz.underlying0
 a0 := Tryz.isAgg0
 z0 := Tryz.sizeOf0
 v0 := Tryz.zeroValue0
 t3 := Tryz.underlying3
 a3 := Tryz.isAgg3
 z3 := Tryz.sizeOf3
 v3 := Tryz.zeroValue3
 t4 := Tryz.underlying4
 a4 := Tryz.isAgg4
 z4 := Tryz.sizeOf4
 v4 := Tryz.zeroValue4
 t5 := Tryz.underlying5
 a5 := Tryz.isAgg5
 z5 := Tryz.sizeOf5
 v5 := Tryz.zeroValue5
 t9 := Tryz.underlying9
 a9 := Tryz.isAgg9
 z9 := Tryz.sizeOf9
 v9 := Tryz.zeroValue9
 t22 := Tryz.underlying49
 a22 := Tryz.isAgg49
 z22 := Tryz.sizeOf49
 v22 := Tryz.zeroValue49
 a24 := Tryz.isAgg65
 z24 := Tryz.sizeOf65
 t25 := Tryz.underlying175
 a25 := Tryz.isAgg175
 z25 := Tryz.sizeOf175
 v25 := Tryz.zeroValue175
 t39 := Tryz.underlying240
 a39 := Tryz.isAgg240
 z39 := Tryz.sizeOf240
 v39 := Tryz.zeroValue240
 t45 := Tryz.underlying291
 a45 := Tryz.isAgg291
 z45 := Tryz.sizeOf291
 v45 := Tryz.zeroValue291
 t46 := Tryz.underlying292
 a46 := Tryz.isAgg292
 z46 := Tryz.sizeOf292
 v46 := Tryz.zeroValue292
 t50 := Tryz.underlying265
 a50 := Tryz.isAgg265
 z50 := Tryz.sizeOf265
 v50 := Tryz.zeroValue265
 t53 := Tryz.underlying201
 a53 := Tryz.isAgg201
 z53 := Tryz.sizeOf201
 v53 := Tryz.zeroValue201
 t55 := Tryz.underlying278
 a55 := Tryz.isAgg278
 z55 := Tryz.sizeOf278
 v55 := Tryz.zeroValue278
 t66 := Tryz.underlying325
 a66 := Tryz.isAgg325
 z66 := Tryz.sizeOf325
 v66 := Tryz.zeroValue325
 t70 := Tryz.underlying329
 a70 := Tryz.isAgg329
 z70 := Tryz.sizeOf329
 v70 := Tryz.zeroValue329
 t76 := Tryz.underlying344
 a76 := Tryz.isAgg344
 z76 := Tryz.sizeOf344
 v76 := Tryz.zeroValue344
 t77 := Tryz.underlying345
 a77 := Tryz.isAgg345
 z77 := Tryz.sizeOf345
 v77 := Tryz.zeroValue345 }
namespace LF
open Go.RowKit Go.Sort
set_option maxHeartbeats 4000000
set_option maxRecDepth 100000
structure PV where
 v : Value
 p : List Ky
 deriving Inhabited
theorem swoP {α : Type} (f : α → List Ky) : SWO (ltOf (fun x y : α => cmpP (f x) (f y))) where
 irrefl x := by simp [ltOf, cmpP_ord.refl]
 trans x y z h1 h2 := by simp only [ltOf, decide_eq_true_eq] at *; exact cmpP_ord.trans h1 h2
 ntrans x y z h1 h2 := by
  simp only [ltOf, decide_eq_false_iff_not] at *
  intro h
  rcases Int.lt_trichotomy (cmpP (f x) (f y)) 0 with h3 | h3 | h3
  · exact h1 h3
  · rw [cmpP_ord.eq h3] at h; exact h2 h
  · have h4 := cmpP_ord.flop h3
    exact h2 (cmpP_ord.trans h4 h)
theorem sortW_block {α : Type} [Inhabited α] {enc : α → Value} {w : World} {g n b : Nat} {os : Array Obj} {d : Array α} (hb : b < w.heap.size) (hne : b ≠ g) : (sortWorld enc w g 0 n d os).heap[b]? = w.heap[b]? := by
 unfold sortWorld
 rw [heap_grow_old _ _ (by simpa using hb)]
 have : g ≠ b := fun e => hne e.symm
 simp [putRow, mapBlock, Sort.ahead, Array.getElem?_modify, this]
theorem sortW_grown {α : Type} [Inhabited α] {enc : α → Value} {w : World} {g n : Nat} {os : Array Obj} (d : Array α) : w.grownBy (sortWorld enc w g 0 n d os) (some g) :=
 ⟨rfl, rfl, rfl, by unfold sortWorld; simp, fun k hk hne => sortW_block hk (fun e => hne (by rw [e]))⟩
theorem sortW_row {α : Type} [Inhabited α] {enc : α → Value} {w : World} {g n : Nat} {os : Array Obj} {d : Array α} {cur : Array Value} {e : TypeId} (hb : w.heap[g]? = some (.cells cur e (0, 0))) : (sortWorld enc w g 0 n d os).heap[g]? = some (.cells (putCells enc 0 d cur) e (0, 0)) := by
 have hg : g < w.heap.size := (Array.getElem?_eq_some_iff.1 hb).1
 unfold sortWorld
 rw [heap_grow_old _ _ (by simpa using hg)]
 simp [putRow, mapBlock, Sort.ahead, Array.getElem?_modify, hb, onCells]
theorem take_putC {α : Type} [Inhabited α] (enc : α → Value) (cur : Array Value) (d : Array α) (h : d.size ≤ cur.size) : (putCells enc 0 d cur).toList.take d.size = d.toList.map enc := by
 apply List.ext_getElem?
 intro j
 by_cases hj : j < d.size
 · rw [List.getElem?_take_of_lt hj, Array.getElem?_toList]
   simp [putCells, hj, show j < cur.size by omega]
 · rw [List.getElem?_take_eq_none (by omega), List.getElem?_eq_none (by simp; omega)]
abbrev PVs (M : Nat → Prop) (w : World) := { x : PV // (∃ a c, x.v = .slice a x.p.length c) ∧ Pth M w x.v x.p ∧ x.p.length ≤ 1000 }
theorem pvs_of {M : Nat → Prop} {w : World} : ∀ {ps : List (List Ky)} {cs : List Value}, LCs rdPa M w ps cs → (∀ p ∈ ps, p.length ≤ 1000) → ∃ ds : List (PVs M w), ds.map (·.1.v) = cs ∧ ds.map (·.1.p) = ps
 | [], _, h, _ => ⟨[], by rw [show _ = [] from h]; rfl, rfl⟩
 | p :: ps, _, ⟨c, es, h1, ⟨ap, cp, h2, h3⟩, h4⟩, hl => by
   obtain ⟨ds, hd1, hd2⟩ := pvs_of h4 (fun q hq => hl q (by simp [hq]))
   exact ⟨⟨⟨.slice ap p.length cp, p⟩, ⟨ap, cp, rfl⟩, h3, hl p (by simp)⟩ :: ds, by rw [h1, h2, ← hd1]; rfl, by simp [hd2]⟩
theorem pvs_to {M : Nat → Prop} {w : World} : ∀ (ds : List (PVs M w)), LCs rdPa M w (ds.map (·.1.p)) (ds.map (·.1.v))
 | [] => rfl
 | x :: ds => by
   obtain ⟨a, c, h⟩ := x.2.1
   refine ⟨[x.1.v], ds.map (·.1.v), rfl, ⟨a, c, by rw [h], ?_⟩, pvs_to ds⟩
   have := x.2.2.1
   rwa [h] at this
theorem enters103 (args : Array Value) (w : World) : (callFunc 103 args).run Tryz.prog w = .ok (.enter 103 args) w := by simp [go_sem]
theorem sort_any (ps : List (List Ky)) (v : Value) (B : Nat) (cs : List Value) (M : Nat → Prop) (w : World) (hown : w.ownsRow B 65 1 v ps.length cs) (hlc : LCs rdPa M w ps cs) (hM : ∀ b, M b → b < w.heap.size ∧ v.ownBlock ≠ some b) (hps : ∀ p ∈ ps, p.length ≤ 1000) (hl : ps.length ≤ 100000) :
 Calls Tryz.prog 121 #[v, .func (.func 103) #[] #[]] w fun e w' => e = .returned (.tuple #[]) ∧ ∃ cs', w'.ownsRow B 65 1 v ps.length cs' ∧ LCs rdPa M w' (srtP ps) cs' ∧ w.grownBy w' v.ownBlock := by
 by_cases h0 : ps.length = 0
 · obtain rfl := List.eq_nil_of_length_eq_zero h0
   obtain ⟨a, c, rfl, _, _⟩ := owns_shape hown
   refine (AnyF.slices_SortFunc_none (L := { Tryz.laysSort with }) a c (.func (.func 103) #[] #[]) w).mono ?_
   rintro e w' ⟨rfl, rfl⟩
   exact ⟨rfl, cs, hown, by simpa [srtP] using hlc, World.grownBy.refl _ _⟩
 · obtain ⟨h1, ⟨rfl, h2⟩ | ⟨g, cap, cur, rfl, hbg, hgg, hn, hcap, hsz, htk⟩⟩ := hown
   · exact absurd h2 h0
   · obtain ⟨ds, hd1, hd2⟩ := pvs_of hlc hps
     have hdl : ds.length = ps.length := by rw [← hd2]; simp
     have hgl : g < w.heap.size := (Array.getElem?_eq_some_iff.1 hgg).1
     haveI : Inhabited (PVs M w) := ⟨ds[0]'(by omega)⟩
     have hMg : ∀ b, M b → b ≠ g := fun b hb e => (hM b hb).2 (by simp [Value.ownBlock, e])
     have hH : Holds (fun x : PVs M w => x.1.v) w g 0 ds.toArray := by
      intro j hj
      have hj' : j < ds.length := by simpa using hj
      have e1 : cs[j]? = some (ds[j]).1.v := by rw [← hd1]; simp [hj']
      rw [← htk, Nat.mul_one, List.getElem?_take] at e1
      rw [if_pos (by omega)] at e1
      refine ⟨?_, by simp [World.frozen?, hgg]⟩
      simp only [World.cell?, hgg, Nat.zero_add]
      rw [← Array.getElem?_toList, e1]
      simp [hj']
     have hag : ∀ m os (dk : Array (PVs M w)), Agree M w (sortWorld (fun x : PVs M w => x.1.v) w g 0 m dk os) := fun m os dk b hb => sortW_block (hM b hb).1 (hMg b hb)
     have hcmp : CmpLays1 Tryz.prog 103 #[] (fun x : PVs M w => x.1.v) (fun x y => cmpP x.1.p y.1.p) g 0 ds.toArray.size w := by
      intro m os dk hs x y
      obtain ⟨ax, cx, hx⟩ := x.2.1
      obtain ⟨ay, cy, hy⟩ := y.2.1
      have hpx := x.2.2.1
      have hpy := y.2.2.1
      have := byPath_g x.1.p y.1.p ax ay cx cy M (sortWorld (fun x : PVs M w => x.1.v) w g 0 m dk os) ((by rw [← hx]; exact hpx.agree (hag m os dk))) ((by rw [← hy]; exact hpy.agree (hag m os dk))) (fun b hb => by have h9 := (sortW_grown (enc := fun x : PVs M w => x.1.v) (w := w) (g := g) (n := m) (os := os) dk).size; have := (hM b hb).1; omega) x.2.2.2 y.2.2.2
      simp only [hx, hy]
      simpa [Grw] using this
     have hcon := Any.slices_SortFunc Tryz.laysSort (fun x : PVs M w => x.1.v) (fun x => by obtain ⟨a, c, h⟩ := x.2.1; show x.1.v.oneCell' = true; rw [h]; rfl) (fun x y => cmpP x.1.p y.1.p) (swoP fun x : PVs M w => x.1.p) 103 #[] g 0 cap ds.toArray w enters103 hcmp hH hgl (by simp; omega)
     have e1 : ds.toArray.size = ps.length := by simpa using hdl
     rw [e1] at hcon
     refine hcon.mono ?_
     rintro e w' ⟨rfl, d', n, os, ⟨hp1, _, hp3⟩, hs, rfl⟩
     have hps' : (d'.toList.map (·.1.p)).Perm ps := by
      have h3 : d'.toList.Perm ds := by
       have := hp3
       rw [← e1] at this
       rw [Array.extract_eq_self_of_le (by omega), Array.extract_eq_self_of_le (by omega)] at this
       simpa using this
      rw [← hd2]
      exact h3.map _
     have hd's : d'.size = ps.length := by rw [hp1, e1]
     have hsorted : (d'.toList.map (·.1.p)).Pairwise (fun a b => cmpP a b ≤ 0) := by
      rw [List.pairwise_map, List.pairwise_iff_getElem]
      intro i j hi hj hij
      have hi' : i < d'.size := by simpa using hi
      have hj' : j < d'.size := by simpa using hj
      have := hs i j (Nat.zero_le _) hij (by omega)
      simp only [ltOf, decide_eq_false_iff_not] at this
      rw [getElem!_pos d' j hj', getElem!_pos d' i hi'] at this
      simp only [Array.getElem_toList]
      rcases Int.lt_trichotomy (cmpP d'[i].1.p d'[j].1.p) 0 with h | h | h
      · omega
      · omega
      · exact absurd (cmpP_ord.flop h) this
     have hsrt := srtP_of hps' hsorted
     refine ⟨rfl, d'.toList.map (·.1.v), ⟨by simp [hd's], .inr ⟨g, cap, _, rfl, hbg, sortW_row hgg, hn, hcap, by simp [putCells, hsz], ?_⟩⟩, ?_, sortW_grown d'⟩
     · rw [Nat.mul_one, ← hd's]
       exact take_putC _ _ _ (by omega)
     · rw [← hsrt]
       exact (pvs_to d'.toList).agree (hag n os d')
end LF
end Go.Proofs
namespace Go.Proofs.LF
open Go.RowKit Go.Sort
set_option maxHeartbeats 4000000
set_option maxRecDepth 100000
attribute [local go_sem] bs_toList bs_size bs_get
theorem cmpFl_any (p q : List Ky) (ap aq al : Option Addr) (cp cq nl cl : Nat) (S : Nat → Prop) (w : World) (hp : Pth S w (.slice ap p.length cp) p) (hq : Pth S w (.slice aq q.length cq) q) (hS : ∀ b, S b → b < w.heap.size) (lp : p.length ≤ 1000) (lq : q.length ≤ 1000) :
 Calls Tryz.prog 197 #[.agg #[.slice ap p.length cp, .slice al nl cl], .slice aq q.length cq] w fun e w' => e = .returned (.int .i64 (cmpP p q)) ∧ Below w.heap.size w w' := by
 have hb : Below w.heap.size w (w.alloc (.cells #[.slice ap p.length cp, .slice al nl cl] 171)) := (Below.refl _ _).alloc (nl_ _) _
 have ha := Ag_b hb hS
 have H := hid (byPath_any p q ap aq cp cq S _ (hp.agree ha) (hq.agree ha) (fun b h => by have := hS b h; simp; omega) lp lq)
 have HB := hid hb
 clear hb ha hp hq
 go_enter Tryz.func197, Tryz.ntmps197
 go_wp2_with fail
 refine H.out.mono ?_
 rintro e w1 ⟨rfl, hb1⟩
 have HB1 := hid (HB.out.trans (hb1.mono HB.out.size))
 go_wp2_with fail
 go_ret
 exact ⟨rfl, HB1.out⟩
theorem bsearch_any (l : List Fl) (p : List Ky) (al ap : Option Addr) (cl cp : Nat) (S T : Nat → Prop) (w : World) (hv : FlSl S w (.slice al l.length cl) l) (hS : ∀ b, S b → b < w.heap.size) (hp : Pth T w (.slice ap p.length cp) p) (hT : ∀ b, T b → b < w.heap.size)
 (hl : l.length ≤ 1000) (hsm : SmF l) (lp : p.length ≤ 1000) :
 Calls Tryz.prog 196 #[.slice al l.length cl, .slice ap p.length cp, .func (.func 197) #[] #[]] w fun e w' => e = .returned (.tuple #[.int .i64 (fndI l p), .bool (decide (fndI l p < l.length) && decide (cmpP (l.getD (fndI l p) fl0).p p = 0))]) ∧ Below w.heap.size w w' := by
 obtain ⟨a', c', he, hc, hcm, hat⟩ := hv.at
 obtain ⟨rfl, rfl⟩ : al = a' ∧ cl = c' := by cases he; exact ⟨rfl, rfl⟩
 have HAT := hid hat
 have HS := hid hS
 have HT := hid hT
 have HP := hid hp
 have HSM := hid hsm
 clear hat hS hT hp hsm he hv
 unfold maxLen at hcm
 have hcall : ∀ (i : Nat) (hi : i < l.length) (W : World), Below w.heap.size w W → ∃ g o ap2 cp2 an cn, al = some ⟨g, o, none⟩ ∧ W.cell? ⟨g, o + i * 2, none⟩ = some (.slice ap2 l[i].p.length cp2) ∧ W.cell? ⟨g, o + i * 2 + 1, none⟩ = some (.slice an l[i].l.length cn) ∧
  Hid (Calls Tryz.prog 197 #[.agg #[.slice ap2 l[i].p.length cp2, .slice an l[i].l.length cn], .slice ap p.length cp] W fun e w' => e = .returned (.int .i64 (cmpP l[i].p p)) ∧ Below W.heap.size W w') := by
  intro i hi W hB
  obtain ⟨g, o, cs1, rfl, hg, ⟨ap2, cp2, an, cn, rfl, hP, hI⟩, hcell⟩ := HAT.out i hi
  have ha : Agree S w W := Ag_b hB HS.out
  have c0 := ha.cell hg (hcell 0 _ rfl)
  have c1 := ha.cell hg (hcell 1 _ rfl)
  rw [Nat.add_zero] at c0
  rw [← Nat.add_assoc] at c1
  exact ⟨g, o, ap2, cp2, an, cn, rfl, c0, c1, cmpFl_any l[i].p p ap2 ap an cp2 cp _ cn (fun b => S b ∨ T b) W ((hP.agree ha).wide fun b hb => .inl hb) ((HP.out.agree (Ag_b hB HT.out)).wide fun b hb => .inr hb)
   (fun b hb => by have := hB.size; rcases hb with hb | hb; have := HS.out b hb; omega; have := HT.out b hb; omega) (HSM.out _ (List.getElem_mem hi)).1 lp⟩
 have HC := hid hcall
 clear hcall
 go_enter Tryz.func196, Tryz.ntmps196
 go_wp2_with fail
 go_loopw [9, 10] (fun vi vj wr => ∃ i j : Nat, vi = .int .i64 i ∧ vj = .int .i64 j ∧ i ≤ j ∧ j ≤ l.length ∧ Hid (fndI l p = bsF (fun h => decide (cmpP (l.getD h fl0).p p < 0)) i j) ∧ Below w.heap.size w wr) (fun vi vj _ => (intOf vj).toNat - (intOf vi).toNat)
 case atStart => exact ⟨0, l.length, rfl, rfl, Nat.zero_le _, nl_ _, rfl, Below.refl _ _⟩
 case round =>
  obtain ⟨i, j, rfl, rfl, hij, hjl, hF, hB⟩ := hrel
  have hsz := hB.size
  by_cases hlt : i < j
  · have hlt' : (i : Int) < (j : Int) := by omega
    obtain ⟨h, hh⟩ : ∃ h, (i + j) / 2 = h := ⟨_, rfl⟩
    have hhi : ((i : Int) + (j : Int)) / 2 = (h : Int) := by omega
    have hhl : h < l.length := by omega
    have hb1 : i ≤ h := by omega
    have hb2 : h < j := by omega
    have hhl' : (h : Int) < (l.length : Int) := by omega
    have hh0 : (0 : Int) ≤ (h : Int) := by omega
    obtain ⟨g, o, ap2, cp2, an, cn, rfl, c0, c1, H⟩ := HC.out h hhl wr hB
    have hF2 := hF.out
    rw [bsF_go hlt, hh] at hF2
    have hg : l.getD h fl0 = l[h] := by simp [List.getD_eq_getElem?_getD, hhl]
    simp only [hg, decide_eq_true_eq] at hF2
    have HF := hid hF2
    clear hF2 hg hh
    go_wp2_with fail
    refine H.out.mono ?_
    rintro e w2 ⟨rfl, hb3⟩
    have HB := hid (hB.trans (hb3.mono hsz))
    clear hb3
    by_cases hneg : cmpP l[h].p p < 0
    · have hF3 := HF.out
      rw [if_pos hneg] at hF3
      have HF3 := hid hF3
      clear hF3
      go_wp2_with fail
      go_roundw
      case rel => exact ⟨h + 1, j, by go_num, rfl, by omega, hjl, HF3.out, HB.out⟩
      case measure => simp [intOf]; omega
    · have hF3 := HF.out
      rw [if_neg hneg] at hF3
      have HF3 := hid hF3
      clear hF3
      go_wp2_with fail
      go_roundw
      case rel => exact ⟨i, h, rfl, rfl, hb1, by omega, HF3.out, HB.out⟩
      case measure => simp [intOf]; omega
  · obtain rfl : i = j := by omega
    have hlt' : ¬ (i : Int) < (i : Int) := by omega
    by_cases hil : i < l.length
    · have hil' : (i : Int) < (l.length : Int) := by omega
      obtain ⟨g, o, ap2, cp2, an, cn, rfl, c0, c1, H⟩ := HC.out i hil wr hB
      have hF2 := hF.out
      rw [bsF_stop (by omega)] at hF2
      have HF := hid hF2
      clear hF2
      go_wp2_with fail
      refine H.out.mono ?_
      rintro e w2 ⟨rfl, hb3⟩
      have HB := hid (hB.trans (hb3.mono hsz))
      clear hb3
      have hfin : (decide (fndI l p < l.length) && decide (cmpP (l.getD (fndI l p) fl0).p p = 0)) = decide (cmpP l[i].p p = 0) := by
       rw [HF.out]; simp [hil, List.getD_eq_getElem?_getD]
      have HFI := hid hfin
      clear hfin
      by_cases hz : cmpP l[i].p p = 0
      · have hz' : (cmpP l[i].p p == 0) = true := by simp [hz]
        have hzd : decide (cmpP l[i].p p = 0) = true := by simp [hz]
        have HZ := hid hzd
        clear hz hzd
        go_wp2_with fail
        go_ret2
        exact ⟨by rw [HFI.out, HZ.out, HF.out]; simp, HB.out⟩
      · have hz' : (cmpP l[i].p p == 0) = false := by simp [hz]
        have hzd : decide (cmpP l[i].p p = 0) = false := by simp [hz]
        have HZ := hid hzd
        clear hz hzd
        go_wp2_with fail
        go_ret2
        exact ⟨by rw [HFI.out, HZ.out, HF.out]; simp, HB.out⟩
    · have hil' : ¬ (i : Int) < (l.length : Int) := by omega
      have hF2 := hF.out
      rw [bsF_stop (by omega)] at hF2
      have HF := hid hF2
      clear hF2
      have hfin : (decide (fndI l p < l.length) && decide (cmpP (l.getD (fndI l p) fl0).p p = 0)) = false := by
       rw [HF.out]; simp [hil]
      have HFI := hid hfin
      clear hfin
      go_wp2_with fail
      go_ret2
      exact ⟨by have h1 := HF.out; have h2 := HFI.out; rw [h1] at h2 ⊢; simp [hil], hB⟩
end Go.Proofs.LF
namespace Go.Proofs.LF
open Go.RowKit Go.Sort
set_option maxHeartbeats 4000000
set_option maxRecDepth 100000
attribute [local go_sem] bs_toList bs_size bs_get
def RunR (p : UInt8 → Bool) (R : Nat) (t : List UInt8) (i most : Nat) (vs : List Value) (w : World) (e : Ending) (w' : World) : Prop :=
 ∃ s : List UInt8, e = .returned (.string (bs s)) ∧ Hid (s = (t.drop i).take (runN p most (t.drop i))) ∧ Hid (s.length = runN p most (t.drop i)) ∧ Hid (s.length ≤ most ∧ i + s.length ≤ t.length) ∧ Hid (Rdr R t (i + s.length) vs w') ∧ Hid (Keep (· = R) w w')
theorem RunR.of {p : UInt8 → Bool} {R : Nat} {t : List UInt8} {i most : Nat} {vs : List Value} {w : World} {e : Ending} {w' : World} (hi : i ≤ t.length)
 (h : e = .returned (.string (bs ((t.drop i).take (runN p most (t.drop i))))) ∧ Rdr R t (i + runN p most (t.drop i)) vs w' ∧ Keep (· = R) w w') : RunR p R t i most vs w e w' := by
 have hl := runN_le (p := p) (m := most) (l := t.drop i)
 have hs : ((t.drop i).take (runN p most (t.drop i))).length = runN p most (t.drop i) := by rw [List.length_take]; omega
 rw [List.length_drop] at hl
 exact ⟨_, h.1, rfl, hs, by rw [Hid, hs]; omega, by rw [Hid, hs]; exact h.2.1, h.2.2⟩
theorem blank_runs (R : Nat) (t : List UInt8) (i most : Nat) (vs : List Value) (w : World) (hr : Rdr R t i vs w) (ht : t.length ≤ 100000) (hi : i ≤ t.length) (hm : most ≤ 1000) :
 Calls Tryz.prog 184 #[.pointer (some ⟨R, 0, none⟩), .func (.func 225) #[] #[], .int .i64 most] w (RunR blankB R t i most vs w) :=
 (runA_any 225 enters225 blankB R t i most vs w hr ht hi hm fun c W => isBlank_any c W).mono fun _ _ h => RunR.of hi h
theorem small_runs (R : Nat) (t : List UInt8) (i most : Nat) (vs : List Value) (w : World) (hr : Rdr R t i vs w) (ht : t.length ≤ 100000) (hi : i ≤ t.length) (hm : most ≤ 1000) :
 Calls Tryz.prog 184 #[.pointer (some ⟨R, 0, none⟩), .func (.func 187) #[.agg #[.int .u8 97, .int .u8 122]] #[], .int .i64 most] w (RunR smallB R t i most vs w) :=
 (runB_any 97 122 smallB R t i most vs w hr ht hi hm fun c W => has_any 97 122 c.toNat W).mono fun _ _ h => RunR.of hi h
theorem digit_runs (R : Nat) (t : List UInt8) (i most : Nat) (vs : List Value) (w : World) (hr : Rdr R t i vs w) (ht : t.length ≤ 100000) (hi : i ≤ t.length) (hm : most ≤ 1000) :
 Calls Tryz.prog 184 #[.pointer (some ⟨R, 0, none⟩), .func (.func 187) #[.agg #[.int .u8 48, .int .u8 57]] #[], .int .i64 most] w (RunR digitB R t i most vs w) :=
 (runB_any 48 57 digitB R t i most vs w hr ht hi hm fun c W => has_any 48 57 c.toNat W).mono fun _ _ h => RunR.of hi h
end Go.Proofs.LF
namespace Go.Proofs.LF
open Go.RowKit Go.Sort
set_option maxHeartbeats 4000000
set_option maxRecDepth 100000
attribute [local go_sem] bs_toList bs_size bs_get
theorem fstK_sm {k : Ky} {n : List UInt8} {l : List Int} {s : Fo} : ∀ {y : Fo}, y.Sm → fstK k y = some (n, l, s) → n.length ≤ 1000 ∧ l.length ≤ 1000 ∧ s.len ≤ 1000 ∧ s.Sm
 | .nil, _, h => by cases h
 | .cons n' l' s' r, ⟨h1, h2, h3, h4, h5⟩, h => by
   simp only [fstK] at h
   split at h
   · cases h; exact ⟨h1, h2, h3, h4⟩
   · exact fstK_sm h5 h
theorem atF_sm {n : List UInt8} {l : List Int} {s : Fo} : ∀ {p : List Ky} {y : Fo}, y.Sm → atF y p = some (n, l, s) → n.length ≤ 1000 ∧ l.length ≤ 1000 ∧ s.len ≤ 1000 ∧ s.Sm
 | [], y, _, h => by cases y <;> cases h
 | k :: r, y, hy, h => by
   have e : atF y (k :: r) = match fstK k y with | none => none | some x => if r = [] then some x else atF x.2.2 r := by cases y <;> rfl
   rw [e] at h
   cases hk : fstK k y with
   | none => rw [hk] at h; cases h
   | some x =>
     rw [hk] at h
     obtain ⟨n', l', s'⟩ := x
     simp only at h
     split at h
     · cases h; exact fstK_sm hy hk
     · exact atF_sm (fstK_sm hy hk).2.2.2 h
theorem one_node {S : Nat → Prop} {w : World} {b : Nat} {n : List UInt8} {l : List Int} {s : Fo} {vn vs : Value} {t : TypeId} {fr : Nat × Nat} (hb : w.heap[b]? = some (.cells #[.string (bs n), vn, vs] t fr)) (h1 : Ints S w vn l) (h2 : FSl S w vs s) :
 FSl (fun x => S x ∨ x = b) w (.slice (some ⟨b, 0, none⟩) 1 1) (.cons n l s .nil) := by
 obtain ⟨ds, h3, h4⟩ := h2
 refine ⟨[.string (bs n), vn, vs], ⟨by rfl, some ⟨b, 0, none⟩, 1, rfl, nl_ _, by simp [maxLen], (fun h => by cases h), .inr ⟨b, 0, rfl, .inr rfl, fun j u hj => ?_⟩⟩, vn, vs, [], rfl, h1.wide (fun _ h => .inl h), ⟨ds, h3.wide (fun _ h => .inl h), h4.wide (fun _ h => .inl h)⟩, rfl⟩
 rw [Nat.zero_add]
 simp only [World.cell?, hb]
 simpa using hj
def getE (y : Fo) (p : List Ky) : Int := if chkY y ≠ 0 then chkY y else if (atF y p).isSome then 0 else 1
def getN (y : Fo) (p : List Ky) : List UInt8 × List Int × Fo := if getE y p = 0 then (atF y p).getD ([], [], .nil) else ([], [], .nil)
theorem ret56 {tmps : Array Value} {W : World} {b : Nat} {x y z t5 : Value} (h : W.heap[b]? = some (.cells #[x, y, z] 85 (0, 0))) (h2 : tmps.getD 4 undef = .pointer (some ⟨b, 0, none⟩)) (h3 : tmps.getD 5 undef = t5) :
 (results Tryz.f56 tmps).run Tryz.prog W = .ok (.tuple #[.agg #[x, y, z], t5]) W := by
 have h0 := cg_ h (k := 0) rfl
 have h1 := cg_ h (k := 1) rfl
 have h4 := cg_ h (k := 2) rfl
 rw [results_cell_tmp rfl, h2, h3]
 simp [go_sem, h0, h1, h4]
theorem below_set3 {lo b : Nat} {w W : World} {x y z : Value} (h : Below lo w W) (hb : lo ≤ b) : Below lo w (((W.setCell ⟨b, 0, none⟩ x).setCell ⟨b, 1, none⟩ y).setCell ⟨b, 2, none⟩ z) :=
 Below.setCell (Below.setCell (Below.setCell h (p := ⟨b, 0, none⟩) hb _) (p := ⟨b, 1, none⟩) hb _) (p := ⟨b, 2, none⟩) hb _
def GetR (y : Fo) (p : List Ky) (w : World) (e : Ending) (w' : World) : Prop :=
 ∃ n l s an cn ab cb, getN y p = (n, l, s) ∧ e = .returned (.tuple #[.agg #[.string (bs n), .slice an l.length cn, .slice ab s.len cb], .int .i64 (getE y p)]) ∧
  Ints (Rg w.heap.size w'.heap.size) w' (.slice an l.length cn) l ∧ FSl (Rg w.heap.size w'.heap.size) w' (.slice ab s.len cb) s ∧ Below w.heap.size w w'
theorem GetR.bad {y : Fo} {p : List Ky} {w w' : World} {x : Int} (hx : getE y p = x) (h0 : x ≠ 0) (hb : Below w.heap.size w w') : GetR y p w (.returned (.tuple #[.agg #[.string { data := #[] }, .slice none 0 0, .slice none 0 0], .int .i64 x])) w' := by
 subst hx
 exact ⟨[], [], .nil, none, 0, none, 0, by simp [getN, h0], rfl, ⟨rfl, _, 0, rfl, nl_ _, by simp [maxLen], fun _ => rfl, .inl rfl⟩, ⟨[], ⟨rfl, _, 0, rfl, nl_ _, by simp [maxLen], fun _ => rfl, .inl rfl⟩, rfl⟩, hb⟩
theorem own_one (n : List UInt8) (l : List Int) (s : Fo) (vn vs : Value) (b : Nat) (t : TypeId) (fr : Nat × Nat) (S : Nat → Prop) (W : World) (hb : W.heap[b]? = some (.cells #[.string (bs n), vn, vs] t fr)) (h1 : Ints S W vn l) (h2 : FSl S W vs s)
 (hS : ∀ b, S b → b < W.heap.size) (s1 : n.length ≤ 1000) (s2 : l.length ≤ 1000) (s3 : s.len ≤ 1000) (s4 : s.Sm) :
 Calls Tryz.prog 133 #[.slice (some ⟨b, 0, none⟩) 1 1] W fun e w' => ∃ g o c an cn ab cb, e = .returned (.slice (some ⟨g, o, none⟩) 1 c) ∧ 1 ≤ c ∧ W.heap.size ≤ g ∧ w'.cell? ⟨g, o, none⟩ = some (.string (bs n)) ∧ w'.cell? ⟨g, o + 1, none⟩ = some (.slice an l.length cn) ∧ w'.cell? ⟨g, o + 2, none⟩ = some (.slice ab s.len cb) ∧
  Ints (Rg W.heap.size w'.heap.size) w' (.slice an l.length cn) l ∧ FSl (Rg W.heap.size w'.heap.size) w' (.slice ab s.len cb) s ∧ Below W.heap.size W w' := by
 have hlt : b < W.heap.size := (Array.getElem?_eq_some_iff.1 hb).1
 refine (own_any _ (.cons n l s .nil) (some ⟨b, 0, none⟩) 1 (fun x => S x ∨ x = b) W (Nat.lt_succ_self _) (one_node hb h1 h2) (fun x hx => hx.elim (hS x) (fun h => by omega)) (by simp [Fo.len]) ⟨s1, s2, s3, s4, trivial⟩).mono ?_
 rintro e w' ⟨a, c, rfl, hF, hbel⟩
 obtain ⟨a', c', he, hc1, _, hat⟩ := hF.fsl.at
 cases he
 obtain ⟨g, o, n', l', s', r', an, cn, ab, cb, rfl, hg, hd, m0, m1, m2, hI, hFs⟩ := hat 0 (by simp [Fo.len])
 simp only [Fo.drop, Fo.cons.injEq] at hd
 obtain ⟨rfl, rfl, rfl, rfl⟩ := hd
 simp only [Nat.zero_mul, Nat.add_zero] at m0 m1 m2
 exact ⟨g, o, c, an, cn, ab, cb, rfl, hc1, hg.1, m0, m1, m2, hI, hFs, hbel⟩
theorem Get_any (y : Fo) (p : List Ky) (ay ap : Option Addr) (cy cp : Nat) (S T : Nat → Prop) (w : World) (hv : FSl S w (.slice ay y.len cy) y) (hS : ∀ b, S b → b < w.heap.size) (hp : Pth T w (.slice ap p.length cp) p) (hT : ∀ b, T b → b < w.heap.size)
 (hlen : y.len ≤ 1000) (hsm : y.Sm) (hcnt : y.cnt ≤ 900) (lp : p.length ≤ 1000) :
 Calls Tryz.prog 56 #[.slice ay y.len cy, .slice ap p.length cp] w (GetR y p w) := by
 have hb0 : Below w.heap.size w (w.alloc (.cells #[.string { data := #[] }, .slice none 0 0, .slice none 0 0] 85)) := (Below.refl _ _).alloc (nl_ _) _
 have hR0 := hid (heap_alloc_new w (.cells #[.string { data := #[] }, .slice none 0 0, .slice none 0 0] 85))
 have HC := hid (Check_any y ay cy S _ (hv.agree (Ag_b hb0 hS)) (fun b hb => by have := hS b hb; simp; omega) hlen hsm hcnt)
 have HB0 := hid hb0
 have HV := hid hv
 have HP := hid hp
 have HS := hid hS
 have HT := hid hT
 have HSM := hid hsm
 clear hb0 hv hp hS hT hsm
 by_cases hc : chkY y = 0
 · go_enter Tryz.func56, Tryz.ntmps56
   go_wp2_with fail
   refine HC.out.mono ?_
   rintro e w1 ⟨rfl, hb1⟩
   have hB1 := HB0.out.trans (hb1.mono (by simp))
   have hR1 := hid ((hb1.block w.heap.size (by simp)).trans hR0.out)
   have hsz1 := hb1.size
   simp only [World.size_alloc] at hsz1
   have HA := hid (at_any y p ay ap cy cp S T w1 (HV.out.agree (Ag_b hB1 HS.out)) (fun b hb => by have := HS.out b hb; omega) (HP.out.agree (Ag_b hB1 HT.out)) (fun b hb => by have := HT.out b hb; omega) hlen HSM.out lp)
   rw [hc]
   have HB1 := hid hB1
   clear hb1 hB1
   go_wp2_with fail
   refine HA.out.mono ?_
   rintro e w2 ⟨n, l, s, an, cn, ab, cb, hat, rfl, hI, hF, hb2⟩
   have hB2 := HB1.out.trans (hb2.mono (by omega))
   have hR2 := hid ((hb2.block w.heap.size (by omega)).trans hR1.out)
   have hsz2 := hb2.size
   have q0 := cg_ hR2.out (k := 0) rfl
   have q1 := cg_ hR2.out (k := 1) rfl
   have q2 := cg_ hR2.out (k := 2) rfl
   have f0 := cells_frz hR2.out (k := 0)
   have f1 := cells_frz hR2.out (k := 1)
   have f2 := cells_frz hR2.out (k := 2)
   have hlt2 : w.heap.size < w2.heap.size := by omega
   have hne2 : w.heap.size ≠ w2.heap.size := by omega
   have HI := hid hI
   have HF := hid hF
   have HB2 := hid hB2
   clear hI hF hb2 hB2
   cases hat' : atF y p with
   | none =>
     have hE := hid (show getE y p = 1 by simp [getE, hc, hat'])
     clear hat
     go_wp2_with fail
     refine bodyPost_ret (v := .tuple #[.agg #[.string { data := #[] }, .slice none 0 0, .slice none 0 0], .int .i64 1]) (ret56 ((heap_alloc_old _ _ (by simpa using hlt2)).trans (node_set hR2.out)) rfl rfl) rfl ?_
     exact GetR.bad hE.out (by decide) ((below_set3 HB2.out (nl_ _)).alloc (by simp; omega) _)
   | some x =>
     have hE := hid (show getE y p = 0 by simp [getE, hc, hat'])
     obtain rfl : x = (n, l, s) := by rw [hat'] at hat; exact hat
     have hG := hid (show getN y p = (n, l, s) by simp [getN, hE.out, hat'])
     obtain ⟨s1, s2, s3, s4⟩ := atF_sm HSM.out hat'
     clear hat hat'
     go_wp2_with fail
     have hBw : Below w.heap.size w ((w2.alloc (.cells #[.string (bs n), .slice an l.length cn, .slice ab s.len cb] 85)).alloc (.cells #[.string (bs n), .slice an l.length cn, .slice ab s.len cb] 85)) := (HB2.out.alloc (by omega) _).alloc (by simp; omega) _
     have hag : Agree S w2 ((w2.alloc (.cells #[.string (bs n), .slice an l.length cn, .slice ab s.len cb] 85)).alloc (.cells #[.string (bs n), .slice an l.length cn, .slice ab s.len cb] 85)) := Ag_b (((Below.refl w2.heap.size w2).alloc (nl_ _) _).alloc (by simp) _) (fun b hb => by have := HS.out b hb; omega)
     have hnb := heap_alloc_new (w2.alloc (.cells #[.string (bs n), .slice an l.length cn, .slice ab s.len cb] 85)) (.cells #[.string (bs n), .slice an l.length cn, .slice ab s.len cb] 85)
     rw [World.size_alloc] at hnb
     refine (own_one n l s _ _ _ _ _ S _ hnb (HI.out.agree hag) (HF.out.agree hag) (fun b hb => by have := HS.out b hb; simp; omega) s1 s2 s3 s4).mono ?_
     rintro e w3 ⟨g3, o3, c3, an3, cn3, ab3, cb3, rfl, hc3, hg3, m0, m1, m2, hI3, hF3, hb3⟩
     have hB3 := hBw.trans (hb3.mono (by simp; omega))
     have hR3 : w3.heap[w.heap.size]? = _ := (hb3.block w.heap.size (by simp; omega)).trans ((heap_alloc_old _ _ (by simp; omega)).trans ((heap_alloc_old _ _ (by omega)).trans hR2.out))
     have e0 := cg_ hR3 (k := 0) rfl
     have e1 := cg_ hR3 (k := 1) rfl
     have e2 := cg_ hR3 (k := 2) rfl
     have p0 := cells_frz hR3 (k := 0)
     have p1 := cells_frz hR3 (k := 1)
     have p2 := cells_frz hR3 (k := 2)
     have hst : Agree (Rg ((w2.alloc (.cells #[.string (bs n), .slice an l.length cn, .slice ab s.len cb] 85)).alloc (.cells #[.string (bs n), .slice an l.length cn, .slice ab s.len cb] 85)).heap.size w3.heap.size) w3 (((w3.setCell ⟨w.heap.size, 0, none⟩ (.string (bs n))).setCell ⟨w.heap.size, 1, none⟩ (.slice an3 l.length cn3)).setCell ⟨w.heap.size, 2, none⟩ (.slice ab3 s.len cb3)) := fun b hb => by
      have h1 := hb.1
      simp only [World.size_alloc] at h1
      have hn : b ≠ w.heap.size := by omega
      rw [Below.heap_setCell _ _ _ _ hn, Below.heap_setCell _ _ _ _ hn, Below.heap_setCell _ _ _ _ hn]
     have HI3 := hid (hI3.agree hst)
     have HF3 := hid (hF3.agree hst)
     have hR3' := hid hR3
     have HB3 := hid hB3
     clear hI3 hF3 hst hR3 hBw hag hnb hB3
     go_wp2_with fail
     refine bodyPost_ret (v := .tuple #[.agg #[.string (bs n), .slice an3 l.length cn3, .slice ab3 s.len cb3], .int .i64 0]) (ret56 (node_set hR3'.out) rfl rfl) rfl ?_
     refine ⟨n, l, s, an3, cn3, ab3, cb3, hG.out, by rw [hE.out], ?_, ?_, below_set3 HB3.out (nl_ _)⟩
     · exact HI3.out.wide (fun b hb => ⟨by have := hb.1; simp at this; omega, by simpa using hb.2⟩)
     · exact HF3.out.wide (fun b hb => ⟨by have := hb.1; simp at this; omega, by simpa using hb.2⟩)
 · go_enter Tryz.func56, Tryz.ntmps56
   go_wp2_with fail
   refine HC.out.mono ?_
   rintro e w1 ⟨rfl, hb1⟩
   have hB1 := HB0.out.trans (hb1.mono (by simp))
   have hR1 := (hb1.block w.heap.size (by simp)).trans hR0.out
   have q0 := cg_ hR1 (k := 0) rfl
   have q1 := cg_ hR1 (k := 1) rfl
   have q2 := cg_ hR1 (k := 2) rfl
   have f0 := cells_frz hR1 (k := 0)
   have f1 := cells_frz hR1 (k := 1)
   have f2 := cells_frz hR1 (k := 2)
   have hsz1 := hb1.size
   simp only [World.size_alloc] at hsz1
   have hb : (chkY y == 0) = false := by simpa using hc
   go_wp2_with fail
   refine bodyPost_ret (v := .tuple #[.agg #[.string { data := #[] }, .slice none 0 0, .slice none 0 0], .int .i64 (chkY y)]) (ret56 (node_set hR1) rfl rfl) rfl ?_
   exact GetR.bad (by simp [getE, hc]) hc (below_set3 hB1 (nl_ _))
end Go.Proofs.LF
