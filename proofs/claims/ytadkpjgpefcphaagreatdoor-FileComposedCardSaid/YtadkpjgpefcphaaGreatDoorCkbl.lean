/- Parts of the proof of a law of layer 11 (file): LfW102, LfW67. The conditions stand in each theorem. -/
import Derived.Test.YtadkpjgpefcphaaGreatDoorProg
import Derived.Test.YtadkpjgpefcphaaGreatDoorCkad
import Derived.Test.YtadkpjgpefcphaaGreatDoorCkae
import Derived.Test.YtadkpjgpefcphaaGreatDoorCkaf
import Derived.Test.YtadkpjgpefcphaaGreatDoorCkag
import Derived.Test.YtadkpjgpefcphaaGreatDoorCkai
import Derived.Test.YtadkpjgpefcphaaGreatDoorCkan
import Derived.Test.YtadkpjgpefcphaaGreatDoorCkax
import Derived.Test.YtadkpjgpefcphaaGreatDoorCkbc
import Derived.Test.YtadkpjgpefcphaaGreatDoorCkbd
import Derived.Test.YtadkpjgpefcphaaGreatDoorCkbf
import Derived.Test.YtadkpjgpefcphaaGreatDoorCkbj
set_option linter.all false
set_option linter.unusedVariables false
set_option linter.unusedSimpArgs false
namespace Go.Proofs
def Tryz.laysSortC_ren : Go.Shelf.Ren := ⟨fun | 6 => 170 | 15 => 199 | 14 => 213 | 28 => 237 | 29 => 238 | 20 => 251 | 21 => 252 | 22 => 253 | 23 => 254 | 24 => 255 | 25 => 256 | 26 => 257 | 27 => 258 | 46 => 284 | 47 => 276 | 48 => 277 | 49 => 285 | 50 => 286 | 57 => 302 | n => n, fun | 22 => 62 | 24 => 68 | 25 => 239 | 3 => 3 | 39 => 240 | 0 => 0 | 53 => 201 | 55 => 278 | 4 => 4 | 46 => 292 | 45 => 291 | 50 => 265 | 5 => 5 | 9 => 9 | 66 => 325 | 70 => 329 | 76 => 344 | 77 => 345 | n => n, fun | n => n⟩
theorem Tryz.laysSortC : Go.Proofs.SlLaysF0.n6 Tryz.prog Tryz.laysSortC_ren := {
 mixed := by kernel_rfl
 f6 := ⟨Tryz.f170.name, by decide, Tryz.func170.trans (congrArg some (by kernel_rfl))⟩
 f14 := ⟨Tryz.f213.name, by decide, Tryz.func213.trans (congrArg some (by kernel_rfl))⟩
 f15 := Tryz.func199.trans (congrArg some (by kernel_rfl))
 f20 := ⟨Tryz.f251.name, by decide, Tryz.func251.trans (congrArg some (by kernel_rfl))⟩
 f21 := ⟨Tryz.f252.name, by decide, Tryz.func252.trans (congrArg some (by kernel_rfl))⟩
 f22 := ⟨Tryz.f253.name, by decide, Tryz.func253.trans (congrArg some (by kernel_rfl))⟩
 f23 := ⟨Tryz.f254.name, by decide, Tryz.func254.trans (congrArg some (by kernel_rfl))⟩
 f24 := ⟨Tryz.f255.name, by decide, Tryz.func255.trans (congrArg some (by kernel_rfl))⟩
 f25 := ⟨Tryz.f256.name, by decide, Tryz.func256.trans (congrArg some (by kernel_rfl))⟩
 f26 := ⟨Tryz.f257.name, by decide, Tryz.func257.trans (congrArg some (by kernel_rfl))⟩
 f27 := ⟨Tryz.f258.name, by decide, Tryz.func258.trans (congrArg some (by kernel_rfl))⟩
 f28 := Tryz.func237.trans (congrArg some (by kernel_rfl))
 f29 := Tryz.func238.trans (congrArg some (by kernel_rfl))
 f46 := ⟨Tryz.f284.name, by decide, Tryz.func284.trans (congrArg some (by kernel_rfl))⟩
 f47 := Tryz.func276.trans (congrArg some (by kernel_rfl))
 f48 := Tryz.func277.trans (congrArg some (by kernel_rfl))
 f49 := ⟨Tryz.f285.name, by decide, Tryz.func285.trans (congrArg some (by kernel_rfl))⟩
 f50 := ⟨Tryz.f286.name, by decide, Tryz.func286.trans (congrArg some (by kernel_rfl))⟩
 f57 := ⟨Tryz.f302.name, by decide, Tryz.func302.trans (congrArg some (by kernel_rfl))⟩
 t0 := Tryz.underlying0
 a0 := Tryz.isAgg0
 z0 := Tryz.sizeOf0
 v0 := Tryz.zeroValue0
 t3 := Tryz.underlying3
 a3 := Tryz.isAgg3
 z3 := Tryz.sizeOf3
 v3 := Tryz.zeroValue3
 t4 := Tryz.underlying4
 a4 := Tryz.isAgg4
 z4 := Tryz.sizeOf4
 v4 := Tryz.zeroValue4
 t5 := Tryz.underlying5
 a5 := Tryz.isAgg5
 z5 := Tryz.sizeOf5
 v5 := Tryz.zeroValue5
 t9 := Tryz.underlying9
 a9 := Tryz.isAgg9
 z9 := Tryz.sizeOf9
 v9 := Tryz.zeroValue9
 t22 := Tryz.underlying62
 a22 := Tryz.isAgg62
 z22 := Tryz.sizeOf62
 v22 := Tryz.zeroValue62
 t25 := Tryz.underlying239
 a25 := Tryz.isAgg239
 z25 := Tryz.sizeOf239
 v25 := Tryz.zeroValue239
 t39 := Tryz.underlying240
 a39 := Tryz.isAgg240
 z39 := Tryz.sizeOf240
 v39 := Tryz.zeroValue240
 t45 := Tryz.underlying291
 a45 := Tryz.isAgg291
 z45 := Tryz.sizeOf291
 v45 := Tryz.zeroValue291
 t46 := Tryz.underlying292
 a46 := Tryz.isAgg292
 z46 := Tryz.sizeOf292
 v46 := Tryz.zeroValue292
 t50 := Tryz.underlying265
 a50 := Tryz.isAgg265
 z50 := Tryz.sizeOf265
 v50 := Tryz.zeroValue265
 t53 := Tryz.underlying201
 a53 := Tryz.isAgg201
 z53 := Tryz.sizeOf201
 v53 := Tryz.zeroValue201
 t55 := Tryz.underlying278
 a55 := Tryz.isAgg278
 z55 := Tryz.sizeOf278
 v55 := Tryz.zeroValue278
 t66 := Tryz.underlying325
 a66 := Tryz.isAgg325
 z66 := Tryz.sizeOf325
 v66 := Tryz.zeroValue325
 t70 := Tryz.underlying329
 a70 := Tryz.isAgg329
 z70 := Tryz.sizeOf329
 v70 := Tryz.zeroValue329
 t76 := Tryz.underlying344
 a76 := Tryz.isAgg344
 z76 := Tryz.sizeOf344
 v76 := Tryz.zeroValue344
 t77 := Tryz.underlying345
 a77 := Tryz.isAgg345
 z77 := Tryz.sizeOf345
 v77 := Tryz.zeroValue345 }
end Go.Proofs
namespace Go.Proofs.LF
open Go.RowKit Go.Sort
set_option maxHeartbeats 4000000
set_option maxRecDepth 100000
attribute [local go_sem] bs_toList bs_size bs_get
theorem enters171 : Enters 171 := by intro args W; simp [go_sem]
theorem cmp171g (x y : Ch) (ap aq ao ar an am : Option Addr) (cp cq co cr cn cm : Nat) (S : Nat → Prop) (w : World) (hp : Pth S w (.slice ap x.p.length cp) x.p) (hq : Pth S w (.slice aq y.p.length cq) y.p) (hS : ∀ b, S b → b < w.heap.size) (lp : x.p.length ≤ 1000) (lq : y.p.length ≤ 1000) :
 Calls Tryz.prog 171 #[.agg #[.slice ap x.p.length cp, .bool x.had, .bool x.has, .slice ao x.old.length co, .slice an x.new.length cn], .agg #[.slice aq y.p.length cq, .bool y.had, .bool y.has, .slice ar y.old.length cr, .slice am y.new.length cm]] w fun e w' => e = .returned (.int .i64 (cmpP x.p y.p)) ∧ Grw w w' := by
 have hA := (Below.refl w.heap.size w).alloc (Nat.le_refl _) (.cells #[.slice ap x.p.length cp, .bool x.had, .bool x.has, .slice ao x.old.length co, .slice an x.new.length cn] 68)
 have hbA := heap_alloc_new w (.cells #[.slice ap x.p.length cp, .bool x.had, .bool x.has, .slice ao x.old.length co, .slice an x.new.length cn] 68)
 obtain ⟨wA, hwA⟩ : ∃ wA, w.alloc (.cells #[.slice ap x.p.length cp, .bool x.had, .bool x.has, .slice ao x.old.length co, .slice an x.new.length cn] 68) = wA := ⟨_, rfl⟩
 have hzA : wA.heap.size = w.heap.size + 1 := by rw [← hwA]; simp
 rw [hwA] at hA hbA
 have hB := (Below.refl wA.heap.size wA).alloc (Nat.le_refl _) (.cells #[.slice aq y.p.length cq, .bool y.had, .bool y.has, .slice ar y.old.length cr, .slice am y.new.length cm] 68)
 have hbB := heap_alloc_new wA (.cells #[.slice aq y.p.length cq, .bool y.had, .bool y.has, .slice ar y.old.length cr, .slice am y.new.length cm] 68)
 obtain ⟨wB, hwB⟩ : ∃ wB, wA.alloc (.cells #[.slice aq y.p.length cq, .bool y.had, .bool y.has, .slice ar y.old.length cr, .slice am y.new.length cm] 68) = wB := ⟨_, rfl⟩
 rw [hwB] at hB hbB
 have hAB := hA.trans (hB.mono (by omega))
 have hbA2 : wB.heap[w.heap.size]? = some (.cells #[.slice ap x.p.length cp, .bool x.had, .bool x.has, .slice ao x.old.length co, .slice an x.new.length cn] 68 (0, 0)) := (hB.block w.heap.size (by omega)).trans hbA
 have c0 := cg_ hbA2 (k := 0) rfl
 rw [hzA] at hbB
 have d0 := cg_ hbB (k := 0) rfl
 have hc := byPath_g x.p y.p ap aq cp cq S wB (hp.agree (Ag_b hAB hS)) (hq.agree (Ag_b hAB hS)) (fun b hb => Nat.lt_of_lt_of_le (hS b hb) hAB.size) lp lq
 have HC := hid hc
 have HG : Hid (Grw w wB) := by
  rw [← hwB, ← hwA]
  exact ((Grw.refl w).alloc _).alloc _
 have HAB := hid hAB
 have HWA := hid hwA
 have HWB := hid hwB
 clear hp hq hS hA hbA hB hbB hbA2 hc hAB hwA hwB
 go_enter Tryz.func171, Tryz.ntmps171
 go_wp2_with (rw [HWA.out, HWB.out])
 refine HC.out.mono ?_
 rintro e w1 ⟨rfl, hb1⟩
 go_wp2_with fail
 go_ret
 exact ⟨rfl, HG.out.trans hb1⟩
structure CV where
 ap : Option Addr
 cp : Nat
 ao : Option Addr
 co : Nat
 an : Option Addr
 cn : Nat
 f : Ch
def CV.vs (x : CV) : List Value := [.slice x.ap x.f.p.length x.cp, .bool x.f.had, .bool x.f.has, .slice x.ao x.f.old.length x.co, .slice x.an x.f.new.length x.cn]
abbrev CVs (M : Nat → Prop) (w : World) := { x : CV // Pth M w (.slice x.ap x.f.p.length x.cp) x.f.p ∧ Ints M w (.slice x.ao x.f.old.length x.co) x.f.old ∧ Ints M w (.slice x.an x.f.new.length x.cn) x.f.new ∧ x.f.p.length ≤ 1000 }
theorem cvs_of {M : Nat → Prop} {w : World} : ∀ {ls : List Ch} {cs : List Value}, LCs rdCh M w ls cs → (∀ f ∈ ls, f.p.length ≤ 1000) → ∃ ds : List (CVs M w), ds.flatMap (·.1.vs) = cs ∧ ds.map (·.1.f) = ls
 | [], _, h, _ => ⟨[], by rw [show _ = [] from h]; rfl, rfl⟩
 | x :: ls, _, ⟨c, es, h1, ⟨ap, cp, ao, co, an, cn, h2, h3, h4, h6⟩, h5⟩, hl => by
   obtain ⟨ds, hd1, hd2⟩ := cvs_of h5 (fun q hq => hl q (by simp [hq]))
   exact ⟨⟨⟨ap, cp, ao, co, an, cn, x⟩, h3, h4, h6, hl x (by simp)⟩ :: ds, by rw [h1, h2, ← hd1]; rfl, by simp [hd2]⟩
theorem cvs_to {M : Nat → Prop} {w : World} : ∀ (ds : List (CVs M w)), LCs rdCh M w (ds.map (·.1.f)) (ds.flatMap (·.1.vs))
 | [] => rfl
 | x :: ds => ⟨x.1.vs, ds.flatMap (·.1.vs), rfl, ⟨_, _, _, _, _, _, rfl, x.2.1, x.2.2.1, x.2.2.2.1⟩, cvs_to ds⟩
theorem sortC_any (ls : List Ch) (v : Value) (B : Nat) (cs : List Value) (M : Nat → Prop) (w : World) (hown : w.ownsRow B 68 5 v ls.length cs) (hlc : LCs rdCh M w ls cs) (hM : ∀ b, M b → b < w.heap.size ∧ v.ownBlock ≠ some b) (hls : ∀ f ∈ ls, f.p.length ≤ 1000) (hl : ls.length ≤ 100000) :
 Calls Tryz.prog 170 #[v, .func (.func 171) #[] #[]] w fun e w' => e = .returned (.tuple #[]) ∧ ∃ ls' cs', ls'.Perm ls ∧ ls'.Pairwise (fun a b => cmpP a.p b.p ≤ 0) ∧ w'.ownsRow B 68 5 v ls.length cs' ∧ LCs rdCh M w' ls' cs' ∧ w.grownBy w' v.ownBlock := by
 by_cases h0 : ls.length = 0
 · obtain rfl := List.eq_nil_of_length_eq_zero h0
   obtain ⟨a, c, rfl, _, _⟩ := owns_shape hown
   refine (AnyF.slices_SortFunc_none Tryz.laysSortC a c (.func (.func 171) #[] #[]) w).mono ?_
   rintro e w' ⟨rfl, rfl⟩
   exact ⟨rfl, [], cs, List.Perm.refl _, List.Pairwise.nil, hown, hlc, World.grownBy.refl _ _⟩
 obtain ⟨h1, ⟨rfl, h2⟩ | ⟨g, cap, cur, rfl, hbg, hgg, hn, hcap, hsz, htk⟩⟩ := hown
 · omega
 · obtain ⟨ds, hd1, hd2⟩ := cvs_of hlc hls
   have hdl : ds.length = ls.length := by rw [← hd2]; simp
   have hgl : g < w.heap.size := (Array.getElem?_eq_some_iff.1 hgg).1
   haveI : Inhabited (CVs M w) := ⟨ds[0]'(by omega)⟩
   have hMg : ∀ b, M b → b ≠ g := fun b hb e => (hM b hb).2 (by simp [Value.ownBlock, e])
   have hk2 : ∀ x : CVs M w, x.1.vs.length = 5 := fun x => rfl
   have hfl := flatK_list (fun x : CVs M w => x.1.vs) 5 hk2 (by omega) ds
   rw [hd1] at hfl
   have hH : HoldsK (fun x : CVs M w => x.1.vs) 5 w g 0 ds.toArray := by
    intro j hj
    have e1 : cs[j]? = some (flatK (fun x : CVs M w => x.1.vs) 5 ds.toArray)[j] := by rw [← hfl]; simp [Array.getElem?_eq_getElem hj]
    have hj2 : j < ls.length * 5 := by rw [size_flatK] at hj; simpa [hdl] using hj
    rw [← htk, List.getElem?_take] at e1
    rw [if_pos (by omega)] at e1
    refine ⟨?_, by simp [World.frozen?, hgg]⟩
    simp only [World.cell?, hgg, Nat.zero_add]
    rw [← Array.getElem?_toList, e1]
    rw [getElem!_pos _ j hj]; rfl
   have hag : ∀ m os (dk : Array (CVs M w)), Agree M w (sortWorldK (fun x : CVs M w => x.1.vs) 5 w g 0 m dk os) := fun m os dk b hb => sortW_block (enc := id) (d := flatK (fun x : CVs M w => x.1.vs) 5 dk) (hM b hb).1 (hMg b hb)
   have hgr : ∀ m os (dk : Array (CVs M w)), w.grownBy (sortWorldK (fun x : CVs M w => x.1.vs) 5 w g 0 m dk os) (some g) := fun m os dk => sortW_grown (enc := id) (flatK (fun x : CVs M w => x.1.vs) 5 dk)
   have hcmp : CmpLays Tryz.prog 171 #[] (fun x : CVs M w => x.1.vs) 5 (fun x y => cmpP x.1.f.p y.1.f.p) g 0 ds.toArray.size w := by
    intro m os dk hs x y
    have := cmp171g x.1.f y.1.f x.1.ap y.1.ap x.1.ao y.1.ao x.1.an y.1.an x.1.cp y.1.cp x.1.co y.1.co x.1.cn y.1.cn M (sortWorldK (fun x : CVs M w => x.1.vs) 5 w g 0 m dk os) (x.2.1.agree (hag m os dk)) (y.2.1.agree (hag m os dk)) (fun b hb => by have h9 := (hgr m os dk).size; have := (hM b hb).1; omega) x.2.2.2.2 y.2.2.2.2
    simpa [Grw, CV.vs] using this
   have hcon := AnyQ.slices_SortFunc Tryz.laysSortC 5 (fun w => Tryz.isAgg68 w) (fun w => Tryz.sizeOf68 w) (fun x : CVs M w => x.1.vs) hk2 (fun x v hv => by simp [CV.vs] at hv; rcases hv with rfl | rfl | rfl | rfl | rfl <;> rfl) (fun x y => cmpP x.1.f.p y.1.f.p) (swoP fun x : CVs M w => x.1.f.p) 171 #[] g 0 cap ds.toArray w enters171 hcmp hH hgl (by simp; omega)
   have e1 : ds.toArray.size = ls.length := by simpa using hdl
   rw [e1] at hcon
   refine hcon.mono ?_
   rintro e w' ⟨rfl, d', n, os, ⟨hp1, _, hp3⟩, hs, rfl⟩
   have hd's : d'.size = ls.length := by rw [hp1, e1]
   have h3 : d'.toList.Perm ds := by
    have := hp3
    rw [← e1] at this
    rw [Array.extract_eq_self_of_le (by omega), Array.extract_eq_self_of_le (by omega)] at this
    simpa using this
   have hfl' := flatK_list (fun x : CVs M w => x.1.vs) 5 hk2 (by omega) d'.toList
   have hsz' : (flatK (fun x : CVs M w => x.1.vs) 5 d').size = ls.length * 5 := by rw [size_flatK, hd's]
   refine ⟨rfl, d'.toList.map (·.1.f), d'.toList.flatMap (·.1.vs), by rw [← hd2]; exact h3.map _, ?_, ⟨by rw [fmK_len _ 5 hk2]; simp [hd's], .inr ⟨g, cap, _, rfl, hbg, sortW_row (enc := id) (d := flatK (fun x : CVs M w => x.1.vs) 5 d') hgg, hn, hcap, by simp [putCells, hsz], ?_⟩⟩, (cvs_to d'.toList).agree (hag n os d'), hgr n os d'⟩
   · rw [List.pairwise_map, List.pairwise_iff_getElem]
     intro i j hi hj hij
     have hi' : i < d'.size := by simpa using hi
     have hj' : j < d'.size := by simpa using hj
     have := hs i j (Nat.zero_le _) hij (by omega)
     simp only [ltOf, decide_eq_false_iff_not] at this
     rw [getElem!_pos d' j hj', getElem!_pos d' i hi'] at this
     simp only [Array.getElem_toList]
     rcases Int.lt_trichotomy (cmpP d'[i].1.f.p d'[j].1.f.p) 0 with h | h | h
     · omega
     · omega
     · exact absurd (cmpP_ord.flop h) this
   · rw [← hsz', take_putC _ _ _ (by omega), List.map_id]
     simpa using hfl'
end Go.Proofs.LF
namespace Go.Proofs.LF
open Go.RowKit Go.Sort
set_option maxHeartbeats 4000000
set_option maxRecDepth 100000
attribute [local go_sem] bs_toList bs_size bs_get
theorem keys_snoc {p : List Ky} {k : Nat} {a : Ky} (hk : k < p.length) (ha : p[k] = a) : (p.take (k + 1)).flatMap Ky.cells = (p.take k).flatMap Ky.cells ++ [.string (bs a.n), .bool a.h, .int .i64 a.x] := by
 rw [List.take_succ_eq_append_getElem hk, ha, List.flatMap_append]; simp [Ky.cells]
theorem path_any (p : List Ky) (a : Option Addr) (c : Nat) (S : Nat → Prop) (w : World) (hp : Pth S w (.slice a p.length c) p) (hS : ∀ b, S b → b < w.heap.size) (lp : p.length ≤ 1000) :
 Calls Tryz.prog 55 #[.slice a p.length c] w fun e w' => ∃ a c, e = .returned (.slice a p.length c) ∧ Pth (Rg w.heap.size w'.heap.size) w' (.slice a p.length c) p ∧ Below w.heap.size w w' := by
 obtain ⟨j0, hj0, hy0, hy1, hy2⟩ := info_parts Tryz.info160
 go_enter Tryz.func55, Tryz.ntmps55
 go_wp2_with fail
 go_loopw [3, 8] (fun v i wr => ∃ k : Nat, k ≤ p.length ∧ i = .int .i64 k ∧ wr.ownsRow w.heap.size 160 3 v k ((p.take k).flatMap Ky.cells) ∧ Hid (Below w.heap.size w wr)) (fun _ i _ => p.length - (intOf i).toNat)
 case atStart => exact ⟨0, by omega, rfl, World.ownsRow_nil _ _ _ _, Below.refl _ _⟩
 case round =>
  obtain ⟨k, hk, rfl, hown, hB⟩ := hrel
  have i1 : (0 : Int) ≤ (k : Int) := by omega
  have hz := hB.out.size
  by_cases hlt : k < p.length
  · have i2 : (k : Int) < (p.length : Int) := by omega
    obtain ⟨g, o, rfl, hg, k0, k1, k2⟩ := hp.key hlt
    obtain ⟨x, hx⟩ : ∃ x, p[k] = x := ⟨_, rfl⟩
    rw [hx] at k0 k1 k2
    have hgl := hS g hg
    have c0 := bc_ hB.out hgl k0
    have c1 := bc_ hB.out hgl k1
    have c2 := bc_ hB.out hgl k2
    have hsn := keys_snoc hlt hx
    have HSN := hid hsn
    clear k0 k1 k2 hx hsn
    go_wp2_with (at_builtin; refine (wpList_append_ao _ rfl _ _ _ rfl w.heap.size 160 j0 _ 3 32 Tryz.underlying92 hj0 hy0 hy1 hy2 rfl (by omega) u3 k ((p.take k).flatMap Ky.cells) rfl ((hown.alloc _).alloc _) (some ⟨wr.heap.size + 1, 0, none⟩) 1 1 [.string (bs x.n), .bool x.h, .int .i64 x.x] rfl rfl (fun h => by cases h) (fun ad had => by cases had; exact World.news_of_block (cs := #[.string (bs x.n), .bool x.h, .int .i64 x.x]) (t := 160) (fr := (0, 0)) (by simpa using heap_alloc_new (wr.alloc (.cells #[.string (bs x.n), .bool x.h, .int .i64 x.x] 71)) (.cells #[.string (bs x.n), .bool x.h, .int .i64 x.x] 160))) (by simp [Value.oneCell']) (by unfold maxLen; omega) (by omega) (by simp; omega) ?_); intro a8 c8 w8 hown8 hgrow8 hat8)
    have hB8 : Hid (Below w.heap.size w w8) := ((hB.out.alloc hz _).alloc (by simp; omega) _).grown hgrow8 (by simp; omega) (fun q hq => (hown.lt q hq).1)
    rw [← HSN.out] at hown8
    go_roundw
    case rel => exact ⟨k + 1, by omega, by go_num, hown8, hB8⟩
    case measure => simp [intOf]; omega
  · have i2 : ¬ (k : Int) < (p.length : Int) := by omega
    obtain rfl : k = p.length := by omega
    obtain ⟨a9, c9, rfl, _, _⟩ := owns_shape hown
    go_wp2_with fail
    go_ret
    rw [List.take_length] at hown
    exact ⟨a9, c9, rfl, SlC.of_owns hown, hB.out⟩
end Go.Proofs.LF
