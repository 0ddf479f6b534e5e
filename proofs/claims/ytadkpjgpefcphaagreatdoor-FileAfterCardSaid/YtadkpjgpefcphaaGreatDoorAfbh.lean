/- Parts of the proof of a law of layer 11 (file): LfW106, LfW107. The conditions stand in each theorem. -/
import Derived.Test.YtadkpjgpefcphaaGreatDoorProg
import Derived.Test.YtadkpjgpefcphaaGreatDoorAfaf
import Derived.Test.YtadkpjgpefcphaaGreatDoorAfbd
import Derived.Test.YtadkpjgpefcphaaGreatDoorAfbg
set_option linter.all false
set_option linter.unusedVariables false
set_option linter.unusedSimpArgs false
namespace Go.Proofs.LF
open Go.RowKit Go.Sort
set_option maxHeartbeats 4000000
set_option maxRecDepth 100000
attribute [local go_sem] bs_toList bs_size bs_get
theorem enters160 : ∀ (args : Array Value) (W : World), (callFunc 160 args).run Tryz.prog W = .ok (.enter 160 args) W := by
 intro args W
 simp [go_sem]
theorem same160 (p q : List Ky) (had has gad gas : Bool) (old new olb neb : List Int) (ap ao an aq ar am : Option Addr) (cp co cn cq cr cm : Nat) (S : Nat → Prop) (w : World) (hp : Pth S w (.slice ap p.length cp) p) (ho : Ints S w (.slice ao old.length co) old) (hn : Ints S w (.slice an new.length cn) new)
 (hq : Pth S w (.slice aq q.length cq) q) (hr : Ints S w (.slice ar olb.length cr) olb) (hm : Ints S w (.slice am neb.length cm) neb) (hS : ∀ b, S b → b < w.heap.size) (lp : p.length ≤ 1000) (lo : old.length ≤ 1000) (ln : new.length ≤ 1000) (lq : q.length ≤ 1000) (lr : olb.length ≤ 1000) (lm : neb.length ≤ 1000) :
 Calls Tryz.prog 160 #[.agg #[.slice ap p.length cp, .bool had, .bool has, .slice ao old.length co, .slice an new.length cn], .agg #[.slice aq q.length cq, .bool gad, .bool gas, .slice ar olb.length cr, .slice am neb.length cm]] w fun e w' => e = .returned (.bool (decide (p = q) && (had == gad) && (has == gas) && decide (old = olb) && decide (new = neb))) ∧ Below w.heap.size w w' := by
 obtain ⟨b0, hb0⟩ : ∃ b0, w.heap.size = b0 := ⟨_, rfl⟩
 obtain ⟨wA, hwA⟩ : ∃ wA, w.alloc (.cells #[.slice ap p.length cp, .bool had, .bool has, .slice ao old.length co, .slice an new.length cn] 68) = wA := ⟨_, rfl⟩
 obtain ⟨wB, hwB⟩ : ∃ wB, wA.alloc (.cells #[.slice aq q.length cq, .bool gad, .bool gas, .slice ar olb.length cr, .slice am neb.length cm] 120) = wB := ⟨_, rfl⟩
 have hzA : wA.heap.size = b0 + 1 := by rw [← hwA, ← hb0]; simp
 have hzB : wB.heap.size = b0 + 2 := by rw [← hwB]; simp; omega
 have hbA : wA.heap[b0]? = some (.cells #[.slice ap p.length cp, .bool had, .bool has, .slice ao old.length co, .slice an new.length cn] 68 (0, 0)) := by rw [← hwA, ← hb0]; exact heap_alloc_new _ _
 have hbB1 : wB.heap[b0 + 1]? = some (.cells #[.slice aq q.length cq, .bool gad, .bool gas, .slice ar olb.length cr, .slice am neb.length cm] 120 (0, 0)) := by rw [← hwB, ← hzA]; exact heap_alloc_new _ _
 have hbB0 : wB.heap[b0]? = some (.cells #[.slice ap p.length cp, .bool had, .bool has, .slice ao old.length co, .slice an new.length cn] 68 (0, 0)) := by rw [← hwB]; exact (heap_alloc_old _ _ (by omega)).trans hbA
 have hBel : Below w.heap.size w wB.drew := by
  rw [← hwB, ← hwA]
  exact (((Below.refl w.heap.size w).alloc (nl_ _) _).alloc (by simp) _).drew
 have h0lt : b0 < wB.heap.size := by omega
 have h1lt : b0 + 1 < wB.heap.size := by omega
 have hS0 : wB.drew.cell? ⟨b0, 0, none⟩ = some (.slice ap p.length cp) ∧ wB.drew.cell? ⟨b0, 1, none⟩ = some (.bool had) ∧ wB.drew.cell? ⟨b0, 2, none⟩ = some (.bool has) ∧ wB.drew.cell? ⟨b0, 3, none⟩ = some (.slice ao old.length co) ∧ wB.drew.cell? ⟨b0, 4, none⟩ = some (.slice an new.length cn) ∧ wB.drew.cell? ⟨b0 + 1, 0, none⟩ = some (.slice aq q.length cq) ∧ wB.drew.cell? ⟨b0 + 1, 1, none⟩ = some (.bool gad) ∧ wB.drew.cell? ⟨b0 + 1, 2, none⟩ = some (.bool gas) ∧ wB.drew.cell? ⟨b0 + 1, 3, none⟩ = some (.slice ar olb.length cr) ∧ wB.drew.cell? ⟨b0 + 1, 4, none⟩ = some (.slice am neb.length cm) := ⟨cg_ hbB0 (k := 0) rfl, cg_ hbB0 (k := 1) rfl, cg_ hbB0 (k := 2) rfl, cg_ hbB0 (k := 3) rfl, cg_ hbB0 (k := 4) rfl, cg_ hbB1 (k := 0) rfl, cg_ hbB1 (k := 1) rfl, cg_ hbB1 (k := 2) rfl, cg_ hbB1 (k := 3) rfl, cg_ hbB1 (k := 4) rfl⟩
 have ha := Ag_b (S := S) hBel hS
 have hSB : ∀ b, S b → b < wB.heap.size := fun b hb => by have := hS b hb; omega
 have PA := hid (path_any p ap cp S wB.drew (hp.agree ha) hSB lp)
 have HQ := hid (hq.agree ha)
 have HO := hid (ho.agree ha)
 have HR := hid (hr.agree ha)
 have HN := hid (hn.agree ha)
 have HM := hid (hm.agree ha)
 have HSB := hid hSB
 have HS0 := hid hS0
 have HB := hid hBel
 have HWA := hid hwA
 have HWB := hid hwB
 have HB0 := hid hb0
 have HZA := hid hzA
 have HZB := hid hzB
 have hle : w.heap.size ≤ wB.heap.size := by omega
 clear hp ho hn hq hr hm hS hbA hbB1 hbB0 hBel hS0 ha hSB hwA hwB hzA hzB hb0
 go_enter Tryz.func160, Tryz.ntmps160
 go_upto_region 1 with fail
 rw [HWA.out, HWB.out]
 try simp only [HB0.out, HZA.out]
 refine (wpIn_wide (n := 9)).1 ?_
 refine region_held (fun w' : World => w'.cell? ⟨b0, 0, none⟩ = some (.slice ap p.length cp) ∧ w'.cell? ⟨b0, 1, none⟩ = some (.bool had) ∧ w'.cell? ⟨b0, 2, none⟩ = some (.bool has) ∧ w'.cell? ⟨b0, 3, none⟩ = some (.slice ao old.length co) ∧ w'.cell? ⟨b0, 4, none⟩ = some (.slice an new.length cn) ∧ w'.cell? ⟨b0 + 1, 0, none⟩ = some (.slice aq q.length cq) ∧ w'.cell? ⟨b0 + 1, 1, none⟩ = some (.bool gad) ∧ w'.cell? ⟨b0 + 1, 2, none⟩ = some (.bool gas) ∧ w'.cell? ⟨b0 + 1, 3, none⟩ = some (.slice ar olb.length cr) ∧ w'.cell? ⟨b0 + 1, 4, none⟩ = some (.slice am neb.length cm)) (by kernel_rfl) ?_
 have hS0 := HS0.out
 refine tkY 0 5 (.pointer (some ⟨b0, 0, none⟩)) rfl rfl hS0 (fun w' hs => ?_) ?_
 · go_simp
 refine tkY 1 6 (.slice ap p.length cp) rfl rfl hS0 (fun w' hs => ?_) ?_
 · obtain ⟨y0, y1, y2, y3, y4, z0, z1, z2, z3, z4⟩ := hs
   go_simp
 refine tkY 3 8 (.pointer (some ⟨b0 + 1, 0, none⟩)) rfl rfl hS0 (fun w' hs => ?_) ?_
 · go_simp
 refine tkY 4 9 (.slice aq q.length cq) rfl rfl hS0 (fun w' hs => ?_) ?_
 · obtain ⟨y0, y1, y2, y3, y4, z0, z1, z2, z3, z4⟩ := hs
   go_simp
 refine AnyH_one (i := 2) (by kernel_rfl) rfl (by kernel_rfl) (fun K hK => ?_)
 go_simp
 refine ⟨trivial, (callsIn_wide.2 PA.out).mono ?_⟩
 rintro e w5 ⟨ap1, cp1, rfl, hp5, hb5⟩
 have hz5 : wB.heap.size ≤ w5.heap.size := hb5.size
 have hS1 : w5.cell? ⟨b0, 0, none⟩ = some (.slice ap p.length cp) ∧ w5.cell? ⟨b0, 1, none⟩ = some (.bool had) ∧ w5.cell? ⟨b0, 2, none⟩ = some (.bool has) ∧ w5.cell? ⟨b0, 3, none⟩ = some (.slice ao old.length co) ∧ w5.cell? ⟨b0, 4, none⟩ = some (.slice an new.length cn) ∧ w5.cell? ⟨b0 + 1, 0, none⟩ = some (.slice aq q.length cq) ∧ w5.cell? ⟨b0 + 1, 1, none⟩ = some (.bool gad) ∧ w5.cell? ⟨b0 + 1, 2, none⟩ = some (.bool gas) ∧ w5.cell? ⟨b0 + 1, 3, none⟩ = some (.slice ar olb.length cr) ∧ w5.cell? ⟨b0 + 1, 4, none⟩ = some (.slice am neb.length cm) := ⟨bc_ hb5 h0lt hS0.1, bc_ hb5 h0lt hS0.2.1, bc_ hb5 h0lt hS0.2.2.1, bc_ hb5 h0lt hS0.2.2.2.1, bc_ hb5 h0lt hS0.2.2.2.2.1, bc_ hb5 h1lt hS0.2.2.2.2.2.1, bc_ hb5 h1lt hS0.2.2.2.2.2.2.1, bc_ hb5 h1lt hS0.2.2.2.2.2.2.2.1, bc_ hb5 h1lt hS0.2.2.2.2.2.2.2.2.1, bc_ hb5 h1lt hS0.2.2.2.2.2.2.2.2.2⟩
 have SA := hid (Same_any p q ap1 aq cp1 cq (fun b => b < w5.heap.size) w5 (hp5.wide fun b hb => hb.2) ((HQ.out.agree (Ag_b hb5 HSB.out)).wide fun b hb => by have := HSB.out b hb; omega) (by omega) (by omega))
 have HB5 := hid hb5
 replace h0lt : b0 < w5.heap.size := by omega
 replace h1lt : b0 + 1 < w5.heap.size := by omega
 refine hK _ _ ⟨hS1, ?_⟩
 clear hK hb5 hp5 hS0 PA
 refine AnyH_one (i := 5) (by kernel_rfl) rfl (by kernel_rfl) (fun K hK => ?_)
 go_simp
 refine ⟨trivial, (callsIn_wide.2 SA.out).mono ?_⟩
 rintro e w6 ⟨rfl, hb6⟩
 have hz6 := hb6.size
 have hS2 : w6.cell? ⟨b0, 0, none⟩ = some (.slice ap p.length cp) ∧ w6.cell? ⟨b0, 1, none⟩ = some (.bool had) ∧ w6.cell? ⟨b0, 2, none⟩ = some (.bool has) ∧ w6.cell? ⟨b0, 3, none⟩ = some (.slice ao old.length co) ∧ w6.cell? ⟨b0, 4, none⟩ = some (.slice an new.length cn) ∧ w6.cell? ⟨b0 + 1, 0, none⟩ = some (.slice aq q.length cq) ∧ w6.cell? ⟨b0 + 1, 1, none⟩ = some (.bool gad) ∧ w6.cell? ⟨b0 + 1, 2, none⟩ = some (.bool gas) ∧ w6.cell? ⟨b0 + 1, 3, none⟩ = some (.slice ar olb.length cr) ∧ w6.cell? ⟨b0 + 1, 4, none⟩ = some (.slice am neb.length cm) := ⟨bc_ hb6 h0lt hS1.1, bc_ hb6 h0lt hS1.2.1, bc_ hb6 h0lt hS1.2.2.1, bc_ hb6 h0lt hS1.2.2.2.1, bc_ hb6 h0lt hS1.2.2.2.2.1, bc_ hb6 h1lt hS1.2.2.2.2.2.1, bc_ hb6 h1lt hS1.2.2.2.2.2.2.1, bc_ hb6 h1lt hS1.2.2.2.2.2.2.2.1, bc_ hb6 h1lt hS1.2.2.2.2.2.2.2.2.1, bc_ hb6 h1lt hS1.2.2.2.2.2.2.2.2.2⟩
 have HB6 := hid (HB5.out.trans (hb6.mono hz5))
 replace h0lt : b0 < w6.heap.size := by omega
 replace h1lt : b0 + 1 < w6.heap.size := by omega
 refine hK _ _ ⟨hS2, ?_⟩
 clear hK hb6 hS1 SA HB5
 obtain ⟨e0, he0⟩ : ∃ e0, decide (p = q) = e0 := ⟨_, rfl⟩
 obtain ⟨e1, he1⟩ : ∃ e1, (had == gad) = e1 := ⟨_, rfl⟩
 obtain ⟨e2, he2⟩ : ∃ e2, (has == gas) = e2 := ⟨_, rfl⟩
 obtain ⟨e3, he3⟩ : ∃ e3, decide (old = olb) = e3 := ⟨_, rfl⟩
 obtain ⟨e4, he4⟩ : ∃ e4, decide (new = neb) = e4 := ⟨_, rfl⟩
 have E0 := hid he0
 have E1 := hid he1
 have E2 := hid he2
 have E3 := hid he3
 have E4 := hid he4
 rw [he0]
 clear he0 he3 he4
 cases e0
 · skip
   refine tkY 6 11 (.bool false) rfl rfl hS2 (fun w' hs => ?_) ?_
   · go_simp
   refine tkN 7 12 rfl rfl hS2 ?_
   refine tkN 8 13 rfl rfl hS2 ?_
   refine tkN 9 14 rfl rfl hS2 ?_
   refine tkN 10 15 rfl rfl hS2 ?_
   refine tkN 11 16 rfl rfl hS2 ?_
   refine tkY 12 17 (.bool false) rfl rfl hS2 (fun w' hs => ?_) ?_
   · go_simp
   refine tkY 13 18 (.bool false) rfl rfl hS2 (fun w' hs => ?_) ?_
   · go_simp
   refine tkN 14 19 rfl rfl hS2 ?_
   refine tkN 15 20 rfl rfl hS2 ?_
   refine tkN 16 21 rfl rfl hS2 ?_
   refine tkN 17 22 rfl rfl hS2 ?_
   refine tkN 18 23 rfl rfl hS2 ?_
   refine tkY 19 24 (.bool false) rfl rfl hS2 (fun w' hs => ?_) ?_
   · go_simp
   refine tkY 20 25 (.bool false) rfl rfl hS2 (fun w' hs => ?_) ?_
   · go_simp
   refine tkN 21 26 rfl rfl hS2 ?_
   refine tkN 22 27 rfl rfl hS2 ?_
   refine tkN 23 28 rfl rfl hS2 ?_
   refine tkN 24 29 rfl rfl hS2 ?_
   refine tkN 25 30 rfl rfl hS2 ?_
   refine tkY 26 31 (.bool false) rfl rfl hS2 (fun w' hs => ?_) ?_
   · go_simp
   refine tkY 27 32 (.bool false) rfl rfl hS2 (fun w' hs => ?_) ?_
   · go_simp
   refine tkN 28 33 rfl rfl hS2 ?_
   refine tkN 29 34 rfl rfl hS2 ?_
   refine tkN 30 35 rfl rfl hS2 ?_
   refine tkN 31 36 rfl rfl hS2 ?_
   refine tkN 32 37 rfl rfl hS2 ?_
   refine tkY 33 38 (.bool false) rfl rfl hS2 (fun w' hs => ?_) ?_
   · go_simp
   refine tkY 34 4 (.bool false) rfl rfl hS2 (fun w' hs => ?_) ?_
   · go_simp
   refine AnyH_done (by kernel_rfl) ?_
   go_simp
   have HBW := hid HB6.out
   clear hS2
   go_wp2_with fail
   go_ret
   exact ⟨by rw [E0.out, E1.out, E2.out, E3.out, E4.out]; simp, HB.out.trans (HBW.out.mono hle)⟩
 · skip
   refine tkY 6 11 (.bool true) rfl rfl hS2 (fun w' hs => ?_) ?_
   · go_simp
   cases e1
   · skip
     refine tkY 7 12 (.pointer (some ⟨b0, 1, none⟩)) rfl rfl hS2 (fun w' hs => ?_) ?_
     · go_simp
     refine tkY 8 13 (.bool had) rfl rfl hS2 (fun w' hs => ?_) ?_
     · obtain ⟨y0, y1, y2, y3, y4, z0, z1, z2, z3, z4⟩ := hs
       go_simp
     refine tkY 9 14 (.pointer (some ⟨b0 + 1, 1, none⟩)) rfl rfl hS2 (fun w' hs => ?_) ?_
     · go_simp
     refine tkY 10 15 (.bool gad) rfl rfl hS2 (fun w' hs => ?_) ?_
     · obtain ⟨y0, y1, y2, y3, y4, z0, z1, z2, z3, z4⟩ := hs
       go_simp
     refine tkY 11 16 (.bool false) rfl rfl hS2 (fun w' hs => ?_) ?_
     · go_simp
     refine tkY 12 17 (.bool false) rfl rfl hS2 (fun w' hs => ?_) ?_
     · go_simp
     refine tkY 13 18 (.bool false) rfl rfl hS2 (fun w' hs => ?_) ?_
     · go_simp
     refine tkN 14 19 rfl rfl hS2 ?_
     refine tkN 15 20 rfl rfl hS2 ?_
     refine tkN 16 21 rfl rfl hS2 ?_
     refine tkN 17 22 rfl rfl hS2 ?_
     refine tkN 18 23 rfl rfl hS2 ?_
     refine tkY 19 24 (.bool false) rfl rfl hS2 (fun w' hs => ?_) ?_
     · go_simp
     refine tkY 20 25 (.bool false) rfl rfl hS2 (fun w' hs => ?_) ?_
     · go_simp
     refine tkN 21 26 rfl rfl hS2 ?_
     refine tkN 22 27 rfl rfl hS2 ?_
     refine tkN 23 28 rfl rfl hS2 ?_
     refine tkN 24 29 rfl rfl hS2 ?_
     refine tkN 25 30 rfl rfl hS2 ?_
     refine tkY 26 31 (.bool false) rfl rfl hS2 (fun w' hs => ?_) ?_
     · go_simp
     refine tkY 27 32 (.bool false) rfl rfl hS2 (fun w' hs => ?_) ?_
     · go_simp
     refine tkN 28 33 rfl rfl hS2 ?_
     refine tkN 29 34 rfl rfl hS2 ?_
     refine tkN 30 35 rfl rfl hS2 ?_
     refine tkN 31 36 rfl rfl hS2 ?_
     refine tkN 32 37 rfl rfl hS2 ?_
     refine tkY 33 38 (.bool false) rfl rfl hS2 (fun w' hs => ?_) ?_
     · go_simp
     refine tkY 34 4 (.bool false) rfl rfl hS2 (fun w' hs => ?_) ?_
     · go_simp
     refine AnyH_done (by kernel_rfl) ?_
     go_simp
     have HBW := hid HB6.out
     clear hS2
     go_wp2_with fail
     go_ret
     exact ⟨by rw [E0.out, E1.out, E2.out, E3.out, E4.out]; simp, HB.out.trans (HBW.out.mono hle)⟩
   · skip
     refine tkY 7 12 (.pointer (some ⟨b0, 1, none⟩)) rfl rfl hS2 (fun w' hs => ?_) ?_
     · go_simp
     refine tkY 8 13 (.bool had) rfl rfl hS2 (fun w' hs => ?_) ?_
     · obtain ⟨y0, y1, y2, y3, y4, z0, z1, z2, z3, z4⟩ := hs
       go_simp
     refine tkY 9 14 (.pointer (some ⟨b0 + 1, 1, none⟩)) rfl rfl hS2 (fun w' hs => ?_) ?_
     · go_simp
     refine tkY 10 15 (.bool gad) rfl rfl hS2 (fun w' hs => ?_) ?_
     · obtain ⟨y0, y1, y2, y3, y4, z0, z1, z2, z3, z4⟩ := hs
       go_simp
     refine tkY 11 16 (.bool true) rfl rfl hS2 (fun w' hs => ?_) ?_
     · go_simp
     refine tkY 12 17 (.bool true) rfl rfl hS2 (fun w' hs => ?_) ?_
     · go_simp
     refine tkY 13 18 (.bool true) rfl rfl hS2 (fun w' hs => ?_) ?_
     · go_simp
     cases e2
     · skip
       refine tkY 14 19 (.pointer (some ⟨b0, 2, none⟩)) rfl rfl hS2 (fun w' hs => ?_) ?_
       · go_simp
       refine tkY 15 20 (.bool has) rfl rfl hS2 (fun w' hs => ?_) ?_
       · obtain ⟨y0, y1, y2, y3, y4, z0, z1, z2, z3, z4⟩ := hs
         go_simp
       refine tkY 16 21 (.pointer (some ⟨b0 + 1, 2, none⟩)) rfl rfl hS2 (fun w' hs => ?_) ?_
       · go_simp
       refine tkY 17 22 (.bool gas) rfl rfl hS2 (fun w' hs => ?_) ?_
       · obtain ⟨y0, y1, y2, y3, y4, z0, z1, z2, z3, z4⟩ := hs
         go_simp
       refine tkY 18 23 (.bool false) rfl rfl hS2 (fun w' hs => ?_) ?_
       · go_simp
       refine tkY 19 24 (.bool false) rfl rfl hS2 (fun w' hs => ?_) ?_
       · go_simp
       refine tkY 20 25 (.bool false) rfl rfl hS2 (fun w' hs => ?_) ?_
       · go_simp
       refine tkN 21 26 rfl rfl hS2 ?_
       refine tkN 22 27 rfl rfl hS2 ?_
       refine tkN 23 28 rfl rfl hS2 ?_
       refine tkN 24 29 rfl rfl hS2 ?_
       refine tkN 25 30 rfl rfl hS2 ?_
       refine tkY 26 31 (.bool false) rfl rfl hS2 (fun w' hs => ?_) ?_
       · go_simp
       refine tkY 27 32 (.bool false) rfl rfl hS2 (fun w' hs => ?_) ?_
       · go_simp
       refine tkN 28 33 rfl rfl hS2 ?_
       refine tkN 29 34 rfl rfl hS2 ?_
       refine tkN 30 35 rfl rfl hS2 ?_
       refine tkN 31 36 rfl rfl hS2 ?_
       refine tkN 32 37 rfl rfl hS2 ?_
       refine tkY 33 38 (.bool false) rfl rfl hS2 (fun w' hs => ?_) ?_
       · go_simp
       refine tkY 34 4 (.bool false) rfl rfl hS2 (fun w' hs => ?_) ?_
       · go_simp
       refine AnyH_done (by kernel_rfl) ?_
       go_simp
       have HBW := hid HB6.out
       clear hS2
       go_wp2_with fail
       go_ret
       exact ⟨by rw [E0.out, E1.out, E2.out, E3.out, E4.out]; simp, HB.out.trans (HBW.out.mono hle)⟩
     · skip
       refine tkY 14 19 (.pointer (some ⟨b0, 2, none⟩)) rfl rfl hS2 (fun w' hs => ?_) ?_
       · go_simp
       refine tkY 15 20 (.bool has) rfl rfl hS2 (fun w' hs => ?_) ?_
       · obtain ⟨y0, y1, y2, y3, y4, z0, z1, z2, z3, z4⟩ := hs
         go_simp
       refine tkY 16 21 (.pointer (some ⟨b0 + 1, 2, none⟩)) rfl rfl hS2 (fun w' hs => ?_) ?_
       · go_simp
       refine tkY 17 22 (.bool gas) rfl rfl hS2 (fun w' hs => ?_) ?_
       · obtain ⟨y0, y1, y2, y3, y4, z0, z1, z2, z3, z4⟩ := hs
         go_simp
       refine tkY 18 23 (.bool true) rfl rfl hS2 (fun w' hs => ?_) ?_
       · go_simp
       refine tkY 19 24 (.bool true) rfl rfl hS2 (fun w' hs => ?_) ?_
       · go_simp
       refine tkY 20 25 (.bool true) rfl rfl hS2 (fun w' hs => ?_) ?_
       · go_simp
       refine tkY 21 26 (.pointer (some ⟨b0, 3, none⟩)) rfl rfl hS2 (fun w' hs => ?_) ?_
       · go_simp
       refine tkY 22 27 (.slice ao old.length co) rfl rfl hS2 (fun w' hs => ?_) ?_
       · obtain ⟨y0, y1, y2, y3, y4, z0, z1, z2, z3, z4⟩ := hs
         go_simp
       refine tkY 23 28 (.pointer (some ⟨b0 + 1, 3, none⟩)) rfl rfl hS2 (fun w' hs => ?_) ?_
       · go_simp
       refine tkY 24 29 (.slice ar olb.length cr) rfl rfl hS2 (fun w' hs => ?_) ?_
       · obtain ⟨y0, y1, y2, y3, y4, z0, z1, z2, z3, z4⟩ := hs
         go_simp
       have EO := hid (eqInts_any old olb ao ar co cr (fun b => b < w6.heap.size) w6 ((HO.out.agree (Ag_b HB6.out HSB.out)).wide fun b hb => by have := HSB.out b hb; omega) ((HR.out.agree (Ag_b HB6.out HSB.out)).wide fun b hb => by have := HSB.out b hb; omega) (by omega) (by omega))
       refine AnyH_one (i := 25) (by kernel_rfl) rfl (by kernel_rfl) (fun K hK => ?_)
       go_simp
       refine ⟨trivial, (callsIn_wide.2 EO.out).mono ?_⟩
       rintro e w7 ⟨rfl, hb7⟩
       rw [E3.out]
       have hz7 := hb7.size
       have hS3 : w7.cell? ⟨b0, 0, none⟩ = some (.slice ap p.length cp) ∧ w7.cell? ⟨b0, 1, none⟩ = some (.bool had) ∧ w7.cell? ⟨b0, 2, none⟩ = some (.bool has) ∧ w7.cell? ⟨b0, 3, none⟩ = some (.slice ao old.length co) ∧ w7.cell? ⟨b0, 4, none⟩ = some (.slice an new.length cn) ∧ w7.cell? ⟨b0 + 1, 0, none⟩ = some (.slice aq q.length cq) ∧ w7.cell? ⟨b0 + 1, 1, none⟩ = some (.bool gad) ∧ w7.cell? ⟨b0 + 1, 2, none⟩ = some (.bool gas) ∧ w7.cell? ⟨b0 + 1, 3, none⟩ = some (.slice ar olb.length cr) ∧ w7.cell? ⟨b0 + 1, 4, none⟩ = some (.slice am neb.length cm) := ⟨bc_ hb7 h0lt hS2.1, bc_ hb7 h0lt hS2.2.1, bc_ hb7 h0lt hS2.2.2.1, bc_ hb7 h0lt hS2.2.2.2.1, bc_ hb7 h0lt hS2.2.2.2.2.1, bc_ hb7 h1lt hS2.2.2.2.2.2.1, bc_ hb7 h1lt hS2.2.2.2.2.2.2.1, bc_ hb7 h1lt hS2.2.2.2.2.2.2.2.1, bc_ hb7 h1lt hS2.2.2.2.2.2.2.2.2.1, bc_ hb7 h1lt hS2.2.2.2.2.2.2.2.2.2⟩
       have HB7 := hid (HB6.out.trans (hb7.mono (by have := HB6.out.size; exact this)))
       replace h0lt : b0 < w7.heap.size := by omega
       replace h1lt : b0 + 1 < w7.heap.size := by omega
       refine hK _ _ ⟨hS3, ?_⟩
       clear hK hb7 hS2 EO
       cases e3
       · skip
         refine tkY 26 31 (.bool false) rfl rfl hS3 (fun w' hs => ?_) ?_
         · go_simp
         refine tkY 27 32 (.bool false) rfl rfl hS3 (fun w' hs => ?_) ?_
         · go_simp
         refine tkN 28 33 rfl rfl hS3 ?_
         refine tkN 29 34 rfl rfl hS3 ?_
         refine tkN 30 35 rfl rfl hS3 ?_
         refine tkN 31 36 rfl rfl hS3 ?_
         refine tkN 32 37 rfl rfl hS3 ?_
         refine tkY 33 38 (.bool false) rfl rfl hS3 (fun w' hs => ?_) ?_
         · go_simp
         refine tkY 34 4 (.bool false) rfl rfl hS3 (fun w' hs => ?_) ?_
         · go_simp
         refine AnyH_done (by kernel_rfl) ?_
         go_simp
         have HBW := hid HB7.out
         clear hS3
         go_wp2_with fail
         go_ret
         exact ⟨by rw [E0.out, E1.out, E2.out, E3.out, E4.out]; simp, HB.out.trans (HBW.out.mono hle)⟩
       · skip
         refine tkY 26 31 (.bool true) rfl rfl hS3 (fun w' hs => ?_) ?_
         · go_simp
         refine tkY 27 32 (.bool true) rfl rfl hS3 (fun w' hs => ?_) ?_
         · go_simp
         refine tkY 28 33 (.pointer (some ⟨b0, 4, none⟩)) rfl rfl hS3 (fun w' hs => ?_) ?_
         · go_simp
         refine tkY 29 34 (.slice an new.length cn) rfl rfl hS3 (fun w' hs => ?_) ?_
         · obtain ⟨y0, y1, y2, y3, y4, z0, z1, z2, z3, z4⟩ := hs
           go_simp
         refine tkY 30 35 (.pointer (some ⟨b0 + 1, 4, none⟩)) rfl rfl hS3 (fun w' hs => ?_) ?_
         · go_simp
         refine tkY 31 36 (.slice am neb.length cm) rfl rfl hS3 (fun w' hs => ?_) ?_
         · obtain ⟨y0, y1, y2, y3, y4, z0, z1, z2, z3, z4⟩ := hs
           go_simp
         have EN := hid (eqInts_any new neb an am cn cm (fun b => b < w7.heap.size) w7 ((HN.out.agree (Ag_b HB7.out HSB.out)).wide fun b hb => by have := HSB.out b hb; omega) ((HM.out.agree (Ag_b HB7.out HSB.out)).wide fun b hb => by have := HSB.out b hb; omega) (by omega) (by omega))
         refine AnyH_one (i := 32) (by kernel_rfl) rfl (by kernel_rfl) (fun K hK => ?_)
         go_simp
         refine ⟨trivial, (callsIn_wide.2 EN.out).mono ?_⟩
         rintro e w8 ⟨rfl, hb8⟩
         rw [E4.out]
         have hz8 := hb8.size
         have hS4 : w8.cell? ⟨b0, 0, none⟩ = some (.slice ap p.length cp) ∧ w8.cell? ⟨b0, 1, none⟩ = some (.bool had) ∧ w8.cell? ⟨b0, 2, none⟩ = some (.bool has) ∧ w8.cell? ⟨b0, 3, none⟩ = some (.slice ao old.length co) ∧ w8.cell? ⟨b0, 4, none⟩ = some (.slice an new.length cn) ∧ w8.cell? ⟨b0 + 1, 0, none⟩ = some (.slice aq q.length cq) ∧ w8.cell? ⟨b0 + 1, 1, none⟩ = some (.bool gad) ∧ w8.cell? ⟨b0 + 1, 2, none⟩ = some (.bool gas) ∧ w8.cell? ⟨b0 + 1, 3, none⟩ = some (.slice ar olb.length cr) ∧ w8.cell? ⟨b0 + 1, 4, none⟩ = some (.slice am neb.length cm) := ⟨bc_ hb8 h0lt hS3.1, bc_ hb8 h0lt hS3.2.1, bc_ hb8 h0lt hS3.2.2.1, bc_ hb8 h0lt hS3.2.2.2.1, bc_ hb8 h0lt hS3.2.2.2.2.1, bc_ hb8 h1lt hS3.2.2.2.2.2.1, bc_ hb8 h1lt hS3.2.2.2.2.2.2.1, bc_ hb8 h1lt hS3.2.2.2.2.2.2.2.1, bc_ hb8 h1lt hS3.2.2.2.2.2.2.2.2.1, bc_ hb8 h1lt hS3.2.2.2.2.2.2.2.2.2⟩
         have HB8 := hid (HB7.out.trans (hb8.mono (by have := HB7.out.size; exact this)))
         refine hK _ _ ⟨hS4, ?_⟩
         clear hK hb8 hS3 EN
         refine tkY 33 38 (.bool e4) rfl rfl hS4 (fun w' hs => ?_) ?_
         · go_simp
         refine tkY 34 4 (.bool e4) rfl rfl hS4 (fun w' hs => ?_) ?_
         · go_simp
         refine AnyH_done (by kernel_rfl) ?_
         go_simp
         have HBW := hid HB8.out
         clear hS4
         go_wp2_with fail
         go_ret
         exact ⟨by rw [E0.out, E1.out, E2.out, E3.out, E4.out]; simp, HB.out.trans (HBW.out.mono hle)⟩
end Go.Proofs.LF
namespace Go.Proofs.LF
open Go.RowKit Go.Sort
set_option maxHeartbeats 4000000
set_option maxRecDepth 100000
attribute [local go_sem] bs_toList bs_size bs_get
theorem same160c (x y : Ch) (ap ao an aq ar am : Option Addr) (cp co cn cq cr cm : Nat) (S : Nat → Prop) (w : World) (hp : Pth S w (.slice ap x.p.length cp) x.p) (ho : Ints S w (.slice ao x.old.length co) x.old) (hn : Ints S w (.slice an x.new.length cn) x.new)
 (hq : Pth S w (.slice aq y.p.length cq) y.p) (hr : Ints S w (.slice ar y.old.length cr) y.old) (hm : Ints S w (.slice am y.new.length cm) y.new) (hS : ∀ b, S b → b < w.heap.size) (hx : x.p.length ≤ 1000 ∧ x.old.length ≤ 1000 ∧ x.new.length ≤ 1000) (hy : y.p.length ≤ 1000 ∧ y.old.length ≤ 1000 ∧ y.new.length ≤ 1000) :
 Calls Tryz.prog 160 #[.agg #[.slice ap x.p.length cp, .bool x.had, .bool x.has, .slice ao x.old.length co, .slice an x.new.length cn], .agg #[.slice aq y.p.length cq, .bool y.had, .bool y.has, .slice ar y.old.length cr, .slice am y.new.length cm]] w fun e w' => e = .returned (.bool (decide (x = y))) ∧ Below w.heap.size w w' := by
 refine (same160 x.p y.p x.had x.has y.had y.has x.old x.new y.old y.new ap ao an aq ar am cp co cn cq cr cm S w hp ho hn hq hr hm hS hx.1 hx.2.1 hx.2.2 hy.1 hy.2.1 hy.2.2).mono ?_
 rintro e w' ⟨rfl, hb⟩
 refine ⟨?_, hb⟩
 congr 2
 obtain ⟨p, a, b, c, d⟩ := x
 obtain ⟨p', a', b', c', d'⟩ := y
 rw [Bool.eq_iff_iff]
 simp [Ch.mk.injEq, and_assoc]
def SmL3 (l : List Ch) : Prop := ∀ x ∈ l, x.p.length ≤ 1000 ∧ x.old.length ≤ 1000 ∧ x.new.length ≤ 1000
theorem eqChg_any (y z : List Ch) (ay az : Option Addr) (cy cz : Nat) (S : Nat → Prop) (w : World) (hy : ChSl S w (.slice ay y.length cy) y) (hz : ChSl S w (.slice az z.length cz) z) (hS : ∀ b, S b → b < w.heap.size) (ly : y.length ≤ 1000) (lz : z.length ≤ 1000) (sy : SmL3 y) (sz : SmL3 z) :
 Calls Tryz.prog 159 #[.slice ay y.length cy, .slice az z.length cz, .func (.func 160) #[] #[]] w fun e w' => e = .returned (.bool (decide (y = z))) ∧ Below w.heap.size w w' := by
 obtain ⟨_, _, he, hc, hm1, hat⟩ := hy.at
 cases he
 obtain ⟨_, _, he, hc', hm2, hat'⟩ := hz.at
 cases he
 unfold maxLen at hm1 hm2
 have hE := enters160
 have HAT := hid hat
 have HAT' := hid hat'
 have HS := hid hS
 have SY := hid sy
 have SZ := hid sz
 clear hat hat' hS sy sz hy hz
 by_cases hne : y.length = z.length
 · have hne' : ((y.length : Int) != (z.length : Int)) = false := by simp; omega
   have HN := hid hne
   clear hne
   go_enter Tryz.func159, Tryz.ntmps159
   go_wp2_with fail
   go_loopw [17] (fun i wr => ∃ k : Nat, k ≤ y.length ∧ i = .int .i64 k ∧ Hid (y.take k = z.take k) ∧ Below w.heap.size w wr) (fun i _ => y.length - (intOf i).toNat)
   case atStart => exact ⟨0, by omega, rfl, by simp [Hid], Below.refl _ _⟩
   case round =>
    obtain ⟨k, hk, rfl, H2, hB⟩ := hrel
    have hsz := hB.size
    by_cases hlt : k < y.length
    · have hlt2 : k < z.length := by have := HN.out; omega
      obtain ⟨g, o, cs1, rfl, hg, ⟨ap, cp, ao, co, an, cn, rfl, hP, hO, hN⟩, hcell⟩ := HAT.out k hlt
      obtain ⟨g', o', cs2, rfl, hg', ⟨aq, cq, ar, cr, am, cm, rfl, hQ, hR, hM⟩, hcell'⟩ := HAT'.out k hlt2
      have hlt' : (k : Int) < (z.length : Int) := by omega
      have ha : Agree S w wr := Ag_b hB HS.out
      have c0 := ha.cell hg (hcell 0 _ rfl)
      have c1 := ha.cell hg (hcell 1 _ rfl)
      have c2 := ha.cell hg (hcell 2 _ rfl)
      have c3 := ha.cell hg (hcell 3 _ rfl)
      have c4 := ha.cell hg (hcell 4 _ rfl)
      have d0 := ha.cell hg' (hcell' 0 _ rfl)
      have d1 := ha.cell hg' (hcell' 1 _ rfl)
      have d2 := ha.cell hg' (hcell' 2 _ rfl)
      have d3 := ha.cell hg' (hcell' 3 _ rfl)
      have d4 := ha.cell hg' (hcell' 4 _ rfl)
      rw [Nat.add_zero] at c0 d0
      simp only [← Nat.add_assoc] at c1 c2 c3 c4 d1 d2 d3 d4
      have l1 := SY.out _ (List.getElem_mem hlt)
      have l2 := SZ.out _ (List.getElem_mem hlt2)
      have ty : y.take (k + 1) = y.take k ++ [y[k]] := List.take_succ_eq_append_getElem hlt
      have tz : z.take (k + 1) = z.take k ++ [z[k]] := List.take_succ_eq_append_getElem hlt2
      obtain ⟨u, hu⟩ : ∃ u, y[k] = u := ⟨_, rfl⟩
      obtain ⟨v, hv⟩ : ∃ v, z[k] = v := ⟨_, rfl⟩
      rw [hu] at c0 c1 c2 c3 c4 hP hO hN l1 ty
      rw [hv] at d0 d1 d2 d3 d4 hQ hR hM l2 tz
      obtain ⟨W4, hW4⟩ : ∃ W4, wr.alloc (.cells #[.slice ap u.p.length cp, .bool u.had, .bool u.has, .slice ao u.old.length co, .slice an u.new.length cn] 68) = W4 := ⟨_, rfl⟩
      obtain ⟨W5, hW5⟩ : ∃ W5, W4.alloc (.cells #[.slice aq v.p.length cq, .bool v.had, .bool v.has, .slice ar v.old.length cr, .slice am v.new.length cm] 120) = W5 := ⟨_, rfl⟩
      have hz4 : W4.heap.size = wr.heap.size + 1 := by rw [← hW4]; simp
      have hz5 : W5.heap.size = wr.heap.size + 2 := by rw [← hW5]; simp; omega
      have hb4 : Below wr.heap.size wr W4 := by rw [← hW4]; exact (Below.refl _ _).alloc (nl_ _) _
      have hb45 : Below W4.heap.size W4 W5 := by rw [← hW5]; exact (Below.refl _ _).alloc (nl_ _) _
      have hb5 : Below wr.heap.size wr W5 := hb4.trans (hb45.mono (by omega))
      have hnb4 : W4.heap[wr.heap.size]? = some (.cells #[.slice ap u.p.length cp, .bool u.had, .bool u.has, .slice ao u.old.length co, .slice an u.new.length cn] 68 (0, 0)) := by rw [← hW4]; exact heap_alloc_new _ _
      have hnb : W5.heap[wr.heap.size]? = some (.cells #[.slice ap u.p.length cp, .bool u.had, .bool u.has, .slice ao u.old.length co, .slice an u.new.length cn] 68 (0, 0)) := (hb45.block _ (by omega)).trans hnb4
      have hnc : W5.heap[W4.heap.size]? = some (.cells #[.slice aq v.p.length cq, .bool v.had, .bool v.has, .slice ar v.old.length cr, .slice am v.new.length cm] 120 (0, 0)) := by rw [← hW5]; exact heap_alloc_new _ _
      have e0 := cg_ hnb (k := 0) rfl
      have e1 := cg_ hnb (k := 1) rfl
      have e2 := cg_ hnb (k := 2) rfl
      have e3 := cg_ hnb (k := 3) rfl
      have e4 := cg_ hnb (k := 4) rfl
      have f0 := cg_ hnc (k := 0) rfl
      have f1 := cg_ hnc (k := 1) rfl
      have f2 := cg_ hnc (k := 2) rfl
      have f3 := cg_ hnc (k := 3) rfl
      have f4 := cg_ hnc (k := 4) rfl
      have g0 := bc_ hb4 (show g' < wr.heap.size by have := HS.out g' hg'; omega) d0
      have g1 := bc_ hb4 (show g' < wr.heap.size by have := HS.out g' hg'; omega) d1
      have g2 := bc_ hb4 (show g' < wr.heap.size by have := HS.out g' hg'; omega) d2
      have g3 := bc_ hb4 (show g' < wr.heap.size by have := HS.out g' hg'; omega) d3
      have g4 := bc_ hb4 (show g' < wr.heap.size by have := HS.out g' hg'; omega) d4
      have ha5 : Agree S w W5 := Ag_b (hB.trans (hb5.mono hsz)) HS.out
      have SP := hid (same160c u v ap ao an aq ar am cp co cn cq cr cm S W5 (hP.agree ha5) (hO.agree ha5) (hN.agree ha5) (hQ.agree ha5) (hR.agree ha5) (hM.agree ha5) (fun b hb => by have := HS.out b hb; omega) l1 l2)
      have TY := hid ty
      have TZ := hid tz
      have HPp := hid hu
      have HQq := hid hv
      have HW4 := hid hW4
      have HW5 := hid hW5
      have HB5 := hid (hB.trans (hb5.mono hsz))
      have hw5 : w.heap.size ≤ W5.heap.size := by omega
      clear hcell hcell' hP hO hN hQ hR hM ty tz hu hv hW4 hW5 hb4 hb45 hb5 hnb4 hnb hnc hz5 ha ha5 d0 d1 d2 d3 d4 hz4
      by_cases he : u = v
      · rw [decide_eq_true he] at SP
        have HE := hid he
        clear he
        go_wp2_with (first | rw [HW4.out] | rw [HW5.out])
        refine SP.out.mono ?_
        rintro e w1 ⟨rfl, hb1⟩
        have HB1 := hid (HB5.out.trans (hb1.mono hw5))
        clear hb1 c0 c1 c2 c3 c4 e0 e1 e2 e3 e4 f0 f1 f2 f3 f4 g0 g1 g2 g3 g4 SP
        apply_assumption
        go_wp2_with fail
        go_roundw
        case rel => exact ⟨k + 1, by omega, by go_num, by rw [Hid, TY.out, TZ.out, H2.out, HE.out], HB1.out⟩
        case measure => simp [intOf]; omega
      · rw [decide_eq_false he] at SP
        have HE := hid he
        clear he
        go_wp2_with (first | rw [HW4.out] | rw [HW5.out])
        refine SP.out.mono ?_
        rintro e w1 ⟨rfl, hb1⟩
        have HB1 := hid (HB5.out.trans (hb1.mono hw5))
        clear hb1 c0 c1 c2 c3 c4 e0 e1 e2 e3 e4 f0 f1 f2 f3 f4 g0 g1 g2 g3 g4 SP
        apply_assumption
        go_wp2_with fail
        go_ret
        refine ⟨ret_bool ?_, HB1.out⟩
        symm
        rw [decide_eq_false_iff_not]
        rintro rfl
        exact HE.out (HPp.out.symm.trans HQq.out)
    · go_wp2_with fail
      go_ret
      obtain rfl : k = y.length := by omega
      refine ⟨ret_bool ?_, hB⟩
      symm
      have := H2.out
      rw [List.take_length, HN.out, List.take_length] at this
      exact decide_eq_true this
 · have hne' : ((y.length : Int) != (z.length : Int)) = true := by simp; omega
   have HN := hid hne
   clear hne
   go_enter Tryz.func159, Tryz.ntmps159
   go_wp2_with fail
   go_ret
   refine ⟨ret_bool ?_, Below.refl _ _⟩
   symm
   rw [decide_eq_false_iff_not]
   rintro rfl
   exact HN.out rfl
theorem sameChg_any (y z : List Ch) (ay az : Option Addr) (cy cz : Nat) (S : Nat → Prop) (w : World) (hy : ChSl S w (.slice ay y.length cy) y) (hz : ChSl S w (.slice az z.length cz) z) (hS : ∀ b, S b → b < w.heap.size) (ly : y.length ≤ 1000) (lz : z.length ≤ 1000) (sy : SmL3 y) (sz : SmL3 z) :
 Calls Tryz.prog 68 #[.slice ay y.length cy, .slice az z.length cz] w fun e w' => e = .returned (.bool (decide (y = z))) ∧ Below w.heap.size w w' := by
 have HQ := hid (eqChg_any y z ay az cy cz S w hy hz hS ly lz sy sz)
 clear hy hz hS ly lz sy sz
 go_enter Tryz.func68, Tryz.ntmps68
 go_wp2_with fail
 refine HQ.out.mono ?_
 rintro e w1 ⟨rfl, hb1⟩
 go_wp2_with fail
 go_ret
 exact ⟨rfl, hb1⟩
theorem unch_any (y z : List Ch) (ay az : Option Addr) (cy cz : Nat) (S : Nat → Prop) (w : World) (hy : ChSl S w (.slice ay y.length cy) y) (hz : ChSl S w (.slice az z.length cz) z) (hS : ∀ b, S b → b < w.heap.size) (ly : y.length ≤ 1000) (lz : z.length ≤ 1000) (sy : SmL3 y) (sz : SmL3 z) :
 Calls Tryz.prog 74 #[.slice ay y.length cy, .slice az z.length cz] w fun e w' => e = .returned (.bool (decide (y = z))) ∧ Below w.heap.size w w' := by
 have HC := hid (changes_any z az cz S w hz hS lz sz)
 have HY := hid hy
 have HS := hid hS
 have SY := hid sy
 have SZ := hid sz
 clear hy hz hS sy sz
 go_enter Tryz.func74, Tryz.ntmps74
 go_wp2_with fail
 refine HC.out.mono ?_
 rintro e w1 ⟨a1, c1, rfl, hc1, hb1⟩
 have hz1 := hb1.size
 have HQ := hid (sameChg_any y z ay a1 cy c1 (fun b => b < w1.heap.size) w1 ((LSl.agree HY.out (Ag_b hb1 HS.out)).wide fun b hb => by have := HS.out b hb; omega) (hc1.wide fun b hb => hb.2) (fun b hb => hb) ly lz SY.out SZ.out)
 have HB := hid hb1
 clear hb1 hc1 HC
 go_wp2_with fail
 refine HQ.out.mono ?_
 rintro e w2 ⟨rfl, hb2⟩
 have HB2 := hid (HB.out.trans (hb2.mono hz1))
 clear hb2
 go_wp2_with fail
 go_ret
 exact ⟨rfl, HB2.out⟩
end Go.Proofs.LF
