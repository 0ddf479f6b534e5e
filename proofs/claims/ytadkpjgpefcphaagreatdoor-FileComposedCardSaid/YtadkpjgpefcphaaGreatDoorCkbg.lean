/- Parts of the proof of a law of layer 11 (file): LfW95, LfSyA, LfW78c, LfW49. The conditions stand in each theorem. -/
import Derived.Test.YtadkpjgpefcphaaGreatDoorProg
import Derived.Test.YtadkpjgpefcphaaGreatDoorCkad
import Derived.Test.YtadkpjgpefcphaaGreatDoorCkae
import Derived.Test.YtadkpjgpefcphaaGreatDoorCkai
import Derived.Test.YtadkpjgpefcphaaGreatDoorCkan
import Derived.Test.YtadkpjgpefcphaaGreatDoorCkbc
import Derived.Test.YtadkpjgpefcphaaGreatDoorCkbd
import Derived.Test.YtadkpjgpefcphaaGreatDoorCkbe
import Derived.Test.YtadkpjgpefcphaaGreatDoorCkbf
set_option linter.all false
set_option linter.unusedVariables false
set_option linter.unusedSimpArgs false
namespace Go.Proofs.LF
open Go.RowKit Go.Sort
set_option maxHeartbeats 4000000
set_option maxRecDepth 100000
attribute [local go_sem] bs_toList bs_size bs_get
theorem ret166 {tmps : Array Value} {W : World} {b : Nat} {v0 v1 v2 v3 v4 : Value} (h : W.heap[b]? = some (.cells #[v0, v1, v2, v3, v4] 68 (0, 0))) (h2 : tmps.getD 2 undef = .pointer (some ⟨b, 0, none⟩)) :
 (results Tryz.f166 tmps).run Tryz.prog W = .ok (.agg #[v0, v1, v2, v3, v4]) W := by
 have h0 := cg_ h (k := 0) rfl
 have h1 := cg_ h (k := 1) rfl
 have h22 := cg_ h (k := 2) rfl
 have h3 := cg_ h (k := 3) rfl
 have h4 := cg_ h (k := 4) rfl
 have hr : Tryz.f166.results = #[.cell 2 68] := rfl
 simp only [results, hr]
 have h2' : (tmps[2]?).getD undef = .pointer (some ⟨b, 0, none⟩) := by rw [← Array.getD_eq_getD_getElem?]; exact h2
 simp [go_sem, h2', h0, h1, h22, h3, h4]
def turnC (x : Ch) : Ch := ⟨x.p, x.has, x.had, x.new, x.old⟩
def TurU (x : Ch) (w : World) (e : Ending) (w' : World) : Prop :=
 ∃ ap cp ao co an cn, e = .returned (.agg #[.slice ap x.p.length cp, .bool x.has, .bool x.had, .slice an x.new.length cn, .slice ao x.old.length co]) ∧ PthU (Rg w.heap.size w'.heap.size) w' (.slice ap x.p.length cp) x.p ∧ IntU (Rg w.heap.size w'.heap.size) w' (.slice an x.new.length cn) x.new ∧ IntU (Rg w.heap.size w'.heap.size) w' (.slice ao x.old.length co) x.old ∧ Below w.heap.size w w'
def TurR (x : Ch) (w : World) (e : Ending) (w' : World) : Prop :=
 ∃ ap cp ao co an cn, e = .returned (.agg #[.slice ap x.p.length cp, .bool x.has, .bool x.had, .slice an x.new.length cn, .slice ao x.old.length co]) ∧ Pth (Rg w.heap.size w'.heap.size) w' (.slice ap x.p.length cp) x.p ∧ Ints (Rg w.heap.size w'.heap.size) w' (.slice an x.new.length cn) x.new ∧ Ints (Rg w.heap.size w'.heap.size) w' (.slice ao x.old.length co) x.old ∧ Below w.heap.size w w'
theorem turned_u (x : Ch) (ap ao an : Option Addr) (cp co cn : Nat) (S : Nat → Prop) (w : World) (hp : Pth S w (.slice ap x.p.length cp) x.p) (ho : Ints S w (.slice ao x.old.length co) x.old) (hn : Ints S w (.slice an x.new.length cn) x.new) (hS : ∀ b, S b → b < w.heap.size) (lp : x.p.length ≤ 1000) (lo : x.old.length ≤ 1000) (ln : x.new.length ≤ 1000) :
 Calls Tryz.prog 166 #[.agg #[.slice ap x.p.length cp, .bool x.had, .bool x.has, .slice ao x.old.length co, .slice an x.new.length cn]] w (TurU x w) := by
 obtain ⟨p, had, has, old, new⟩ := x
 simp only at hp ho hn lp lo ln ⊢
 have hA := (Below.refl w.heap.size w).alloc (nl_ _) (.cells #[.slice ap p.length cp, .bool had, .bool has, .slice ao old.length co, .slice an new.length cn] 68)
 have hbA := heap_alloc_new w (.cells #[.slice ap p.length cp, .bool had, .bool has, .slice ao old.length co, .slice an new.length cn] 68)
 obtain ⟨wA, hwA⟩ : ∃ wA, w.alloc (.cells #[.slice ap p.length cp, .bool had, .bool has, .slice ao old.length co, .slice an new.length cn] 68) = wA := ⟨_, rfl⟩
 have hzA : wA.heap.size = w.heap.size + 1 := by rw [← hwA]; simp
 rw [hwA] at hA hbA
 have hB := (Below.refl wA.heap.size wA).alloc (nl_ _) (.cells #[.slice none 0 0, .bool false, .bool false, .slice none 0 0, .slice none 0 0] 68)
 have hbB := heap_alloc_new wA (.cells #[.slice none 0 0, .bool false, .bool false, .slice none 0 0, .slice none 0 0] 68)
 obtain ⟨wB, hwB⟩ : ∃ wB, wA.alloc (.cells #[.slice none 0 0, .bool false, .bool false, .slice none 0 0, .slice none 0 0] 68) = wB := ⟨_, rfl⟩
 have hzB : wB.heap.size = w.heap.size + 2 := by rw [← hwB]; simp; omega
 rw [hwB] at hB hbB
 have hAB := (hA.trans (hB.mono (by omega))).drew
 have hbA2 : wB.drew.heap[w.heap.size]? = some (.cells #[.slice ap p.length cp, .bool had, .bool has, .slice ao old.length co, .slice an new.length cn] 68 (0, 0)) := (hB.block w.heap.size (by omega)).trans hbA
 have hbB2 : wB.drew.heap[w.heap.size + 1]? = some (.cells #[.slice none 0 0, .bool false, .bool false, .slice none 0 0, .slice none 0 0] 68 (0, 0)) := by rw [← hzA]; exact hbB
 have hzB' : wB.drew.heap.size = w.heap.size + 2 := hzB
 obtain ⟨a0, ha0⟩ : ∃ a0, w.heap.size = a0 := ⟨_, rfl⟩
 rw [ha0] at hbA2 hbB2 hzB' hzA
 have c0 := cg_ hbA2 (k := 0) rfl
 have c1 := cg_ hbA2 (k := 1) rfl
 have c2 := cg_ hbA2 (k := 2) rfl
 have c3 := cg_ hbA2 (k := 3) rfl
 have c4 := cg_ hbA2 (k := 4) rfl
 have hS0 : wB.drew.cell? ⟨a0, 0, none⟩ = some (.slice ap p.length cp) ∧ wB.drew.cell? ⟨a0, 1, none⟩ = some (.bool had) ∧ wB.drew.cell? ⟨a0, 2, none⟩ = some (.bool has) ∧ wB.drew.cell? ⟨a0, 3, none⟩ = some (.slice ao old.length co) ∧ wB.drew.cell? ⟨a0, 4, none⟩ = some (.slice an new.length cn) := ⟨c0, c1, c2, c3, c4⟩
 have ha := Ag_b (S := S) hAB hS
 have hsB : ∀ b, S b → b < wB.drew.heap.size := fun b hb => by have := hS b hb; omega
 have CP := hid (cloneK_u p ap cp S wB.drew (hp.agree ha) hsB lp)
 have OB := hid (ho.agree ha)
 have NB := hid (hn.agree ha)
 have HSB := hid hsB
 have HAB := hid hAB
 have HBB := hid hbB2
 have HS0 := hid hS0
 have HWA := hid hwA
 have HWB := hid hwB
 have HA0 := hid ha0
 clear hp ho hn hS hA hbA hB hbB hAB hbA2 hbB2 c0 c1 c2 c3 c4 hS0 ha hsB hwA hwB hzB
 go_enter Tryz.func166, Tryz.ntmps166
 go_upto_region 1 with fail
 rw [HWA.out, HWB.out]
 try simp only [HA0.out, hzA]
 refine (wpIn_wide (n := 9)).1 ?_
 refine region_held (fun w' : World => w'.cell? ⟨a0, 0, none⟩ = some (.slice ap p.length cp) ∧ w'.cell? ⟨a0, 1, none⟩ = some (.bool had) ∧ w'.cell? ⟨a0, 2, none⟩ = some (.bool has) ∧ w'.cell? ⟨a0, 3, none⟩ = some (.slice ao old.length co) ∧ w'.cell? ⟨a0, 4, none⟩ = some (.slice an new.length cn)) (by kernel_rfl) ?_
 have hS0 := HS0.out
 refine tkY 0 3 (.pointer (some ⟨a0, 0, none⟩)) rfl rfl hS0 (fun w' hs => ?_) ?_
 · go_simp
 refine tkY 1 4 (.slice ap p.length cp) rfl rfl hS0 (fun w' hs => ?_) ?_
 · obtain ⟨y0, y1, y2, y3, y4⟩ := hs
   go_simp
 refine tkY 3 6 (.pointer (some ⟨a0, 2, none⟩)) rfl rfl hS0 (fun w' hs => ?_) ?_
 · go_simp
 refine tkY 4 7 (.bool has) rfl rfl hS0 (fun w' hs => ?_) ?_
 · obtain ⟨y0, y1, y2, y3, y4⟩ := hs
   go_simp
 refine tkY 5 8 (.pointer (some ⟨a0, 1, none⟩)) rfl rfl hS0 (fun w' hs => ?_) ?_
 · go_simp
 refine tkY 6 9 (.bool had) rfl rfl hS0 (fun w' hs => ?_) ?_
 · obtain ⟨y0, y1, y2, y3, y4⟩ := hs
   go_simp
 refine tkY 7 10 (.pointer (some ⟨a0, 4, none⟩)) rfl rfl hS0 (fun w' hs => ?_) ?_
 · go_simp
 refine tkY 8 11 (.slice an new.length cn) rfl rfl hS0 (fun w' hs => ?_) ?_
 · obtain ⟨y0, y1, y2, y3, y4⟩ := hs
   go_simp
 refine tkY 10 13 (.pointer (some ⟨a0, 3, none⟩)) rfl rfl hS0 (fun w' hs => ?_) ?_
 · go_simp
 refine tkY 11 14 (.slice ao old.length co) rfl rfl hS0 (fun w' hs => ?_) ?_
 · obtain ⟨y0, y1, y2, y3, y4⟩ := hs
   go_simp
 refine AnyH_one (i := 2) (by kernel_rfl) rfl (by kernel_rfl) (fun K hK => ?_)
 go_simp
 refine ⟨trivial, (callsIn_wide.2 CP.out).mono ?_⟩
 rintro e w1 ⟨ap1, cp1, rfl, hP1, hb1⟩
 have hS1 : w1.cell? ⟨a0, 0, none⟩ = some (.slice ap p.length cp) ∧ w1.cell? ⟨a0, 1, none⟩ = some (.bool had) ∧ w1.cell? ⟨a0, 2, none⟩ = some (.bool has) ∧ w1.cell? ⟨a0, 3, none⟩ = some (.slice ao old.length co) ∧ w1.cell? ⟨a0, 4, none⟩ = some (.slice an new.length cn) :=
  ⟨bc_ hb1 (by omega) hS0.1, bc_ hb1 (by omega) hS0.2.1, bc_ hb1 (by omega) hS0.2.2.1, bc_ hb1 (by omega) hS0.2.2.2.1, bc_ hb1 (by omega) hS0.2.2.2.2⟩
 have hz1 := hb1.size
 have CN := hid (cloneI_u new an cn S w1 (NB.out.agree (Ag_b hb1 HSB.out)) ln)
 have HB1 := hid hb1
 have HP1 := hid hP1
 refine hK _ _ ⟨hS1, ?_⟩
 clear hK hS0 hb1 hP1
 refine AnyH_one (i := 9) (by kernel_rfl) rfl (by kernel_rfl) (fun K hK => ?_)
 go_simp
 refine ⟨trivial, (callsIn_wide.2 CN.out).mono ?_⟩
 rintro e w2 ⟨an2, cn2, rfl, hN2, hb2⟩
 have hS2 : w2.cell? ⟨a0, 0, none⟩ = some (.slice ap p.length cp) ∧ w2.cell? ⟨a0, 1, none⟩ = some (.bool had) ∧ w2.cell? ⟨a0, 2, none⟩ = some (.bool has) ∧ w2.cell? ⟨a0, 3, none⟩ = some (.slice ao old.length co) ∧ w2.cell? ⟨a0, 4, none⟩ = some (.slice an new.length cn) :=
  ⟨bc_ hb2 (by omega) hS1.1, bc_ hb2 (by omega) hS1.2.1, bc_ hb2 (by omega) hS1.2.2.1, bc_ hb2 (by omega) hS1.2.2.2.1, bc_ hb2 (by omega) hS1.2.2.2.2⟩
 have hz2 := hb2.size
 have h12 := HB1.out.trans (hb2.mono hz1)
 have CO := hid (cloneI_u old ao co S w2 (OB.out.agree (Ag_b h12 HSB.out)) lo)
 have HB2 := hid hb2
 have HN2 := hid hN2
 refine hK _ _ ⟨hS2, ?_⟩
 clear hK hS1 hb2 hN2 h12
 refine AnyH_one (i := 12) (by kernel_rfl) rfl (by kernel_rfl) (fun K hK => ?_)
 go_simp
 refine ⟨trivial, (callsIn_wide.2 CO.out).mono ?_⟩
 rintro e w3 ⟨ao3, co3, rfl, hO3, hb3⟩
 have hS3 : w3.cell? ⟨a0, 0, none⟩ = some (.slice ap p.length cp) ∧ w3.cell? ⟨a0, 1, none⟩ = some (.bool had) ∧ w3.cell? ⟨a0, 2, none⟩ = some (.bool has) ∧ w3.cell? ⟨a0, 3, none⟩ = some (.slice ao old.length co) ∧ w3.cell? ⟨a0, 4, none⟩ = some (.slice an new.length cn) :=
  ⟨bc_ hb3 (by omega) hS2.1, bc_ hb3 (by omega) hS2.2.1, bc_ hb3 (by omega) hS2.2.2.1, bc_ hb3 (by omega) hS2.2.2.2.1, bc_ hb3 (by omega) hS2.2.2.2.2⟩
 have hz3 := hb3.size
 have hr1 := HB1.out.block (a0 + 1) (by omega)
 have hr2 := HB2.out.block (a0 + 1) (by omega)
 have hr3 := hb3.block (a0 + 1) (by omega)
 have hcell : w3.heap[a0 + 1]? = some (.cells #[.slice none 0 0, .bool false, .bool false, .slice none 0 0, .slice none 0 0] 68 (0, 0)) := by rw [hr3, hr2, hr1]; exact HBB.out
 have HB3 := hid hb3
 have HO3 := hid hO3
 refine hK _ _ ⟨hS3, ?_⟩
 clear hK hS2 hb3 hO3 hr1 hr2 hr3
 refine tkY 13 16 (.agg #[.slice ap1 p.length cp1, .bool has, .bool had, .slice an2 new.length cn2, .slice ao3 old.length co3]) rfl rfl hS3 (fun w' hs => ?_) ?_
 · go_simp
 have k0 := cg_ hcell (k := 0) rfl
 have k1 := cg_ hcell (k := 1) rfl
 have k2 := cg_ hcell (k := 2) rfl
 have k3 := cg_ hcell (k := 3) rfl
 have k4 := cg_ hcell (k := 4) rfl
 have f0 := cells_frz hcell (k := 0)
 have f1 := cells_frz hcell (k := 1)
 have f2 := cells_frz hcell (k := 2)
 have f3 := cells_frz hcell (k := 3)
 have f4 := cells_frz hcell (k := 4)
 refine AnyH_one (i := 14) (by kernel_rfl) rfl (by kernel_rfl) (fun K hK => ?_)
 go_simp
 have e4 : (((((w3.setCell ⟨a0 + 1, 0, none⟩ (.slice ap1 p.length cp1)).setCell ⟨a0 + 1, 1, none⟩ (.bool has)).setCell ⟨a0 + 1, 2, none⟩ (.bool had)).setCell ⟨a0 + 1, 3, none⟩ (.slice an2 new.length cn2)).setCell ⟨a0 + 1, 4, none⟩ (.slice ao3 old.length co3)).heap[a0 + 1]? = some (.cells #[.slice ap1 p.length cp1, .bool has, .bool had, .slice an2 new.length cn2, .slice ao3 old.length co3] 68 (0, 0)) := by
  simp [World.setCell, Array.getElem?_modify, hcell]
 have eo : ∀ b, b ≠ a0 + 1 → (((((w3.setCell ⟨a0 + 1, 0, none⟩ (.slice ap1 p.length cp1)).setCell ⟨a0 + 1, 1, none⟩ (.bool has)).setCell ⟨a0 + 1, 2, none⟩ (.bool had)).setCell ⟨a0 + 1, 3, none⟩ (.slice an2 new.length cn2)).setCell ⟨a0 + 1, 4, none⟩ (.slice ao3 old.length co3)).heap[b]? = w3.heap[b]? := fun b h => by
  rw [Below.heap_setCell _ _ _ _ h, Below.heap_setCell _ _ _ _ h, Below.heap_setCell _ _ _ _ h, Below.heap_setCell _ _ _ _ h, Below.heap_setCell _ _ _ _ h]
 have B3 : Below a0 w w3 := by
  have h0 := HAB.out
  rw [HA0.out] at h0
  exact h0.trans ((HB1.out.trans ((HB2.out.trans (HB3.out.mono hz2)).mono hz1)).mono (by omega))
 have B4 : Below a0 w (((((w3.setCell ⟨a0 + 1, 0, none⟩ (.slice ap1 p.length cp1)).setCell ⟨a0 + 1, 1, none⟩ (.bool has)).setCell ⟨a0 + 1, 2, none⟩ (.bool had)).setCell ⟨a0 + 1, 3, none⟩ (.slice an2 new.length cn2)).setCell ⟨a0 + 1, 4, none⟩ (.slice ao3 old.length co3)) := ⟨B3.os, B3.tape, B3.output, by simpa [World.setCell] using B3.size, fun b hb => (eo b (by omega)).trans (B3.block b hb)⟩
 have z4 : (((((w3.setCell ⟨a0 + 1, 0, none⟩ (.slice ap1 p.length cp1)).setCell ⟨a0 + 1, 1, none⟩ (.bool has)).setCell ⟨a0 + 1, 2, none⟩ (.bool had)).setCell ⟨a0 + 1, 3, none⟩ (.slice an2 new.length cn2)).setCell ⟨a0 + 1, 4, none⟩ (.slice ao3 old.length co3)).heap.size = w3.heap.size := by simp [World.setCell]
 generalize (((((w3.setCell ⟨a0 + 1, 0, none⟩ (.slice ap1 p.length cp1)).setCell ⟨a0 + 1, 1, none⟩ (.bool has)).setCell ⟨a0 + 1, 2, none⟩ (.bool had)).setCell ⟨a0 + 1, 3, none⟩ (.slice an2 new.length cn2)).setCell ⟨a0 + 1, 4, none⟩ (.slice ao3 old.length co3)) = w4 at e4 eo B4 z4 ⊢
 have q0 := hS3.1
 have hS4 : w4.cell? ⟨a0, 0, none⟩ = some (.slice ap p.length cp) ∧ w4.cell? ⟨a0, 1, none⟩ = some (.bool had) ∧ w4.cell? ⟨a0, 2, none⟩ = some (.bool has) ∧ w4.cell? ⟨a0, 3, none⟩ = some (.slice ao old.length co) ∧ w4.cell? ⟨a0, 4, none⟩ = some (.slice an new.length cn) :=
  ⟨(World.cell?_of_block (eo a0 (by omega))).trans hS3.1, (World.cell?_of_block (eo a0 (by omega))).trans hS3.2.1, (World.cell?_of_block (eo a0 (by omega))).trans hS3.2.2.1, (World.cell?_of_block (eo a0 (by omega))).trans hS3.2.2.2.1, (World.cell?_of_block (eo a0 (by omega))).trans hS3.2.2.2.2⟩
 refine hK _ _ ⟨hS4, ?_⟩
 clear hK hS4 hS3 q0
 refine AnyH_done (by kernel_rfl) ?_
 go_simp
 have hP4 := PthU.agree (w' := w4) HP1.out (fun b hb => (eo b (by have := hb.1; omega)).trans ((HB3.out.block b (by have := hb.2; omega)).trans (HB2.out.block b hb.2)))
 have hN4 := IntU.agree (w' := w4) HN2.out (fun b hb => (eo b (by have := hb.1; omega)).trans (HB3.out.block b hb.2))
 have hO4 := IntU.agree (w' := w4) HO3.out (fun b hb => eo b (by have := hb.1; omega))
 have R4 : TurU ⟨p, had, has, old, new⟩ w (.returned (.agg #[.slice ap1 p.length cp1, .bool has, .bool had, .slice an2 new.length cn2, .slice ao3 old.length co3])) w4 :=
  ⟨ap1, cp1, ao3, co3, an2, cn2, rfl, PthU.wide hP4 (fun b hb => ⟨by have := hb.1; omega, by have := hb.2; omega⟩), IntU.wide hN4 (fun b hb => ⟨by have := hb.1; omega, by have := hb.2; omega⟩), IntU.wide hO4 (fun b hb => ⟨by have := hb.1; omega, by have := hb.2; omega⟩), by rw [ha0]; exact B4⟩
 have HR4 := hid R4
 have HE4 := hid e4
 clear R4 hP4 hN4 hO4 e4 eo B4 B3 f0 f1 f2 f3 f4 k0 k1 k2 k3 k4 hcell
 go_wp2_with fail
 refine bodyPost_ret (v := .agg #[.slice ap1 p.length cp1, .bool has, .bool had, .slice an2 new.length cn2, .slice ao3 old.length co3]) (ret166 HE4.out rfl) rfl ?_
 exact HR4.out
theorem turned_any (x : Ch) (ap ao an : Option Addr) (cp co cn : Nat) (S : Nat → Prop) (w : World) (hp : Pth S w (.slice ap x.p.length cp) x.p) (ho : Ints S w (.slice ao x.old.length co) x.old) (hn : Ints S w (.slice an x.new.length cn) x.new) (hS : ∀ b, S b → b < w.heap.size) (lp : x.p.length ≤ 1000) (lo : x.old.length ≤ 1000) (ln : x.new.length ≤ 1000) :
 Calls Tryz.prog 166 #[.agg #[.slice ap x.p.length cp, .bool x.had, .bool x.has, .slice ao x.old.length co, .slice an x.new.length cn]] w (TurR x w) :=
 (turned_u x ap ao an cp co cn S w hp ho hn hS lp lo ln).mono fun _ _ ⟨ap, cp, ao, co, an, cn, he, h1, h2, h3, hb⟩ => ⟨ap, cp, ao, co, an, cn, he, Pth.wide h1 fun q hq => hq.1, Ints.wide h2 fun q hq => hq.1, Ints.wide h3 fun q hq => hq.1, hb⟩
end Go.Proofs.LF
namespace Go.Proofs.LF
def FlOk (x : Fl) : Prop := x.p.length ≤ 4 ∧ (∃ v n, x.p = v ++ [kyOf n x.l] ∧ badNm n = false) ∧ x.l.length ≤ 4 ∧ badNs x.l = false
theorem fls_flok : ∀ (y : Fo) (u : List Ky), OkG u.length y → ∀ x ∈ flsL u y, FlOk x
 | .nil, u, _, x, h => by cases h
 | .cons n l s r, u, ⟨⟨h1, h2, h3, h4⟩, h5, _, h7⟩, x, h => by
   rw [flsL_cons] at h
   rcases List.mem_cons.1 h with rfl | h
   · exact ⟨by simp; omega, ⟨u, n, rfl, h2⟩, h3, h4⟩
   · rcases List.mem_append.1 h with h | h
     · exact fls_flok s _ (by simpa using h5) x h
     · exact fls_flok r u h7 x h
end Go.Proofs.LF
namespace Go.Proofs.LF
open Go.RowKit Go.Sort
theorem changed_c (y : Fo) (a : Option Addr) (c : Nat) (W w1 : World) (h : PAt W w1) (hy : In W (.slice a y.len c) y) (ho : OkF 0 y) (hc : y.cnt ≤ 300) :
 Calls Tryz.prog 39 #[.pointer (some ⟨W.heap.size, 0, none⟩), .slice a y.len c] w1 fun e w' => ∃ y' a' c', e = .returned (.slice a' y'.len c') ∧ In w' (.slice a' y'.len c') y' ∧ (OkF 0 y' ∧ y'.cnt ≤ 2 * y.cnt + 1) ∧ Below W.heap.size W w' := by
 obtain ⟨h1, h2, h3⟩ := h
 refine (changed_any y a c W.heap.size _ (fun q => q < W.heap.size) w1 hc ho (hy.agree (Ag_b h3 (fun _ h => h))) (fun q hq => by omega) h1 (by omega) (fun q hq => by omega)).mono ?_
 rintro e w' ⟨y', a', c', he, hF, ho', hc', _, hk⟩
 exact ⟨y', a', c', he, hF.wide fun b hb => hb.2, ⟨ho', hc'⟩, h3.trans (Keep.below hk (by omega) (fun b hb => by omega))⟩
end Go.Proofs.LF
namespace Go.Proofs.LF
open Go.RowKit Go.Sort
set_option maxHeartbeats 4000000
set_option maxRecDepth 100000
attribute [local go_sem] bs_toList bs_size bs_get
theorem FCs.take {S : Nat → Prop} {w : World} : ∀ {i : Nat} {y : Fo} {cs : List Value}, FCs S w y cs → FCs S w (y.take i) (cs.take (i * 3))
 | 0, _, _, _ => by simp [Fo.take, FCs]
 | i + 1, .nil, _, h => by rw [show _ = [] from h]; simp [Fo.take, FCs]
 | i + 1, .cons _ _ _ _, _, ⟨vn, vs, cs', h, h2, h3, h5⟩ => by
   rw [h, show (i + 1) * 3 = i * 3 + 1 + 1 + 1 from by omega]
   exact ⟨vn, vs, cs'.take (i * 3), rfl, h2, h3, h5.take⟩
theorem SlC.pre {S : Nat → Prop} {w : World} {k n m c : Nat} {a : Option Addr} {cs : List Value} (h : SlC S w k (.slice a n c) n cs) (hm : m ≤ n) : SlC S w k (.slice a m c) m (cs.take (m * k)) := by
 obtain ⟨h1, a', c', he, h2, h3, h4, h5⟩ := h
 cases he
 refine ⟨by rw [List.length_take, h1]; exact Nat.min_eq_left (Nat.mul_le_mul_right k hm), a, c, rfl, by omega, h3, h4, ?_⟩
 rcases h5 with h5 | ⟨g, o, h6, h7, h8⟩
 · exact .inl (by omega)
 · refine .inr ⟨g, o, h6, h7, fun j u hj => h8 j u ?_⟩
   rw [List.getElem?_take] at hj
   split at hj
   · exact hj
   · cases hj
theorem SlC.suf {S : Nat → Prop} {w : World} {k n m c g o : Nat} {cs : List Value} (h : SlC S w k (.slice (some ⟨g, o, none⟩) n c) n cs) (hm : m < n) : SlC S w k (.slice (some ⟨g, o + m * k, none⟩) (n - m) (c - m)) (n - m) (cs.drop (m * k)) := by
 obtain ⟨h1, a', c', he, h2, h3, h4, h5⟩ := h
 cases he
 refine ⟨by rw [List.length_drop, h1, Nat.sub_mul], _, _, rfl, by omega, by omega, (fun h => by cases h), ?_⟩
 rcases h5 with h5 | ⟨g', o', h6, h7, h8⟩
 · omega
 · cases h6
   refine .inr ⟨g, o + m * k, rfl, h7, fun j u hj => ?_⟩
   rw [List.getElem?_drop] at hj
   rw [Nat.add_assoc]
   exact h8 _ u hj
theorem FSl.pre {S : Nat → Prop} {w : World} {a : Option Addr} {m c : Nat} {y : Fo} (h : FSl S w (.slice a y.len c) y) (hm : m ≤ y.len) : FSl S w (.slice a m c) (y.take m) := by
 obtain ⟨ds, h1, h2⟩ := h
 exact ⟨_, by rw [Fo.len_take hm]; exact h1.pre hm, h2.take⟩
theorem FSl.suf {S : Nat → Prop} {w : World} {g o m c : Nat} {y : Fo} (h : FSl S w (.slice (some ⟨g, o, none⟩) y.len c) y) (hm : m < y.len) : FSl S w (.slice (some ⟨g, o + m * 3, none⟩) (y.len - m) (c - m)) (y.drop m) := by
 obtain ⟨ds, h1, h2⟩ := h
 exact ⟨_, by rw [Fo.len_drop]; exact h1.suf hm, h2.drop⟩
theorem one_facts (n : Int) : (oneY n).len = 2 ∧ (oneY n).Sm ∧ (oneY n).cnt = 3 := ⟨rfl, by simp [oneY, Fo.Sm, bedN, rakedN, soldN, Fo.len], rfl⟩
theorem print7 (a : Option Addr) (c : Nat) (S : Nat → Prop) (w : World) (hv : FSl S w (.slice a 2 c) (oneY 7)) (hS : ∀ b, S b → b < w.heap.size) (ht : Pow w) :
 Calls Tryz.prog 22 #[.slice a 2 c] w fun e w' => e = .returned (.tuple #[.string ⟨#[98, 101, 100, 32, 51, 10, 32, 114, 97, 107, 101, 100, 32, 53, 32, 55, 10, 115, 111, 108, 100, 10]⟩, .int .i64 0]) ∧ Below w.heap.size w w' := by
 have h := Print_any (oneY 7) a c S w hv hS (by decide) (one_facts 7).2.1 (by decide) ht
 rw [val_chk, if_pos rfl, val_txt] at h
 exact h
theorem parse1 (w : World) : Calls Tryz.prog 26 #[.string ⟨#[98, 101, 100, 32, 51, 10, 32, 114, 97, 107, 101, 100, 32, 53, 32, 55, 10, 115, 111, 108, 100, 10]⟩] w fun e w' => ∃ a c, e = .returned (.tuple #[.slice a 2 c, .int .i64 0, .int .i64 0, .int .i64 0]) ∧ FSl (Rg w.heap.size w'.heap.size) w' (.slice a 2 c) (oneY 7) ∧ Below w.heap.size w w' := by
 have h := Parse_any txt1 w (by decide)
 rw [val_prs1.1, val_prs1.2] at h
 exact h
theorem parse2 (w : World) : Calls Tryz.prog 26 #[.string ⟨#[98, 101, 100, 32, 51, 10, 32, 32, 114, 97, 107, 101, 100, 32, 53, 10]⟩] w fun e w' => ∃ a c, e = .returned (.tuple #[.slice a 0 c, .int .i64 1, .int .i64 1, .int .i64 11]) ∧ Below w.heap.size w w' := by
 have h := Parse_any txt2 w (by decide)
 rw [val_prs2.1, val_prs2.2] at h
 exact h.mono fun e w' ⟨a, c, h1, _, h3⟩ => ⟨a, c, h1, h3⟩
theorem alike7 (a1 a2 : Option Addr) (c1 c2 : Nat) (S : Nat → Prop) (w : World) (h1 : FSl S w (.slice a1 2 c1) (oneY 7)) (h2 : FSl S w (.slice a2 2 c2) (oneY 7)) (hS : ∀ b, S b → b < w.heap.size) :
 Calls Tryz.prog 25 #[.slice a1 2 c1, .slice a2 2 c2] w fun e w' => e = .returned (.bool true) ∧ Below w.heap.size w w' := by
 have h := (alike_any 4).2 (oneY 7) (oneY 7) a1 c1 a2 c2 S w (by decide) h1 h2 hS (by decide) (by decide) (one_facts 7).2.1 (one_facts 7).2.1
 rw [decide_eq_true rfl] at h
 exact h
theorem diff78 (a1 a2 : Option Addr) (c1 c2 : Nat) (S : Nat → Prop) (w : World) (h1 : FSl S w (.slice a1 2 c1) (oneY 7)) (h2 : FSl S w (.slice a2 1 c2) (oneB 8)) (hS : ∀ b, S b → b < w.heap.size) (ht : Pow w) :
 Calls Tryz.prog 41 #[.slice a1 2 c1, .slice a2 1 c2] w fun e w' => ∃ a c, e = .returned (.tuple #[.slice a 2 c, .int .i64 0]) ∧ ChSl (Rg w.heap.size w'.heap.size) w' (.slice a 2 c) difV ∧ Below w.heap.size w w' := by
 have h := Diff_any (oneY 7) (oneB 8) a1 a2 c1 c2 S w h1 h2 hS (by decide) (by decide) (one_facts 7).2.1 (by simp [oneB, Fo.Sm, bedN, rakedN, Fo.len]) (by decide) (by decide) ht
 rw [val_dif.1, val_dif.2] at h
 exact h
theorem get7 (a1 a2 : Option Addr) (c1 c2 : Nat) (S T : Nat → Prop) (w : World) (h1 : FSl S w (.slice a1 2 c1) (oneY 7)) (hS : ∀ b, S b → b < w.heap.size) (h2 : Pth T w (.slice a2 2 c2) [bed3, raked5]) (hT : ∀ b, T b → b < w.heap.size) :
 Calls Tryz.prog 56 #[.slice a1 2 c1, .slice a2 2 c2] w fun e w' => ∃ an cn ab cb, e = .returned (.tuple #[.agg #[.string ⟨#[114, 97, 107, 101, 100]⟩, .slice an 2 cn, .slice ab 0 cb], .int .i64 0]) ∧ Ints (Rg w.heap.size w'.heap.size) w' (.slice an 2 cn) [5, 7] ∧ Below w.heap.size w w' := by
 have h := Get_any (oneY 7) [bed3, raked5] a1 a2 c1 c2 S T w h1 hS h2 hT (by decide) (one_facts 7).2.1 (by decide) (by decide)
 refine h.mono ?_
 rintro e w' ⟨n, l, s, an, cn, ab, cb, hg, he, hi, hf, hb⟩
 rw [val_get.2] at hg
 obtain ⟨rfl, rfl, rfl⟩ : rakedN = n ∧ [5, 7] = l ∧ Fo.nil = s := by simpa using hg
 rw [val_get.1] at he
 exact ⟨an, cn, ab, cb, he, hi, hb⟩
theorem put7 (a1 a2 an : Option Addr) (c1 c2 cn : Nat) (S T : Nat → Prop) (w : World) (h1 : FSl S w (.slice a1 2 c1) (oneY 7)) (hS : ∀ b, S b → b < w.heap.size) (h2 : Pth T w (.slice a2 1 c2) [bed3]) (h3 : Ints T w (.slice an 1 cn) [6]) (hT : ∀ b, T b → b < w.heap.size) :
 Calls Tryz.prog 49 #[.slice a1 2 c1, .slice a2 1 c2, .agg #[.string ⟨#[114, 97, 107, 101, 100]⟩, .slice an 1 cn, .slice none 0 0]] w fun e w' => ∃ a c, e = .returned (.tuple #[.slice a 2 c, .int .i64 0]) ∧ FSl (Rg w.heap.size w'.heap.size) w' (.slice a 2 c) oneM ∧ Below w.heap.size w w' := by
 have h := Put_any (oneY 7) [bed3] rakedN [6] .nil a1 a2 an none c1 c2 cn 0 S T T w h1 hS h2 hT h3 ⟨[], ⟨rfl, none, 0, rfl, nl_ _, by simp [maxLen], fun _ => rfl, .inl rfl⟩, rfl⟩ hT (by decide) (one_facts 7).2.1 (by decide) (by decide) (by decide) (by decide) (by decide) trivial (by decide)
 refine h.mono ?_
 rintro e w' ⟨a, c, he, hf, hb⟩
 rw [val_put.1, val_put.2] at he
 rw [val_put.2] at hf
 exact ⟨a, c, he, hf.fsl, hb⟩
theorem join7 (a1 a2 a3 : Option Addr) (c1 c2 c3 : Nat) (S : Nat → Prop) (w : World) (h1 : FSl S w (.slice a1 2 c1) (oneY 7)) (h2 : FSl S w (.slice a2 1 c2) oneS) (h3 : FSl S w (.slice a3 2 c3) oneM) (hS : ∀ b, S b → b < w.heap.size) (ht : Pow w) :
 Calls Tryz.prog 33 #[.slice a1 2 c1, .slice a2 1 c2, .slice a3 2 c3] w fun e w' => ∃ a c a' c', e = .returned (.tuple #[.slice a 1 c, .slice a' 1 c', .int .i64 0]) ∧ FSl (Rg w.heap.size w'.heap.size) w' (.slice a 1 c) oneS ∧ PaSl (Rg w.heap.size w'.heap.size) w' (.slice a' 1 c') [[bed3, raked6]] ∧ Below w.heap.size w w' := by
 have h := Join_any (oneY 7) oneS oneM a1 a2 a3 c1 c2 c3 S w h1 h2 h3 hS ⟨by decide, (one_facts 7).2.1, by decide⟩ ⟨by decide, by simp [oneS, Fo.Sm, soldN, Fo.len], by decide⟩ ⟨by decide, by simp [oneM, Fo.Sm, bedN, rakedN, soldN, Fo.len], by decide⟩ ht
 refine h.mono ?_
 rintro e w' ⟨a, c, a', c', he, hf, hp, hb⟩
 rw [val_join.1, val_join.2.1, val_join.2.2] at he
 rw [val_join.2.1] at hf
 rw [val_join.2.2] at hp
 exact ⟨a, c, a', c', he, hf, hp, hb⟩
end Go.Proofs.LF
