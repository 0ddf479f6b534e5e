/- Parts of the proof of a law of layer 11 (file): LfW106. The conditions stand in each theorem. -/
import Derived.Test.YtadkpjgpefcphaaGreatDoorProg
import Derived.Test.YtadkpjgpefcphaaGreatDoorChae
import Derived.Test.YtadkpjgpefcphaaGreatDoorChbe
import Derived.Test.YtadkpjgpefcphaaGreatDoorChbi
set_option linter.all false
set_option linter.unusedVariables false
set_option linter.unusedSimpArgs false
namespace Go.Proofs.LF
open Go.RowKit Go.Sort
set_option maxHeartbeats 4000000
set_option maxRecDepth 100000
attribute [local go_sem] bs_toList bs_size bs_get
theorem enters160:∀ (args:Array Value) (W:World),(callFunc 160 args).run Tryz.prog W = .ok (.enter 160 args) W:=by
 intro args W
 simp [go_sem]
theorem same160 (p q:List Ky) (had has gad gas:Bool) (old new olb neb:List Int) (ap ao an aq ar am:Option Addr) (cp co cn cq cr cm:Nat) (S:Nat→Prop) (w:World) (hp:Pth S w (.slice ap p.length cp) p) (ho:Ints S w (.slice ao old.length co) old) (hn:Ints S w (.slice an new.length cn) new)
 (hq:Pth S w (.slice aq q.length cq) q) (hr:Ints S w (.slice ar olb.length cr) olb) (hm:Ints S w (.slice am neb.length cm) neb) (hS:∀ b,S b→b < w.heap.size) (lp:p.length ≤ 1000) (lo:old.length ≤ 1000) (ln:new.length ≤ 1000) (lq:q.length ≤ 1000) (lr:olb.length ≤ 1000) (lm:neb.length ≤ 1000) :
 Calls Tryz.prog 160 #[.agg #[.slice ap p.length cp, .bool had, .bool has, .slice ao old.length co, .slice an new.length cn], .agg #[.slice aq q.length cq, .bool gad, .bool gas, .slice ar olb.length cr, .slice am neb.length cm]] w fun e w'=>e = .returned (.bool (decide (p = q) && (had == gad) && (has == gas) && decide (old = olb) && decide (new = neb)))∧Below w.heap.size w w':=by
 obtain ⟨b0,hb0⟩:∃ b0,w.heap.size = b0:=⟨_,rfl⟩
 obtain ⟨wA,hwA⟩:∃ wA,w.alloc (.cells #[.slice ap p.length cp, .bool had, .bool has, .slice ao old.length co, .slice an new.length cn] 68) = wA:=⟨_,rfl⟩
 obtain ⟨wB,hwB⟩:∃ wB,wA.alloc (.cells #[.slice aq q.length cq, .bool gad, .bool gas, .slice ar olb.length cr, .slice am neb.length cm] 120) = wB:=⟨_,rfl⟩
 have hzA:wA.heap.size = b0 + 1:=by rw [← hwA,← hb0];simp
 have hzB:wB.heap.size = b0 + 2:=by rw [← hwB];simp;omega
 have hbA:wA.heap[b0]? = some (.cells #[.slice ap p.length cp, .bool had, .bool has, .slice ao old.length co, .slice an new.length cn] 68 (0,0)):=by rw [← hwA,← hb0];exact heap_alloc_new _ _
 have hbB1:wB.heap[b0 + 1]? = some (.cells #[.slice aq q.length cq, .bool gad, .bool gas, .slice ar olb.length cr, .slice am neb.length cm] 120 (0,0)):=by rw [← hwB,← hzA];exact heap_alloc_new _ _
 have hbB0:wB.heap[b0]? = some (.cells #[.slice ap p.length cp, .bool had, .bool has, .slice ao old.length co, .slice an new.length cn] 68 (0,0)):=by rw [← hwB];exact (heap_alloc_old _ _ (by omega)).trans hbA
 have hBel:Below w.heap.size w wB.drew:=by
  rw [← hwB,← hwA]
  exact (((Below.refl w.heap.size w).alloc (nl_ _) _).alloc (by simp) _).drew
 have h0lt:b0 < wB.heap.size:=by omega
 have h1lt:b0 + 1 < wB.heap.size:=by omega
 have hS0:wB.drew.cell? ⟨b0,0,none⟩ = some (.slice ap p.length cp)∧wB.drew.cell? ⟨b0,1,none⟩ = some (.bool had)∧wB.drew.cell? ⟨b0,2,none⟩ = some (.bool has)∧wB.drew.cell? ⟨b0,3,none⟩ = some (.slice ao old.length co)∧wB.drew.cell? ⟨b0,4,none⟩ = some (.slice an new.length cn)∧wB.drew.cell? ⟨b0 + 1,0,none⟩ = some (.slice aq q.length cq)∧wB.drew.cell? ⟨b0 + 1,1,none⟩ = some (.bool gad)∧wB.drew.cell? ⟨b0 + 1,2,none⟩ = some (.bool gas)∧wB.drew.cell? ⟨b0 + 1,3,none⟩ = some (.slice ar olb.length cr)∧wB.drew.cell? ⟨b0 + 1,4,none⟩ = some (.slice am neb.length cm):=⟨cg_ hbB0 (k:=0) rfl,cg_ hbB0 (k:=1) rfl,cg_ hbB0 (k:=2) rfl,cg_ hbB0 (k:=3) rfl,cg_ hbB0 (k:=4) rfl,cg_ hbB1 (k:=0) rfl,cg_ hbB1 (k:=1) rfl,cg_ hbB1 (k:=2) rfl,cg_ hbB1 (k:=3) rfl,cg_ hbB1 (k:=4) rfl⟩
 have ha:=Ag_b (S:=S) hBel hS
 have hSB:∀ b,S b→b < wB.heap.size:=fun b hb=>by have:=hS b hb;omega
 have PA:=hid (path_any p ap cp S wB.drew (hp.agree ha) hSB lp)
 have HQ:=hid (hq.agree ha)
 have HO:=hid (ho.agree ha)
 have HR:=hid (hr.agree ha)
 have HN:=hid (hn.agree ha)
 have HM:=hid (hm.agree ha)
 have HSB:=hid hSB
 have HS0:=hid hS0
 have HB:=hid hBel
 have HWA:=hid hwA
 have HWB:=hid hwB
 have HB0:=hid hb0
 have HZA:=hid hzA
 have HZB:=hid hzB
 have hle:w.heap.size ≤ wB.heap.size:=by omega
 clear hp ho hn hq hr hm hS hbA hbB1 hbB0 hBel hS0 ha hSB hwA hwB hzA hzB hb0
 go_enter Tryz.func160,Tryz.ntmps160
 go_upto_region 1 with fail
 rw [HWA.out,HWB.out]
 try simp only [HB0.out,HZA.out]
 refine (wpIn_wide (n:=9)).1 ?_
 refine region_held (fun w':World=>w'.cell? ⟨b0,0,none⟩ = some (.slice ap p.length cp)∧w'.cell? ⟨b0,1,none⟩ = some (.bool had)∧w'.cell? ⟨b0,2,none⟩ = some (.bool has)∧w'.cell? ⟨b0,3,none⟩ = some (.slice ao old.length co)∧w'.cell? ⟨b0,4,none⟩ = some (.slice an new.length cn)∧w'.cell? ⟨b0 + 1,0,none⟩ = some (.slice aq q.length cq)∧w'.cell? ⟨b0 + 1,1,none⟩ = some (.bool gad)∧w'.cell? ⟨b0 + 1,2,none⟩ = some (.bool gas)∧w'.cell? ⟨b0 + 1,3,none⟩ = some (.slice ar olb.length cr)∧w'.cell? ⟨b0 + 1,4,none⟩ = some (.slice am neb.length cm)) (by kernel_rfl) ?_
 have hS0:=HS0.out
 refine tkY 0 5 (.pointer (some ⟨b0,0,none⟩)) rfl rfl hS0 (fun w' hs=>?_) ?_
 · go_simp
 refine tkY 1 6 (.slice ap p.length cp) rfl rfl hS0 (fun w' hs=>?_) ?_
 · obtain ⟨y0,y1,y2,y3,y4,z0,z1,z2,z3,z4⟩:=hs
   go_simp
 refine tkY 3 8 (.pointer (some ⟨b0 + 1,0,none⟩)) rfl rfl hS0 (fun w' hs=>?_) ?_
 · go_simp
 refine tkY 4 9 (.slice aq q.length cq) rfl rfl hS0 (fun w' hs=>?_) ?_
 · obtain ⟨y0,y1,y2,y3,y4,z0,z1,z2,z3,z4⟩:=hs
   go_simp
 refine AnyH_one (i:=2) (by kernel_rfl) rfl (by kernel_rfl) (fun K hK=>?_)
 go_simp
 refine ⟨trivial,(callsIn_wide.2 PA.out).mono ?_⟩
 rintro e w5 ⟨ap1,cp1,rfl,hp5,hb5⟩
 have hz5:wB.heap.size ≤ w5.heap.size:=hb5.size
 have hS1:w5.cell? ⟨b0,0,none⟩ = some (.slice ap p.length cp)∧w5.cell? ⟨b0,1,none⟩ = some (.bool had)∧w5.cell? ⟨b0,2,none⟩ = some (.bool has)∧w5.cell? ⟨b0,3,none⟩ = some (.slice ao old.length co)∧w5.cell? ⟨b0,4,none⟩ = some (.slice an new.length cn)∧w5.cell? ⟨b0 + 1,0,none⟩ = some (.slice aq q.length cq)∧w5.cell? ⟨b0 + 1,1,none⟩ = some (.bool gad)∧w5.cell? ⟨b0 + 1,2,none⟩ = some (.bool gas)∧w5.cell? ⟨b0 + 1,3,none⟩ = some (.slice ar olb.length cr)∧w5.cell? ⟨b0 + 1,4,none⟩ = some (.slice am neb.length cm):=⟨bc_ hb5 h0lt hS0.1,bc_ hb5 h0lt hS0.2.1,bc_ hb5 h0lt hS0.2.2.1,bc_ hb5 h0lt hS0.2.2.2.1,bc_ hb5 h0lt hS0.2.2.2.2.1,bc_ hb5 h1lt hS0.2.2.2.2.2.1,bc_ hb5 h1lt hS0.2.2.2.2.2.2.1,bc_ hb5 h1lt hS0.2.2.2.2.2.2.2.1,bc_ hb5 h1lt hS0.2.2.2.2.2.2.2.2.1,bc_ hb5 h1lt hS0.2.2.2.2.2.2.2.2.2⟩
 have SA:=hid (Same_any p q ap1 aq cp1 cq (fun b=>b < w5.heap.size) w5 (hp5.wide fun b hb=>hb.2) ((HQ.out.agree (Ag_b hb5 HSB.out)).wide fun b hb=>by have:=HSB.out b hb;omega) (by omega) (by omega))
 have HB5:=hid hb5
 replace h0lt:b0 < w5.heap.size:=by omega
 replace h1lt:b0 + 1 < w5.heap.size:=by omega
 refine hK _ _ ⟨hS1,?_⟩
 clear hK hb5 hp5 hS0 PA
 refine AnyH_one (i:=5) (by kernel_rfl) rfl (by kernel_rfl) (fun K hK=>?_)
 go_simp
 refine ⟨trivial,(callsIn_wide.2 SA.out).mono ?_⟩
 rintro e w6 ⟨rfl,hb6⟩
 have hz6:=hb6.size
 have hS2:w6.cell? ⟨b0,0,none⟩ = some (.slice ap p.length cp)∧w6.cell? ⟨b0,1,none⟩ = some (.bool had)∧w6.cell? ⟨b0,2,none⟩ = some (.bool has)∧w6.cell? ⟨b0,3,none⟩ = some (.slice ao old.length co)∧w6.cell? ⟨b0,4,none⟩ = some (.slice an new.length cn)∧w6.cell? ⟨b0 + 1,0,none⟩ = some (.slice aq q.length cq)∧w6.cell? ⟨b0 + 1,1,none⟩ = some (.bool gad)∧w6.cell? ⟨b0 + 1,2,none⟩ = some (.bool gas)∧w6.cell? ⟨b0 + 1,3,none⟩ = some (.slice ar olb.length cr)∧w6.cell? ⟨b0 + 1,4,none⟩ = some (.slice am neb.length cm):=⟨bc_ hb6 h0lt hS1.1,bc_ hb6 h0lt hS1.2.1,bc_ hb6 h0lt hS1.2.2.1,bc_ hb6 h0lt hS1.2.2.2.1,bc_ hb6 h0lt hS1.2.2.2.2.1,bc_ hb6 h1lt hS1.2.2.2.2.2.1,bc_ hb6 h1lt hS1.2.2.2.2.2.2.1,bc_ hb6 h1lt hS1.2.2.2.2.2.2.2.1,bc_ hb6 h1lt hS1.2.2.2.2.2.2.2.2.1,bc_ hb6 h1lt hS1.2.2.2.2.2.2.2.2.2⟩
 have HB6:=hid (HB5.out.trans (hb6.mono hz5))
 replace h0lt:b0 < w6.heap.size:=by omega
 replace h1lt:b0 + 1 < w6.heap.size:=by omega
 refine hK _ _ ⟨hS2,?_⟩
 clear hK hb6 hS1 SA HB5
 obtain ⟨e0,he0⟩:∃ e0,decide (p = q) = e0:=⟨_,rfl⟩
 obtain ⟨e1,he1⟩:∃ e1,(had == gad) = e1:=⟨_,rfl⟩
 obtain ⟨e2,he2⟩:∃ e2,(has == gas) = e2:=⟨_,rfl⟩
 obtain ⟨e3,he3⟩:∃ e3,decide (old = olb) = e3:=⟨_,rfl⟩
 obtain ⟨e4,he4⟩:∃ e4,decide (new = neb) = e4:=⟨_,rfl⟩
 have E0:=hid he0
 have E1:=hid he1
 have E2:=hid he2
 have E3:=hid he3
 have E4:=hid he4
 rw [he0]
 clear he0 he3 he4
 cases e0
 · skip
   refine tkY 6 11 (.bool false) rfl rfl hS2 (fun w' hs=>?_) ?_
   · go_simp
   refine tkN 7 12 rfl rfl hS2 ?_
   refine tkN 8 13 rfl rfl hS2 ?_
   refine tkN 9 14 rfl rfl hS2 ?_
   refine tkN 10 15 rfl rfl hS2 ?_
   refine tkN 11 16 rfl rfl hS2 ?_
   refine tkY 12 17 (.bool false) rfl rfl hS2 (fun w' hs=>?_) ?_
   · go_simp
   refine tkY 13 18 (.bool false) rfl rfl hS2 (fun w' hs=>?_) ?_
   · go_simp
   refine tkN 14 19 rfl rfl hS2 ?_
   refine tkN 15 20 rfl rfl hS2 ?_
   refine tkN 16 21 rfl rfl hS2 ?_
   refine tkN 17 22 rfl rfl hS2 ?_
   refine tkN 18 23 rfl rfl hS2 ?_
   refine tkY 19 24 (.bool false) rfl rfl hS2 (fun w' hs=>?_) ?_
   · go_simp
   refine tkY 20 25 (.bool false) rfl rfl hS2 (fun w' hs=>?_) ?_
   · go_simp
   refine tkN 21 26 rfl rfl hS2 ?_
   refine tkN 22 27 rfl rfl hS2 ?_
   refine tkN 23 28 rfl rfl hS2 ?_
   refine tkN 24 29 rfl rfl hS2 ?_
   refine tkN 25 30 rfl rfl hS2 ?_
   refine tkY 26 31 (.bool false) rfl rfl hS2 (fun w' hs=>?_) ?_
   · go_simp
   refine tkY 27 32 (.bool false) rfl rfl hS2 (fun w' hs=>?_) ?_
   · go_simp
   refine tkN 28 33 rfl rfl hS2 ?_
   refine tkN 29 34 rfl rfl hS2 ?_
   refine tkN 30 35 rfl rfl hS2 ?_
   refine tkN 31 36 rfl rfl hS2 ?_
   refine tkN 32 37 rfl rfl hS2 ?_
   refine tkY 33 38 (.bool false) rfl rfl hS2 (fun w' hs=>?_) ?_
   · go_simp
   refine tkY 34 4 (.bool false) rfl rfl hS2 (fun w' hs=>?_) ?_
   · go_simp
   refine AnyH_done (by kernel_rfl) ?_
   go_simp
   have HBW:=hid HB6.out
   clear hS2
   go_wp2_with fail
   go_ret
   exact ⟨by rw [E0.out,E1.out,E2.out,E3.out,E4.out];simp,HB.out.trans (HBW.out.mono hle)⟩
 · skip
   refine tkY 6 11 (.bool true) rfl rfl hS2 (fun w' hs=>?_) ?_
   · go_simp
   cases e1
   · skip
     refine tkY 7 12 (.pointer (some ⟨b0,1,none⟩)) rfl rfl hS2 (fun w' hs=>?_) ?_
     · go_simp
     refine tkY 8 13 (.bool had) rfl rfl hS2 (fun w' hs=>?_) ?_
     · obtain ⟨y0,y1,y2,y3,y4,z0,z1,z2,z3,z4⟩:=hs
       go_simp
     refine tkY 9 14 (.pointer (some ⟨b0 + 1,1,none⟩)) rfl rfl hS2 (fun w' hs=>?_) ?_
     · go_simp
     refine tkY 10 15 (.bool gad) rfl rfl hS2 (fun w' hs=>?_) ?_
     · obtain ⟨y0,y1,y2,y3,y4,z0,z1,z2,z3,z4⟩:=hs
       go_simp
     refine tkY 11 16 (.bool false) rfl rfl hS2 (fun w' hs=>?_) ?_
     · go_simp
     refine tkY 12 17 (.bool false) rfl rfl hS2 (fun w' hs=>?_) ?_
     · go_simp
     refine tkY 13 18 (.bool false) rfl rfl hS2 (fun w' hs=>?_) ?_
     · go_simp
     refine tkN 14 19 rfl rfl hS2 ?_
     refine tkN 15 20 rfl rfl hS2 ?_
     refine tkN 16 21 rfl rfl hS2 ?_
     refine tkN 17 22 rfl rfl hS2 ?_
     refine tkN 18 23 rfl rfl hS2 ?_
     refine tkY 19 24 (.bool false) rfl rfl hS2 (fun w' hs=>?_) ?_
     · go_simp
     refine tkY 20 25 (.bool false) rfl rfl hS2 (fun w' hs=>?_) ?_
     · go_simp
     refine tkN 21 26 rfl rfl hS2 ?_
     refine tkN 22 27 rfl rfl hS2 ?_
     refine tkN 23 28 rfl rfl hS2 ?_
     refine tkN 24 29 rfl rfl hS2 ?_
     refine tkN 25 30 rfl rfl hS2 ?_
     refine tkY 26 31 (.bool false) rfl rfl hS2 (fun w' hs=>?_) ?_
     · go_simp
     refine tkY 27 32 (.bool false) rfl rfl hS2 (fun w' hs=>?_) ?_
     · go_simp
     refine tkN 28 33 rfl rfl hS2 ?_
     refine tkN 29 34 rfl rfl hS2 ?_
     refine tkN 30 35 rfl rfl hS2 ?_
     refine tkN 31 36 rfl rfl hS2 ?_
     refine tkN 32 37 rfl rfl hS2 ?_
     refine tkY 33 38 (.bool false) rfl rfl hS2 (fun w' hs=>?_) ?_
     · go_simp
     refine tkY 34 4 (.bool false) rfl rfl hS2 (fun w' hs=>?_) ?_
     · go_simp
     refine AnyH_done (by kernel_rfl) ?_
     go_simp
     have HBW:=hid HB6.out
     clear hS2
     go_wp2_with fail
     go_ret
     exact ⟨by rw [E0.out,E1.out,E2.out,E3.out,E4.out];simp,HB.out.trans (HBW.out.mono hle)⟩
   · skip
     refine tkY 7 12 (.pointer (some ⟨b0,1,none⟩)) rfl rfl hS2 (fun w' hs=>?_) ?_
     · go_simp
     refine tkY 8 13 (.bool had) rfl rfl hS2 (fun w' hs=>?_) ?_
     · obtain ⟨y0,y1,y2,y3,y4,z0,z1,z2,z3,z4⟩:=hs
       go_simp
     refine tkY 9 14 (.pointer (some ⟨b0 + 1,1,none⟩)) rfl rfl hS2 (fun w' hs=>?_) ?_
     · go_simp
     refine tkY 10 15 (.bool gad) rfl rfl hS2 (fun w' hs=>?_) ?_
     · obtain ⟨y0,y1,y2,y3,y4,z0,z1,z2,z3,z4⟩:=hs
       go_simp
     refine tkY 11 16 (.bool true) rfl rfl hS2 (fun w' hs=>?_) ?_
     · go_simp
     refine tkY 12 17 (.bool true) rfl rfl hS2 (fun w' hs=>?_) ?_
     · go_simp
     refine tkY 13 18 (.bool true) rfl rfl hS2 (fun w' hs=>?_) ?_
     · go_simp
     cases e2
     · skip
       refine tkY 14 19 (.pointer (some ⟨b0,2,none⟩)) rfl rfl hS2 (fun w' hs=>?_) ?_
       · go_simp
       refine tkY 15 20 (.bool has) rfl rfl hS2 (fun w' hs=>?_) ?_
       · obtain ⟨y0,y1,y2,y3,y4,z0,z1,z2,z3,z4⟩:=hs
         go_simp
       refine tkY 16 21 (.pointer (some ⟨b0 + 1,2,none⟩)) rfl rfl hS2 (fun w' hs=>?_) ?_
       · go_simp
       refine tkY 17 22 (.bool gas) rfl rfl hS2 (fun w' hs=>?_) ?_
       · obtain ⟨y0,y1,y2,y3,y4,z0,z1,z2,z3,z4⟩:=hs
         go_simp
       refine tkY 18 23 (.bool false) rfl rfl hS2 (fun w' hs=>?_) ?_
       · go_simp
       refine tkY 19 24 (.bool false) rfl rfl hS2 (fun w' hs=>?_) ?_
       · go_simp
       refine tkY 20 25 (.bool false) rfl rfl hS2 (fun w' hs=>?_) ?_
       · go_simp
       refine tkN 21 26 rfl rfl hS2 ?_
       refine tkN 22 27 rfl rfl hS2 ?_
       refine tkN 23 28 rfl rfl hS2 ?_
       refine tkN 24 29 rfl rfl hS2 ?_
       refine tkN 25 30 rfl rfl hS2 ?_
       refine tkY 26 31 (.bool false) rfl rfl hS2 (fun w' hs=>?_) ?_
       · go_simp
       refine tkY 27 32 (.bool false) rfl rfl hS2 (fun w' hs=>?_) ?_
       · go_simp
       refine tkN 28 33 rfl rfl hS2 ?_
       refine tkN 29 34 rfl rfl hS2 ?_
       refine tkN 30 35 rfl rfl hS2 ?_
       refine tkN 31 36 rfl rfl hS2 ?_
       refine tkN 32 37 rfl rfl hS2 ?_
       refine tkY 33 38 (.bool false) rfl rfl hS2 (fun w' hs=>?_) ?_
       · go_simp
       refine tkY 34 4 (.bool false) rfl rfl hS2 (fun w' hs=>?_) ?_
       · go_simp
       refine AnyH_done (by kernel_rfl) ?_
       go_simp
       have HBW:=hid HB6.out
       clear hS2
       go_wp2_with fail
       go_ret
       exact ⟨by rw [E0.out,E1.out,E2.out,E3.out,E4.out];simp,HB.out.trans (HBW.out.mono hle)⟩
     · skip
       refine tkY 14 19 (.pointer (some ⟨b0,2,none⟩)) rfl rfl hS2 (fun w' hs=>?_) ?_
       · go_simp
       refine tkY 15 20 (.bool has) rfl rfl hS2 (fun w' hs=>?_) ?_
       · obtain ⟨y0,y1,y2,y3,y4,z0,z1,z2,z3,z4⟩:=hs
         go_simp
       refine tkY 16 21 (.pointer (some ⟨b0 + 1,2,none⟩)) rfl rfl hS2 (fun w' hs=>?_) ?_
       · go_simp
       refine tkY 17 22 (.bool gas) rfl rfl hS2 (fun w' hs=>?_) ?_
       · obtain ⟨y0,y1,y2,y3,y4,z0,z1,z2,z3,z4⟩:=hs
         go_simp
       refine tkY 18 23 (.bool true) rfl rfl hS2 (fun w' hs=>?_) ?_
       · go_simp
       refine tkY 19 24 (.bool true) rfl rfl hS2 (fun w' hs=>?_) ?_
       · go_simp
       refine tkY 20 25 (.bool true) rfl rfl hS2 (fun w' hs=>?_) ?_
       · go_simp
       refine tkY 21 26 (.pointer (some ⟨b0,3,none⟩)) rfl rfl hS2 (fun w' hs=>?_) ?_
       · go_simp
       refine tkY 22 27 (.slice ao old.length co) rfl rfl hS2 (fun w' hs=>?_) ?_
       · obtain ⟨y0,y1,y2,y3,y4,z0,z1,z2,z3,z4⟩:=hs
         go_simp
       refine tkY 23 28 (.pointer (some ⟨b0 + 1,3,none⟩)) rfl rfl hS2 (fun w' hs=>?_) ?_
       · go_simp
       refine tkY 24 29 (.slice ar olb.length cr) rfl rfl hS2 (fun w' hs=>?_) ?_
       · obtain ⟨y0,y1,y2,y3,y4,z0,z1,z2,z3,z4⟩:=hs
         go_simp
       have EO:=hid (eqInts_any old olb ao ar co cr (fun b=>b < w6.heap.size) w6 ((HO.out.agree (Ag_b HB6.out HSB.out)).wide fun b hb=>by have:=HSB.out b hb;omega) ((HR.out.agree (Ag_b HB6.out HSB.out)).wide fun b hb=>by have:=HSB.out b hb;omega) (by omega) (by omega))
       refine AnyH_one (i:=25) (by kernel_rfl) rfl (by kernel_rfl) (fun K hK=>?_)
       go_simp
       refine ⟨trivial,(callsIn_wide.2 EO.out).mono ?_⟩
       rintro e w7 ⟨rfl,hb7⟩
       rw [E3.out]
       have hz7:=hb7.size
       have hS3:w7.cell? ⟨b0,0,none⟩ = some (.slice ap p.length cp)∧w7.cell? ⟨b0,1,none⟩ = some (.bool had)∧w7.cell? ⟨b0,2,none⟩ = some (.bool has)∧w7.cell? ⟨b0,3,none⟩ = some (.slice ao old.length co)∧w7.cell? ⟨b0,4,none⟩ = some (.slice an new.length cn)∧w7.cell? ⟨b0 + 1,0,none⟩ = some (.slice aq q.length cq)∧w7.cell? ⟨b0 + 1,1,none⟩ = some (.bool gad)∧w7.cell? ⟨b0 + 1,2,none⟩ = some (.bool gas)∧w7.cell? ⟨b0 + 1,3,none⟩ = some (.slice ar olb.length cr)∧w7.cell? ⟨b0 + 1,4,none⟩ = some (.slice am neb.length cm):=⟨bc_ hb7 h0lt hS2.1,bc_ hb7 h0lt hS2.2.1,bc_ hb7 h0lt hS2.2.2.1,bc_ hb7 h0lt hS2.2.2.2.1,bc_ hb7 h0lt hS2.2.2.2.2.1,bc_ hb7 h1lt hS2.2.2.2.2.2.1,bc_ hb7 h1lt hS2.2.2.2.2.2.2.1,bc_ hb7 h1lt hS2.2.2.2.2.2.2.2.1,bc_ hb7 h1lt hS2.2.2.2.2.2.2.2.2.1,bc_ hb7 h1lt hS2.2.2.2.2.2.2.2.2.2⟩
       have HB7:=hid (HB6.out.trans (hb7.mono (by have:=HB6.out.size;exact this)))
       replace h0lt:b0 < w7.heap.size:=by omega
       replace h1lt:b0 + 1 < w7.heap.size:=by omega
       refine hK _ _ ⟨hS3,?_⟩
       clear hK hb7 hS2 EO
       cases e3
       · skip
         refine tkY 26 31 (.bool false) rfl rfl hS3 (fun w' hs=>?_) ?_
         · go_simp
         refine tkY 27 32 (.bool false) rfl rfl hS3 (fun w' hs=>?_) ?_
         · go_simp
         refine tkN 28 33 rfl rfl hS3 ?_
         refine tkN 29 34 rfl rfl hS3 ?_
         refine tkN 30 35 rfl rfl hS3 ?_
         refine tkN 31 36 rfl rfl hS3 ?_
         refine tkN 32 37 rfl rfl hS3 ?_
         refine tkY 33 38 (.bool false) rfl rfl hS3 (fun w' hs=>?_) ?_
         · go_simp
         refine tkY 34 4 (.bool false) rfl rfl hS3 (fun w' hs=>?_) ?_
         · go_simp
         refine AnyH_done (by kernel_rfl) ?_
         go_simp
         have HBW:=hid HB7.out
         clear hS3
         go_wp2_with fail
         go_ret
         exact ⟨by rw [E0.out,E1.out,E2.out,E3.out,E4.out];simp,HB.out.trans (HBW.out.mono hle)⟩
       · skip
         refine tkY 26 31 (.bool true) rfl rfl hS3 (fun w' hs=>?_) ?_
         · go_simp
         refine tkY 27 32 (.bool true) rfl rfl hS3 (fun w' hs=>?_) ?_
         · go_simp
         refine tkY 28 33 (.pointer (some ⟨b0,4,none⟩)) rfl rfl hS3 (fun w' hs=>?_) ?_
         · go_simp
         refine tkY 29 34 (.slice an new.length cn) rfl rfl hS3 (fun w' hs=>?_) ?_
         · obtain ⟨y0,y1,y2,y3,y4,z0,z1,z2,z3,z4⟩:=hs
           go_simp
         refine tkY 30 35 (.pointer (some ⟨b0 + 1,4,none⟩)) rfl rfl hS3 (fun w' hs=>?_) ?_
         · go_simp
         refine tkY 31 36 (.slice am neb.length cm) rfl rfl hS3 (fun w' hs=>?_) ?_
         · obtain ⟨y0,y1,y2,y3,y4,z0,z1,z2,z3,z4⟩:=hs
           go_simp
         have EN:=hid (eqInts_any new neb an am cn cm (fun b=>b < w7.heap.size) w7 ((HN.out.agree (Ag_b HB7.out HSB.out)).wide fun b hb=>by have:=HSB.out b hb;omega) ((HM.out.agree (Ag_b HB7.out HSB.out)).wide fun b hb=>by have:=HSB.out b hb;omega) (by omega) (by omega))
         refine AnyH_one (i:=32) (by kernel_rfl) rfl (by kernel_rfl) (fun K hK=>?_)
         go_simp
         refine ⟨trivial,(callsIn_wide.2 EN.out).mono ?_⟩
         rintro e w8 ⟨rfl,hb8⟩
         rw [E4.out]
         have hz8:=hb8.size
         have hS4:w8.cell? ⟨b0,0,none⟩ = some (.slice ap p.length cp)∧w8.cell? ⟨b0,1,none⟩ = some (.bool had)∧w8.cell? ⟨b0,2,none⟩ = some (.bool has)∧w8.cell? ⟨b0,3,none⟩ = some (.slice ao old.length co)∧w8.cell? ⟨b0,4,none⟩ = some (.slice an new.length cn)∧w8.cell? ⟨b0 + 1,0,none⟩ = some (.slice aq q.length cq)∧w8.cell? ⟨b0 + 1,1,none⟩ = some (.bool gad)∧w8.cell? ⟨b0 + 1,2,none⟩ = some (.bool gas)∧w8.cell? ⟨b0 + 1,3,none⟩ = some (.slice ar olb.length cr)∧w8.cell? ⟨b0 + 1,4,none⟩ = some (.slice am neb.length cm):=⟨bc_ hb8 h0lt hS3.1,bc_ hb8 h0lt hS3.2.1,bc_ hb8 h0lt hS3.2.2.1,bc_ hb8 h0lt hS3.2.2.2.1,bc_ hb8 h0lt hS3.2.2.2.2.1,bc_ hb8 h1lt hS3.2.2.2.2.2.1,bc_ hb8 h1lt hS3.2.2.2.2.2.2.1,bc_ hb8 h1lt hS3.2.2.2.2.2.2.2.1,bc_ hb8 h1lt hS3.2.2.2.2.2.2.2.2.1,bc_ hb8 h1lt hS3.2.2.2.2.2.2.2.2.2⟩
         have HB8:=hid (HB7.out.trans (hb8.mono (by have:=HB7.out.size;exact this)))
         refine hK _ _ ⟨hS4,?_⟩
         clear hK hb8 hS3 EN
         refine tkY 33 38 (.bool e4) rfl rfl hS4 (fun w' hs=>?_) ?_
         · go_simp
         refine tkY 34 4 (.bool e4) rfl rfl hS4 (fun w' hs=>?_) ?_
         · go_simp
         refine AnyH_done (by kernel_rfl) ?_
         go_simp
         have HBW:=hid HB8.out
         clear hS4
         go_wp2_with fail
         go_ret
         exact ⟨by rw [E0.out,E1.out,E2.out,E3.out,E4.out];simp,HB.out.trans (HBW.out.mono hle)⟩
end Go.Proofs.LF
