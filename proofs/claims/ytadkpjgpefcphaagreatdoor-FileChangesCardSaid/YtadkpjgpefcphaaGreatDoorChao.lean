/- Parts of the proof of a law of layer 11 (file): LfW91. The conditions stand in each theorem. -/
import Derived.Test.YtadkpjgpefcphaaGreatDoorProg
import Derived.Test.YtadkpjgpefcphaaGreatDoorChab
import Derived.Test.YtadkpjgpefcphaaGreatDoorChae
import Derived.Test.YtadkpjgpefcphaaGreatDoorChan
set_option linter.all false
set_option linter.unusedVariables false
set_option linter.unusedSimpArgs false
namespace Go.Proofs.LF
open Go.RowKit Go.Sort
set_option maxHeartbeats 4000000
set_option maxRecDepth 100000
attribute [local go_sem] bs_toList bs_size bs_get
def begK (k:Ky) (l:List Int):Bool:=match l with | []=>!k.h | x :: _=>k.h && decide (x = k.x)
theorem begins_any (k:Ky) (l:List Int) (al:Option Addr) (cl:Nat) (S:Nat→Prop) (w:World) (hl:Ints S w (.slice al l.length cl) l) (hS:∀ b,S b→b < w.heap.size) :
 Calls Tryz.prog 210 #[.agg #[.string (bs k.n), .bool k.h, .int .i64 k.x], .slice al l.length cl] w fun e w'=>e = .returned (.bool (begK k l))∧Below w.heap.size w w':=by
 obtain ⟨n,h,x⟩:=k
 have hA:=(Below.refl w.heap.size w).alloc (nl_ _) (.cells #[.string (bs n), .bool h, .int .i64 x] 71)
 have hblk:=heap_alloc_new w (.cells #[.string (bs n), .bool h, .int .i64 x] 71)
 obtain ⟨W,hW⟩:∃ W,w.alloc (.cells #[.string (bs n), .bool h, .int .i64 x] 71) = W:=⟨_,rfl⟩
 rw [hW] at hA hblk
 have HA:=hid hA
 have HB:=hid hblk
 have HWW:=hid hW
 clear hA hblk hW
 cases l with
 | nil=>
   have c1:=cg_ HB.out (k:=1) (v := .bool h) rfl
   go_enter Tryz.func210,Tryz.ntmps210
   go_upto_region 1 with fail
   rw [HWW.out]
   go_wp2_with fail
   go_ret
   exact ⟨rfl,HA.out⟩
 | cons z l=>
   obtain ⟨g,o,rfl,hg,_,_,hcl⟩:=SlC.cells hl (by simp)
   have z0:W.cell? ⟨g,o,none⟩ = some (.int .i64 z):=bc_ HA.out (hS g hg) (by have:=hcl 0 _ rfl;simpa using this)
   have hS0:W.drew.cell? ⟨w.heap.size,1,none⟩ = some (.bool h)∧W.drew.cell? ⟨w.heap.size,2,none⟩ = some (.int .i64 x)∧W.drew.cell? ⟨g,o,none⟩ = some (.int .i64 z):=⟨cg_ HB.out (k:=1) rfl,cg_ HB.out (k:=2) rfl,z0⟩
   have HS0:=hid hS0
   have hne:¬ (((z :: l).length:Nat):Int) = 0:=by simp only [List.length_cons];omega
   have hpos:(0:Int) < (((z :: l).length:Nat):Int):=by simp only [List.length_cons];omega
   have hne2:¬ (z :: l).length = 0:=by simp
   obtain ⟨L,hL⟩:∃ L,(z :: l).length = L:=⟨_,rfl⟩
   rw [hL] at hne hpos hne2 ⊢
   clear hcl hl z0 hL hS0
   go_enter Tryz.func210,Tryz.ntmps210
   go_upto_region 3 with fail
   rw [HWW.out]
   refine (wpIn_wide (n:=9)).1 ?_
   refine region_held (fun w':World=>w'.cell? ⟨w.heap.size,1,none⟩ = some (.bool h)∧w'.cell? ⟨w.heap.size,2,none⟩ = some (.int .i64 x)∧w'.cell? ⟨g,o,none⟩ = some (.int .i64 z)) (by kernel_rfl) ?_
   have hS1:=HS0.out
   cases h
   · refine tkY 0 11 (.pointer (some ⟨w.heap.size,1,none⟩)) rfl rfl hS1 (fun w' hs=>?_) ?_
     · go_simp
     refine tkY 1 12 (.bool false) rfl rfl hS1 (fun w' hs=>?_) ?_
     · obtain ⟨q0,q1,q2⟩:=hs
       go_simp
     refine tkY 2 13 (.bool false) rfl rfl hS1 (fun w' hs=>?_) ?_
     · go_simp
     refine tkN 3 14 rfl rfl hS1 ?_
     refine tkN 4 15 rfl rfl hS1 ?_
     refine tkN 5 16 rfl rfl hS1 ?_
     refine tkN 6 17 rfl rfl hS1 ?_
     refine tkN 7 18 rfl rfl hS1 ?_
     refine tkN 8 19 rfl rfl hS1 ?_
     refine tkY 9 20 (.bool false) rfl rfl hS1 (fun w' hs=>?_) ?_
     · go_simp
     refine tkY 10 4 (.bool false) rfl rfl hS1 (fun w' hs=>?_) ?_
     · go_simp
     refine AnyH_done (by kernel_rfl) ?_
     go_simp
     clear hS1
     go_wp2_with fail
     go_ret
     exact ⟨rfl,HA.out.drew⟩
   · refine tkY 0 11 (.pointer (some ⟨w.heap.size,1,none⟩)) rfl rfl hS1 (fun w' hs=>?_) ?_
     · go_simp
     refine tkY 1 12 (.bool true) rfl rfl hS1 (fun w' hs=>?_) ?_
     · obtain ⟨q0,q1,q2⟩:=hs
       go_simp
     refine tkY 2 13 (.bool true) rfl rfl hS1 (fun w' hs=>?_) ?_
     · go_simp
     refine tkY 3 14 (.slice (some ⟨g,o,none⟩) L cl) rfl rfl hS1 (fun w' hs=>?_) ?_
     · go_simp
     refine tkY 4 15 (.pointer (some ⟨g,o,none⟩)) rfl rfl hS1 (fun w' hs=>?_) ?_
     · go_simp
     refine tkY 5 16 (.int .i64 z) rfl rfl hS1 (fun w' hs=>?_) ?_
     · obtain ⟨q0,q1,q2⟩:=hs
       go_simp
     refine tkY 6 17 (.pointer (some ⟨w.heap.size,2,none⟩)) rfl rfl hS1 (fun w' hs=>?_) ?_
     · go_simp
     refine tkY 7 18 (.int .i64 x) rfl rfl hS1 (fun w' hs=>?_) ?_
     · obtain ⟨q0,q1,q2⟩:=hs
       go_simp
     refine tkY 8 19 (.bool (z == x)) rfl rfl hS1 (fun w' hs=>?_) ?_
     · go_simp
     refine tkY 9 20 (.bool (z == x)) rfl rfl hS1 (fun w' hs=>?_) ?_
     · go_simp
     refine tkY 10 4 (.bool (z == x)) rfl rfl hS1 (fun w' hs=>?_) ?_
     · go_simp
     refine AnyH_done (by kernel_rfl) ?_
     go_simp
     clear hS1
     go_wp2_with fail
     go_ret
     refine ⟨ret_bool ?_,HA.out.drew⟩
     simp [begK]
     rw [Bool.eq_iff_iff];simp
theorem blk_on9 {w w':World} {b:Nat} {o:Obj} (h:w.heap[b]? = some o) (hb:Below w.heap.size w w'):w'.heap[b]? = some o:=(hb.block b (Array.getElem?_eq_some_iff.1 h).1).trans h
def rtC (x:Ch) (last:Ky):Bool:=
 if (!x.had && !x.has) || (!x.had && decide (0 < x.old.length)) || (!x.has && decide (0 < x.new.length)) then false
 else if (x.had && !begK last x.old) || (x.has && !begK last x.new) then false
 else if !(x.p.all fun k=>k.h || decide (k.x = 0)) then false
 else !x.had || !x.has || !decide (x.old = x.new)
theorem right_any (x:Ch) (m:Nat) (ap ao an:Option Addr) (cp co cn:Nat) (S:Nat→Prop) (w:World) (hp:Pth S w (.slice ap x.p.length cp) x.p) (ho:Ints S w (.slice ao x.old.length co) x.old) (hn:Ints S w (.slice an x.new.length cn) x.new) (hS:∀ b,S b→b < w.heap.size) (hm:x.p.length = m + 1) (h1:x.p.length ≤ 1000) (h2:x.old.length ≤ 1000) (h3:x.new.length ≤ 1000) (last:Ky) (hl:x.p[m]'(by omega) = last) :
 Calls Tryz.prog 158 #[.agg #[.slice ap x.p.length cp, .bool x.had, .bool x.has, .slice ao x.old.length co, .slice an x.new.length cn]] w fun e w'=>e = .returned (.bool (rtC x last))∧Below w.heap.size w w':=by
 obtain ⟨p,had,has,old,new⟩:=x
 simp only at hp ho hn hm h1 h2 h3 hl ⊢
 obtain ⟨g,o,rfl,hg,_,_,hpc⟩:=SlC.cells hp (by omega)
 obtain ⟨k0,k1,k2⟩:=key_cells (p:=p) (k:=m) (by omega)
 rw [hl] at k0 k1 k2
 have hA:=(Below.refl w.heap.size w).alloc (nl_ _) (.cells #[.slice (some ⟨g,o,none⟩) p.length cp, .bool had, .bool has, .slice ao old.length co, .slice an new.length cn] 68)
 have hbA:=heap_alloc_new w (.cells #[.slice (some ⟨g,o,none⟩) p.length cp, .bool had, .bool has, .slice ao old.length co, .slice an new.length cn] 68)
 obtain ⟨wA,hwA⟩:∃ wA,w.alloc (.cells #[.slice (some ⟨g,o,none⟩) p.length cp, .bool had, .bool has, .slice ao old.length co, .slice an new.length cn] 68) = wA:=⟨_,rfl⟩
 have hzA:wA.heap.size = w.heap.size + 1:=by rw [← hwA];simp
 rw [hwA] at hA hbA
 have hB:=(Below.refl wA.heap.size wA).alloc (nl_ _) (.cells #[.string (bs last.n), .bool last.h, .int .i64 last.x] 71)
 have hbB:=heap_alloc_new wA (.cells #[.string (bs last.n), .bool last.h, .int .i64 last.x] 71)
 obtain ⟨wB,hwB⟩:∃ wB,wA.alloc (.cells #[.string (bs last.n), .bool last.h, .int .i64 last.x] 71) = wB:=⟨_,rfl⟩
 rw [hwB] at hB hbB
 have hAB:=hA.trans (hB.mono (by omega))
 have hbA2:wB.heap[w.heap.size]? = _:=(hB.block w.heap.size (by omega)).trans hbA
 have hg':=hS g hg
 have ha:=Ag_b (S:=S) hAB hS
 have PB:=hid (hp.agree ha)
 have OB:=hid (ho.agree ha)
 have NBB:=hid (hn.agree ha)
 have HSB:=hid (fun b (hb:S b)=>show b < wB.heap.size from by have:=hS b hb;have:=hAB.size;omega)
 have e0:wA.cell? ⟨g,o + m * 3,none⟩ = some (.string (bs last.n)):=bc_ hA hg' (hpc _ _ k0)
 have e1:wA.cell? ⟨g,o + m * 3 + 1,none⟩ = some (.bool last.h):=bc_ hA hg' (by have:=hpc _ _ k1;rwa [← Nat.add_assoc] at this)
 have e2:wA.cell? ⟨g,o + m * 3 + 2,none⟩ = some (.int .i64 last.x):=bc_ hA hg' (by have:=hpc _ _ k2;rwa [← Nat.add_assoc] at this)
 have a0:=cg_ hbA (k:=0) (v := .slice (some ⟨g,o,none⟩) p.length cp) rfl
 have HAB:=hid hAB
 have HBA:=hid hbA2
 have HBB:=hid hbB
 have HWA:=hid hwA
 have HWB:=hid hwB
 have hsub:((p.length:Int) - 1) = (m:Int):=by omega
 have hmx:(m:Int) < (p.length:Int):=by omega
 have hxl:p.length ≤ 9223372036854775807:=by omega
 have HMM:=hid hm
 clear hA hbA hwA hzA hB hbB hwB hAB hbA2 ha hpc k0 k1 k2 hp ho hn hS hg hg' hl hm
 go_enter Tryz.func158,Tryz.ntmps158
 go_upto_region 1 with fail
 rw [HWA.out]
 go_upto_region 2 with fail
 rw [HWB.out]
 have hap:(p.all fun k=>k.h || decide (k.x = 0)) = (p.all fun k=>k.h || decide (k.x = 0)):=rfl
 obtain ⟨q9,hq9⟩:∃ q9,(p.all fun k=>k.h || decide (k.x = 0)) = q9:=⟨_,rfl⟩
 have PLN:=hid (fun W (h:Below wB.heap.size wB W)=>plainK_any p (some ⟨g,o,none⟩) cp S W (PB.out.agree (Ag_b h HSB.out)) (fun b hb=>by have:=HSB.out b hb;have:=h.size;omega) h1)
 rw [hq9] at PLN
 obtain ⟨b1,hb1⟩:∃ b1,begK last old = b1:=⟨_,rfl⟩
 obtain ⟨b2,hb2⟩:∃ b2,begK last new = b2:=⟨_,rfl⟩
 have BG1:=hid (fun W (h:Below wB.heap.size wB W)=>begins_any last old ao co S W (OB.out.agree (Ag_b h HSB.out)) (fun b hb=>by have:=HSB.out b hb;have:=h.size;omega))
 have BG2:=hid (fun W (h:Below wB.heap.size wB W)=>begins_any last new an cn S W (NBB.out.agree (Ag_b h HSB.out)) (fun b hb=>by have:=HSB.out b hb;have:=h.size;omega))
 rw [hb1] at BG1
 rw [hb2] at BG2
 obtain ⟨q8,hq8⟩:∃ q8,decide (old = new) = q8:=⟨_,rfl⟩
 have EQI:=hid (fun W (h:Below wB.heap.size wB W)=>eqInts_any old new ao an co cn S W (OB.out.agree (Ag_b h HSB.out)) (NBB.out.agree (Ag_b h HSB.out)) (by omega) (by omega))
 rw [hq8] at EQI
 have hrt:rtC ⟨p,had,has,old,new⟩ last = if (!had && !has) || (!had && decide (0 < old.length)) || (!has && decide (0 < new.length)) then false else if (had && !b1) || (has && !b2) then false else if !q9 then false else !had || !has || !q8:=by
  simp only [rtC,hb1,hb2,hq9,hq8]
 have HRT:=hid hrt
 have BZ:=hid (Below.refl wB.heap.size wB)
 clear hap hq9 hb1 hb2 hq8 hrt PB OB NBB HSB a0 e0 e1 e2
 cases had <;> cases has
 · have f1:=blk_on9 HBA.out BZ.out
   have f2:=blk_on9 HBB.out BZ.out
   have d0:=cg_ f1 (k:=0) rfl
   have d1:=cg_ f1 (k:=1) rfl
   have d2:=cg_ f1 (k:=2) rfl
   have d3:=cg_ f1 (k:=3) rfl
   have d4:=cg_ f1 (k:=4) rfl
   have l0:=cg_ f2 (k:=0) rfl
   have l1:=cg_ f2 (k:=1) rfl
   have l2:=cg_ f2 (k:=2) rfl
   clear f1 f2
   go_wp2_with fail
   go_ret
   exact ⟨ret_bool (by rw [HRT.out];simp_all),HAB.out.trans (BZ.out.mono HAB.out.size)⟩
 · by_cases ho:0 < old.length
   · have ho2:(0:Int) < (old.length:Int):=by omega
     have f1:=blk_on9 HBA.out BZ.out
     have f2:=blk_on9 HBB.out BZ.out
     have d0:=cg_ f1 (k:=0) rfl
     have d1:=cg_ f1 (k:=1) rfl
     have d2:=cg_ f1 (k:=2) rfl
     have d3:=cg_ f1 (k:=3) rfl
     have d4:=cg_ f1 (k:=4) rfl
     have l0:=cg_ f2 (k:=0) rfl
     have l1:=cg_ f2 (k:=1) rfl
     have l2:=cg_ f2 (k:=2) rfl
     clear f1 f2
     go_wp2_with fail
     go_ret
     exact ⟨ret_bool (by rw [HRT.out];simp_all),HAB.out.trans (BZ.out.mono HAB.out.size)⟩
   · have ho2:¬ (0:Int) < (old.length:Int):=by omega
     have ho3:old.length = 0:=by omega
     have f1:=blk_on9 HBA.out BZ.out
     have f2:=blk_on9 HBB.out BZ.out
     have d0:=cg_ f1 (k:=0) rfl
     have d1:=cg_ f1 (k:=1) rfl
     have d2:=cg_ f1 (k:=2) rfl
     have d3:=cg_ f1 (k:=3) rfl
     have d4:=cg_ f1 (k:=4) rfl
     have l0:=cg_ f2 (k:=0) rfl
     have l1:=cg_ f2 (k:=1) rfl
     have l2:=cg_ f2 (k:=2) rfl
     clear f1 f2
     go_wp2_with fail
     refine (BG2.out wB BZ.out).mono ?_
     rintro e wBc ⟨rfl,hb⟩
     clear d0 d1 d2 d3 d4 l0 l1 l2
     replace BZ:=hid (BZ.out.trans (hb.mono BZ.out.size))
     clear hb
     cases b2
     · have f1:=blk_on9 HBA.out BZ.out
       have f2:=blk_on9 HBB.out BZ.out
       have d0:=cg_ f1 (k:=0) rfl
       have d1:=cg_ f1 (k:=1) rfl
       have d2:=cg_ f1 (k:=2) rfl
       have d3:=cg_ f1 (k:=3) rfl
       have d4:=cg_ f1 (k:=4) rfl
       have l0:=cg_ f2 (k:=0) rfl
       have l1:=cg_ f2 (k:=1) rfl
       have l2:=cg_ f2 (k:=2) rfl
       clear f1 f2
       go_wp2_with fail
       go_ret
       exact ⟨ret_bool (by rw [HRT.out];simp_all),HAB.out.trans (BZ.out.mono HAB.out.size)⟩
     · have f1:=blk_on9 HBA.out BZ.out
       have f2:=blk_on9 HBB.out BZ.out
       have d0:=cg_ f1 (k:=0) rfl
       have d1:=cg_ f1 (k:=1) rfl
       have d2:=cg_ f1 (k:=2) rfl
       have d3:=cg_ f1 (k:=3) rfl
       have d4:=cg_ f1 (k:=4) rfl
       have l0:=cg_ f2 (k:=0) rfl
       have l1:=cg_ f2 (k:=1) rfl
       have l2:=cg_ f2 (k:=2) rfl
       clear f1 f2
       go_wp2_with fail
       refine (PLN.out wBc BZ.out).mono ?_
       rintro e wBcp ⟨rfl,hb⟩
       clear d0 d1 d2 d3 d4 l0 l1 l2
       replace BZ:=hid (BZ.out.trans (hb.mono BZ.out.size))
       clear hb
       cases q9
       · have f1:=blk_on9 HBA.out BZ.out
         have f2:=blk_on9 HBB.out BZ.out
         have d0:=cg_ f1 (k:=0) rfl
         have d1:=cg_ f1 (k:=1) rfl
         have d2:=cg_ f1 (k:=2) rfl
         have d3:=cg_ f1 (k:=3) rfl
         have d4:=cg_ f1 (k:=4) rfl
         have l0:=cg_ f2 (k:=0) rfl
         have l1:=cg_ f2 (k:=1) rfl
         have l2:=cg_ f2 (k:=2) rfl
         clear f1 f2
         go_wp2_with fail
         go_ret
         exact ⟨ret_bool (by rw [HRT.out];simp_all),HAB.out.trans (BZ.out.mono HAB.out.size)⟩
       · have f1:=blk_on9 HBA.out BZ.out
         have f2:=blk_on9 HBB.out BZ.out
         have d0:=cg_ f1 (k:=0) rfl
         have d1:=cg_ f1 (k:=1) rfl
         have d2:=cg_ f1 (k:=2) rfl
         have d3:=cg_ f1 (k:=3) rfl
         have d4:=cg_ f1 (k:=4) rfl
         have l0:=cg_ f2 (k:=0) rfl
         have l1:=cg_ f2 (k:=1) rfl
         have l2:=cg_ f2 (k:=2) rfl
         clear f1 f2
         go_wp2_with fail
         go_ret
         exact ⟨ret_bool (by rw [HRT.out];simp_all),HAB.out.trans (BZ.out.mono HAB.out.size)⟩
 · by_cases ho:0 < new.length
   · have ho2:(0:Int) < (new.length:Int):=by omega
     have f1:=blk_on9 HBA.out BZ.out
     have f2:=blk_on9 HBB.out BZ.out
     have d0:=cg_ f1 (k:=0) rfl
     have d1:=cg_ f1 (k:=1) rfl
     have d2:=cg_ f1 (k:=2) rfl
     have d3:=cg_ f1 (k:=3) rfl
     have d4:=cg_ f1 (k:=4) rfl
     have l0:=cg_ f2 (k:=0) rfl
     have l1:=cg_ f2 (k:=1) rfl
     have l2:=cg_ f2 (k:=2) rfl
     clear f1 f2
     go_wp2_with fail
     go_ret
     exact ⟨ret_bool (by rw [HRT.out];simp_all),HAB.out.trans (BZ.out.mono HAB.out.size)⟩
   · have ho2:¬ (0:Int) < (new.length:Int):=by omega
     have ho3:new.length = 0:=by omega
     have f1:=blk_on9 HBA.out BZ.out
     have f2:=blk_on9 HBB.out BZ.out
     have d0:=cg_ f1 (k:=0) rfl
     have d1:=cg_ f1 (k:=1) rfl
     have d2:=cg_ f1 (k:=2) rfl
     have d3:=cg_ f1 (k:=3) rfl
     have d4:=cg_ f1 (k:=4) rfl
     have l0:=cg_ f2 (k:=0) rfl
     have l1:=cg_ f2 (k:=1) rfl
     have l2:=cg_ f2 (k:=2) rfl
     clear f1 f2
     go_wp2_with fail
     refine (BG1.out wB BZ.out).mono ?_
     rintro e wBb ⟨rfl,hb⟩
     clear d0 d1 d2 d3 d4 l0 l1 l2
     replace BZ:=hid (BZ.out.trans (hb.mono BZ.out.size))
     clear hb
     cases b1
     · have f1:=blk_on9 HBA.out BZ.out
       have f2:=blk_on9 HBB.out BZ.out
       have d0:=cg_ f1 (k:=0) rfl
       have d1:=cg_ f1 (k:=1) rfl
       have d2:=cg_ f1 (k:=2) rfl
       have d3:=cg_ f1 (k:=3) rfl
       have d4:=cg_ f1 (k:=4) rfl
       have l0:=cg_ f2 (k:=0) rfl
       have l1:=cg_ f2 (k:=1) rfl
       have l2:=cg_ f2 (k:=2) rfl
       clear f1 f2
       go_wp2_with fail
       go_ret
       exact ⟨ret_bool (by rw [HRT.out];simp_all),HAB.out.trans (BZ.out.mono HAB.out.size)⟩
     · have f1:=blk_on9 HBA.out BZ.out
       have f2:=blk_on9 HBB.out BZ.out
       have d0:=cg_ f1 (k:=0) rfl
       have d1:=cg_ f1 (k:=1) rfl
       have d2:=cg_ f1 (k:=2) rfl
       have d3:=cg_ f1 (k:=3) rfl
       have d4:=cg_ f1 (k:=4) rfl
       have l0:=cg_ f2 (k:=0) rfl
       have l1:=cg_ f2 (k:=1) rfl
       have l2:=cg_ f2 (k:=2) rfl
       clear f1 f2
       go_wp2_with fail
       refine (PLN.out wBb BZ.out).mono ?_
       rintro e wBbp ⟨rfl,hb⟩
       clear d0 d1 d2 d3 d4 l0 l1 l2
       replace BZ:=hid (BZ.out.trans (hb.mono BZ.out.size))
       clear hb
       cases q9
       · have f1:=blk_on9 HBA.out BZ.out
         have f2:=blk_on9 HBB.out BZ.out
         have d0:=cg_ f1 (k:=0) rfl
         have d1:=cg_ f1 (k:=1) rfl
         have d2:=cg_ f1 (k:=2) rfl
         have d3:=cg_ f1 (k:=3) rfl
         have d4:=cg_ f1 (k:=4) rfl
         have l0:=cg_ f2 (k:=0) rfl
         have l1:=cg_ f2 (k:=1) rfl
         have l2:=cg_ f2 (k:=2) rfl
         clear f1 f2
         go_wp2_with fail
         go_ret
         exact ⟨ret_bool (by rw [HRT.out];simp_all),HAB.out.trans (BZ.out.mono HAB.out.size)⟩
       · have f1:=blk_on9 HBA.out BZ.out
         have f2:=blk_on9 HBB.out BZ.out
         have d0:=cg_ f1 (k:=0) rfl
         have d1:=cg_ f1 (k:=1) rfl
         have d2:=cg_ f1 (k:=2) rfl
         have d3:=cg_ f1 (k:=3) rfl
         have d4:=cg_ f1 (k:=4) rfl
         have l0:=cg_ f2 (k:=0) rfl
         have l1:=cg_ f2 (k:=1) rfl
         have l2:=cg_ f2 (k:=2) rfl
         clear f1 f2
         go_wp2_with fail
         go_ret
         exact ⟨ret_bool (by rw [HRT.out];simp_all),HAB.out.trans (BZ.out.mono HAB.out.size)⟩
 · have f1:=blk_on9 HBA.out BZ.out
   have f2:=blk_on9 HBB.out BZ.out
   have d0:=cg_ f1 (k:=0) rfl
   have d1:=cg_ f1 (k:=1) rfl
   have d2:=cg_ f1 (k:=2) rfl
   have d3:=cg_ f1 (k:=3) rfl
   have d4:=cg_ f1 (k:=4) rfl
   have l0:=cg_ f2 (k:=0) rfl
   have l1:=cg_ f2 (k:=1) rfl
   have l2:=cg_ f2 (k:=2) rfl
   clear f1 f2
   go_wp2_with fail
   refine (BG1.out wB BZ.out).mono ?_
   rintro e wBb ⟨rfl,hb⟩
   clear d0 d1 d2 d3 d4 l0 l1 l2
   replace BZ:=hid (BZ.out.trans (hb.mono BZ.out.size))
   clear hb
   cases b1
   · have f1:=blk_on9 HBA.out BZ.out
     have f2:=blk_on9 HBB.out BZ.out
     have d0:=cg_ f1 (k:=0) rfl
     have d1:=cg_ f1 (k:=1) rfl
     have d2:=cg_ f1 (k:=2) rfl
     have d3:=cg_ f1 (k:=3) rfl
     have d4:=cg_ f1 (k:=4) rfl
     have l0:=cg_ f2 (k:=0) rfl
     have l1:=cg_ f2 (k:=1) rfl
     have l2:=cg_ f2 (k:=2) rfl
     clear f1 f2
     go_wp2_with fail
     go_ret
     exact ⟨ret_bool (by rw [HRT.out];simp_all),HAB.out.trans (BZ.out.mono HAB.out.size)⟩
   · have f1:=blk_on9 HBA.out BZ.out
     have f2:=blk_on9 HBB.out BZ.out
     have d0:=cg_ f1 (k:=0) rfl
     have d1:=cg_ f1 (k:=1) rfl
     have d2:=cg_ f1 (k:=2) rfl
     have d3:=cg_ f1 (k:=3) rfl
     have d4:=cg_ f1 (k:=4) rfl
     have l0:=cg_ f2 (k:=0) rfl
     have l1:=cg_ f2 (k:=1) rfl
     have l2:=cg_ f2 (k:=2) rfl
     clear f1 f2
     go_wp2_with fail
     refine (BG2.out wBb BZ.out).mono ?_
     rintro e wBbc ⟨rfl,hb⟩
     clear d0 d1 d2 d3 d4 l0 l1 l2
     replace BZ:=hid (BZ.out.trans (hb.mono BZ.out.size))
     clear hb
     cases b2
     · have f1:=blk_on9 HBA.out BZ.out
       have f2:=blk_on9 HBB.out BZ.out
       have d0:=cg_ f1 (k:=0) rfl
       have d1:=cg_ f1 (k:=1) rfl
       have d2:=cg_ f1 (k:=2) rfl
       have d3:=cg_ f1 (k:=3) rfl
       have d4:=cg_ f1 (k:=4) rfl
       have l0:=cg_ f2 (k:=0) rfl
       have l1:=cg_ f2 (k:=1) rfl
       have l2:=cg_ f2 (k:=2) rfl
       clear f1 f2
       go_wp2_with fail
       go_ret
       exact ⟨ret_bool (by rw [HRT.out];simp_all),HAB.out.trans (BZ.out.mono HAB.out.size)⟩
     · have f1:=blk_on9 HBA.out BZ.out
       have f2:=blk_on9 HBB.out BZ.out
       have d0:=cg_ f1 (k:=0) rfl
       have d1:=cg_ f1 (k:=1) rfl
       have d2:=cg_ f1 (k:=2) rfl
       have d3:=cg_ f1 (k:=3) rfl
       have d4:=cg_ f1 (k:=4) rfl
       have l0:=cg_ f2 (k:=0) rfl
       have l1:=cg_ f2 (k:=1) rfl
       have l2:=cg_ f2 (k:=2) rfl
       clear f1 f2
       go_wp2_with fail
       refine (PLN.out wBbc BZ.out).mono ?_
       rintro e wBbcp ⟨rfl,hb⟩
       clear d0 d1 d2 d3 d4 l0 l1 l2
       replace BZ:=hid (BZ.out.trans (hb.mono BZ.out.size))
       clear hb
       cases q9
       · have f1:=blk_on9 HBA.out BZ.out
         have f2:=blk_on9 HBB.out BZ.out
         have d0:=cg_ f1 (k:=0) rfl
         have d1:=cg_ f1 (k:=1) rfl
         have d2:=cg_ f1 (k:=2) rfl
         have d3:=cg_ f1 (k:=3) rfl
         have d4:=cg_ f1 (k:=4) rfl
         have l0:=cg_ f2 (k:=0) rfl
         have l1:=cg_ f2 (k:=1) rfl
         have l2:=cg_ f2 (k:=2) rfl
         clear f1 f2
         go_wp2_with fail
         go_ret
         exact ⟨ret_bool (by rw [HRT.out];simp_all),HAB.out.trans (BZ.out.mono HAB.out.size)⟩
       · have f1:=blk_on9 HBA.out BZ.out
         have f2:=blk_on9 HBB.out BZ.out
         have d0:=cg_ f1 (k:=0) rfl
         have d1:=cg_ f1 (k:=1) rfl
         have d2:=cg_ f1 (k:=2) rfl
         have d3:=cg_ f1 (k:=3) rfl
         have d4:=cg_ f1 (k:=4) rfl
         have l0:=cg_ f2 (k:=0) rfl
         have l1:=cg_ f2 (k:=1) rfl
         have l2:=cg_ f2 (k:=2) rfl
         clear f1 f2
         go_wp2_with fail
         refine (EQI.out wBbcp BZ.out).mono ?_
         rintro e wBbcpq ⟨rfl,hb⟩
         clear d0 d1 d2 d3 d4 l0 l1 l2
         replace BZ:=hid (BZ.out.trans (hb.mono BZ.out.size))
         clear hb
         have f1:=blk_on9 HBA.out BZ.out
         have f2:=blk_on9 HBB.out BZ.out
         have d0:=cg_ f1 (k:=0) rfl
         have d1:=cg_ f1 (k:=1) rfl
         have d2:=cg_ f1 (k:=2) rfl
         have d3:=cg_ f1 (k:=3) rfl
         have d4:=cg_ f1 (k:=4) rfl
         have l0:=cg_ f2 (k:=0) rfl
         have l1:=cg_ f2 (k:=1) rfl
         have l2:=cg_ f2 (k:=2) rfl
         clear f1 f2
         go_wp2_with fail
         go_ret
         exact ⟨ret_bool (by rw [HRT.out];simp_all),HAB.out.trans (BZ.out.mono HAB.out.size)⟩
end Go.Proofs.LF
