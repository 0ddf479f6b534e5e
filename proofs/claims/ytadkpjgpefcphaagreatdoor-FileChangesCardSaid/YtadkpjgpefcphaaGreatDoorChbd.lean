/- Parts of the proof of a law of layer 11 (file): LfW95, LfPre, LfSyA, LfMkR, LfW110. The conditions stand in each theorem. -/
import Derived.Test.YtadkpjgpefcphaaGreatDoorProg
import Derived.Test.YtadkpjgpefcphaaGreatDoorChab
import Derived.Test.YtadkpjgpefcphaaGreatDoorChac
import Derived.Test.YtadkpjgpefcphaaGreatDoorChaf
import Derived.Test.YtadkpjgpefcphaaGreatDoorChah
import Derived.Test.YtadkpjgpefcphaaGreatDoorCham
import Derived.Test.YtadkpjgpefcphaaGreatDoorChan
import Derived.Test.YtadkpjgpefcphaaGreatDoorChba
import Derived.Test.YtadkpjgpefcphaaGreatDoorChbb
set_option linter.all false
set_option linter.unusedVariables false
set_option linter.unusedSimpArgs false
namespace Go.Proofs.LF
open Go.RowKit Go.Sort
set_option maxHeartbeats 4000000
set_option maxRecDepth 100000
attribute [local go_sem] bs_toList bs_size bs_get
theorem ret166 {tmps:Array Value} {W:World} {b:Nat} {v0 v1 v2 v3 v4:Value} (h:W.heap[b]? = some (.cells #[v0,v1,v2,v3,v4] 68 (0,0))) (h2:tmps.getD 2 undef = .pointer (some ⟨b,0,none⟩)) :
 (results Tryz.f166 tmps).run Tryz.prog W = .ok (.agg #[v0,v1,v2,v3,v4]) W:=by
 have h0:=cg_ h (k:=0) rfl
 have h1:=cg_ h (k:=1) rfl
 have h22:=cg_ h (k:=2) rfl
 have h3:=cg_ h (k:=3) rfl
 have h4:=cg_ h (k:=4) rfl
 have hr:Tryz.f166.results = #[.cell 2 68]:=rfl
 simp only [results,hr]
 have h2':(tmps[2]?).getD undef = .pointer (some ⟨b,0,none⟩):=by rw [← Array.getD_eq_getD_getElem?];exact h2
 simp [go_sem,h2',h0,h1,h22,h3,h4]
def turnC (x:Ch):Ch:=⟨x.p,x.has,x.had,x.new,x.old⟩
def TurU (x:Ch) (w:World) (e:Ending) (w':World):Prop:=
 ∃ ap cp ao co an cn,e = .returned (.agg #[.slice ap x.p.length cp, .bool x.has, .bool x.had, .slice an x.new.length cn, .slice ao x.old.length co])∧PthU (Rg w.heap.size w'.heap.size) w' (.slice ap x.p.length cp) x.p∧IntU (Rg w.heap.size w'.heap.size) w' (.slice an x.new.length cn) x.new∧IntU (Rg w.heap.size w'.heap.size) w' (.slice ao x.old.length co) x.old∧Below w.heap.size w w'
theorem turned_u (x:Ch) (ap ao an:Option Addr) (cp co cn:Nat) (S:Nat→Prop) (w:World) (hp:Pth S w (.slice ap x.p.length cp) x.p) (ho:Ints S w (.slice ao x.old.length co) x.old) (hn:Ints S w (.slice an x.new.length cn) x.new) (hS:∀ b,S b→b < w.heap.size) (lp:x.p.length ≤ 1000) (lo:x.old.length ≤ 1000) (ln:x.new.length ≤ 1000) :
 Calls Tryz.prog 166 #[.agg #[.slice ap x.p.length cp, .bool x.had, .bool x.has, .slice ao x.old.length co, .slice an x.new.length cn]] w (TurU x w):=by
 obtain ⟨p,had,has,old,new⟩:=x
 simp only at hp ho hn lp lo ln ⊢
 have hA:=(Below.refl w.heap.size w).alloc (nl_ _) (.cells #[.slice ap p.length cp, .bool had, .bool has, .slice ao old.length co, .slice an new.length cn] 68)
 have hbA:=heap_alloc_new w (.cells #[.slice ap p.length cp, .bool had, .bool has, .slice ao old.length co, .slice an new.length cn] 68)
 obtain ⟨wA,hwA⟩:∃ wA,w.alloc (.cells #[.slice ap p.length cp, .bool had, .bool has, .slice ao old.length co, .slice an new.length cn] 68) = wA:=⟨_,rfl⟩
 have hzA:wA.heap.size = w.heap.size + 1:=by rw [← hwA];simp
 rw [hwA] at hA hbA
 have hB:=(Below.refl wA.heap.size wA).alloc (nl_ _) (.cells #[.slice none 0 0, .bool false, .bool false, .slice none 0 0, .slice none 0 0] 68)
 have hbB:=heap_alloc_new wA (.cells #[.slice none 0 0, .bool false, .bool false, .slice none 0 0, .slice none 0 0] 68)
 obtain ⟨wB,hwB⟩:∃ wB,wA.alloc (.cells #[.slice none 0 0, .bool false, .bool false, .slice none 0 0, .slice none 0 0] 68) = wB:=⟨_,rfl⟩
 have hzB:wB.heap.size = w.heap.size + 2:=by rw [← hwB];simp;omega
 rw [hwB] at hB hbB
 have hAB:=(hA.trans (hB.mono (by omega))).drew
 have hbA2:wB.drew.heap[w.heap.size]? = some (.cells #[.slice ap p.length cp, .bool had, .bool has, .slice ao old.length co, .slice an new.length cn] 68 (0,0)):=(hB.block w.heap.size (by omega)).trans hbA
 have hbB2:wB.drew.heap[w.heap.size + 1]? = some (.cells #[.slice none 0 0, .bool false, .bool false, .slice none 0 0, .slice none 0 0] 68 (0,0)):=by rw [← hzA];exact hbB
 have hzB':wB.drew.heap.size = w.heap.size + 2:=hzB
 obtain ⟨a0,ha0⟩:∃ a0,w.heap.size = a0:=⟨_,rfl⟩
 rw [ha0] at hbA2 hbB2 hzB' hzA
 have c0:=cg_ hbA2 (k:=0) rfl
 have c1:=cg_ hbA2 (k:=1) rfl
 have c2:=cg_ hbA2 (k:=2) rfl
 have c3:=cg_ hbA2 (k:=3) rfl
 have c4:=cg_ hbA2 (k:=4) rfl
 have hS0:wB.drew.cell? ⟨a0,0,none⟩ = some (.slice ap p.length cp)∧wB.drew.cell? ⟨a0,1,none⟩ = some (.bool had)∧wB.drew.cell? ⟨a0,2,none⟩ = some (.bool has)∧wB.drew.cell? ⟨a0,3,none⟩ = some (.slice ao old.length co)∧wB.drew.cell? ⟨a0,4,none⟩ = some (.slice an new.length cn):=⟨c0,c1,c2,c3,c4⟩
 have ha:=Ag_b (S:=S) hAB hS
 have hsB:∀ b,S b→b < wB.drew.heap.size:=fun b hb=>by have:=hS b hb;omega
 have CP:=hid (cloneK_u p ap cp S wB.drew (hp.agree ha) hsB lp)
 have OB:=hid (ho.agree ha)
 have NB:=hid (hn.agree ha)
 have HSB:=hid hsB
 have HAB:=hid hAB
 have HBB:=hid hbB2
 have HS0:=hid hS0
 have HWA:=hid hwA
 have HWB:=hid hwB
 have HA0:=hid ha0
 clear hp ho hn hS hA hbA hB hbB hAB hbA2 hbB2 c0 c1 c2 c3 c4 hS0 ha hsB hwA hwB hzB
 go_enter Tryz.func166,Tryz.ntmps166
 go_upto_region 1 with fail
 rw [HWA.out,HWB.out]
 try simp only [HA0.out,hzA]
 refine (wpIn_wide (n:=9)).1 ?_
 refine region_held (fun w':World=>w'.cell? ⟨a0,0,none⟩ = some (.slice ap p.length cp)∧w'.cell? ⟨a0,1,none⟩ = some (.bool had)∧w'.cell? ⟨a0,2,none⟩ = some (.bool has)∧w'.cell? ⟨a0,3,none⟩ = some (.slice ao old.length co)∧w'.cell? ⟨a0,4,none⟩ = some (.slice an new.length cn)) (by kernel_rfl) ?_
 have hS0:=HS0.out
 refine tkY 0 3 (.pointer (some ⟨a0,0,none⟩)) rfl rfl hS0 (fun w' hs=>?_) ?_
 · go_simp
 refine tkY 1 4 (.slice ap p.length cp) rfl rfl hS0 (fun w' hs=>?_) ?_
 · obtain ⟨y0,y1,y2,y3,y4⟩:=hs
   go_simp
 refine tkY 3 6 (.pointer (some ⟨a0,2,none⟩)) rfl rfl hS0 (fun w' hs=>?_) ?_
 · go_simp
 refine tkY 4 7 (.bool has) rfl rfl hS0 (fun w' hs=>?_) ?_
 · obtain ⟨y0,y1,y2,y3,y4⟩:=hs
   go_simp
 refine tkY 5 8 (.pointer (some ⟨a0,1,none⟩)) rfl rfl hS0 (fun w' hs=>?_) ?_
 · go_simp
 refine tkY 6 9 (.bool had) rfl rfl hS0 (fun w' hs=>?_) ?_
 · obtain ⟨y0,y1,y2,y3,y4⟩:=hs
   go_simp
 refine tkY 7 10 (.pointer (some ⟨a0,4,none⟩)) rfl rfl hS0 (fun w' hs=>?_) ?_
 · go_simp
 refine tkY 8 11 (.slice an new.length cn) rfl rfl hS0 (fun w' hs=>?_) ?_
 · obtain ⟨y0,y1,y2,y3,y4⟩:=hs
   go_simp
 refine tkY 10 13 (.pointer (some ⟨a0,3,none⟩)) rfl rfl hS0 (fun w' hs=>?_) ?_
 · go_simp
 refine tkY 11 14 (.slice ao old.length co) rfl rfl hS0 (fun w' hs=>?_) ?_
 · obtain ⟨y0,y1,y2,y3,y4⟩:=hs
   go_simp
 refine AnyH_one (i:=2) (by kernel_rfl) rfl (by kernel_rfl) (fun K hK=>?_)
 go_simp
 refine ⟨trivial,(callsIn_wide.2 CP.out).mono ?_⟩
 rintro e w1 ⟨ap1,cp1,rfl,hP1,hb1⟩
 have hS1:w1.cell? ⟨a0,0,none⟩ = some (.slice ap p.length cp)∧w1.cell? ⟨a0,1,none⟩ = some (.bool had)∧w1.cell? ⟨a0,2,none⟩ = some (.bool has)∧w1.cell? ⟨a0,3,none⟩ = some (.slice ao old.length co)∧w1.cell? ⟨a0,4,none⟩ = some (.slice an new.length cn):=
  ⟨bc_ hb1 (by omega) hS0.1,bc_ hb1 (by omega) hS0.2.1,bc_ hb1 (by omega) hS0.2.2.1,bc_ hb1 (by omega) hS0.2.2.2.1,bc_ hb1 (by omega) hS0.2.2.2.2⟩
 have hz1:=hb1.size
 have CN:=hid (cloneI_u new an cn S w1 (NB.out.agree (Ag_b hb1 HSB.out)) ln)
 have HB1:=hid hb1
 have HP1:=hid hP1
 refine hK _ _ ⟨hS1,?_⟩
 clear hK hS0 hb1 hP1
 refine AnyH_one (i:=9) (by kernel_rfl) rfl (by kernel_rfl) (fun K hK=>?_)
 go_simp
 refine ⟨trivial,(callsIn_wide.2 CN.out).mono ?_⟩
 rintro e w2 ⟨an2,cn2,rfl,hN2,hb2⟩
 have hS2:w2.cell? ⟨a0,0,none⟩ = some (.slice ap p.length cp)∧w2.cell? ⟨a0,1,none⟩ = some (.bool had)∧w2.cell? ⟨a0,2,none⟩ = some (.bool has)∧w2.cell? ⟨a0,3,none⟩ = some (.slice ao old.length co)∧w2.cell? ⟨a0,4,none⟩ = some (.slice an new.length cn):=
  ⟨bc_ hb2 (by omega) hS1.1,bc_ hb2 (by omega) hS1.2.1,bc_ hb2 (by omega) hS1.2.2.1,bc_ hb2 (by omega) hS1.2.2.2.1,bc_ hb2 (by omega) hS1.2.2.2.2⟩
 have hz2:=hb2.size
 have h12:=HB1.out.trans (hb2.mono hz1)
 have CO:=hid (cloneI_u old ao co S w2 (OB.out.agree (Ag_b h12 HSB.out)) lo)
 have HB2:=hid hb2
 have HN2:=hid hN2
 refine hK _ _ ⟨hS2,?_⟩
 clear hK hS1 hb2 hN2 h12
 refine AnyH_one (i:=12) (by kernel_rfl) rfl (by kernel_rfl) (fun K hK=>?_)
 go_simp
 refine ⟨trivial,(callsIn_wide.2 CO.out).mono ?_⟩
 rintro e w3 ⟨ao3,co3,rfl,hO3,hb3⟩
 have hS3:w3.cell? ⟨a0,0,none⟩ = some (.slice ap p.length cp)∧w3.cell? ⟨a0,1,none⟩ = some (.bool had)∧w3.cell? ⟨a0,2,none⟩ = some (.bool has)∧w3.cell? ⟨a0,3,none⟩ = some (.slice ao old.length co)∧w3.cell? ⟨a0,4,none⟩ = some (.slice an new.length cn):=
  ⟨bc_ hb3 (by omega) hS2.1,bc_ hb3 (by omega) hS2.2.1,bc_ hb3 (by omega) hS2.2.2.1,bc_ hb3 (by omega) hS2.2.2.2.1,bc_ hb3 (by omega) hS2.2.2.2.2⟩
 have hz3:=hb3.size
 have hr1:=HB1.out.block (a0 + 1) (by omega)
 have hr2:=HB2.out.block (a0 + 1) (by omega)
 have hr3:=hb3.block (a0 + 1) (by omega)
 have hcell:w3.heap[a0 + 1]? = some (.cells #[.slice none 0 0, .bool false, .bool false, .slice none 0 0, .slice none 0 0] 68 (0,0)):=by rw [hr3,hr2,hr1];exact HBB.out
 have HB3:=hid hb3
 have HO3:=hid hO3
 refine hK _ _ ⟨hS3,?_⟩
 clear hK hS2 hb3 hO3 hr1 hr2 hr3
 refine tkY 13 16 (.agg #[.slice ap1 p.length cp1, .bool has, .bool had, .slice an2 new.length cn2, .slice ao3 old.length co3]) rfl rfl hS3 (fun w' hs=>?_) ?_
 · go_simp
 have k0:=cg_ hcell (k:=0) rfl
 have k1:=cg_ hcell (k:=1) rfl
 have k2:=cg_ hcell (k:=2) rfl
 have k3:=cg_ hcell (k:=3) rfl
 have k4:=cg_ hcell (k:=4) rfl
 have f0:=cells_frz hcell (k:=0)
 have f1:=cells_frz hcell (k:=1)
 have f2:=cells_frz hcell (k:=2)
 have f3:=cells_frz hcell (k:=3)
 have f4:=cells_frz hcell (k:=4)
 refine AnyH_one (i:=14) (by kernel_rfl) rfl (by kernel_rfl) (fun K hK=>?_)
 go_simp
 have e4:(((((w3.setCell ⟨a0 + 1,0,none⟩ (.slice ap1 p.length cp1)).setCell ⟨a0 + 1,1,none⟩ (.bool has)).setCell ⟨a0 + 1,2,none⟩ (.bool had)).setCell ⟨a0 + 1,3,none⟩ (.slice an2 new.length cn2)).setCell ⟨a0 + 1,4,none⟩ (.slice ao3 old.length co3)).heap[a0 + 1]? = some (.cells #[.slice ap1 p.length cp1, .bool has, .bool had, .slice an2 new.length cn2, .slice ao3 old.length co3] 68 (0,0)):=by
  simp [World.setCell,Array.getElem?_modify,hcell]
 have eo:∀ b,b ≠ a0 + 1→(((((w3.setCell ⟨a0 + 1,0,none⟩ (.slice ap1 p.length cp1)).setCell ⟨a0 + 1,1,none⟩ (.bool has)).setCell ⟨a0 + 1,2,none⟩ (.bool had)).setCell ⟨a0 + 1,3,none⟩ (.slice an2 new.length cn2)).setCell ⟨a0 + 1,4,none⟩ (.slice ao3 old.length co3)).heap[b]? = w3.heap[b]?:=fun b h=>by
  rw [Below.heap_setCell _ _ _ _ h,Below.heap_setCell _ _ _ _ h,Below.heap_setCell _ _ _ _ h,Below.heap_setCell _ _ _ _ h,Below.heap_setCell _ _ _ _ h]
 have B3:Below a0 w w3:=by
  have h0:=HAB.out
  rw [HA0.out] at h0
  exact h0.trans ((HB1.out.trans ((HB2.out.trans (HB3.out.mono hz2)).mono hz1)).mono (by omega))
 have B4:Below a0 w (((((w3.setCell ⟨a0 + 1,0,none⟩ (.slice ap1 p.length cp1)).setCell ⟨a0 + 1,1,none⟩ (.bool has)).setCell ⟨a0 + 1,2,none⟩ (.bool had)).setCell ⟨a0 + 1,3,none⟩ (.slice an2 new.length cn2)).setCell ⟨a0 + 1,4,none⟩ (.slice ao3 old.length co3)):=⟨B3.os,B3.tape,B3.output,by simpa [World.setCell] using B3.size,fun b hb=>(eo b (by omega)).trans (B3.block b hb)⟩
 have z4:(((((w3.setCell ⟨a0 + 1,0,none⟩ (.slice ap1 p.length cp1)).setCell ⟨a0 + 1,1,none⟩ (.bool has)).setCell ⟨a0 + 1,2,none⟩ (.bool had)).setCell ⟨a0 + 1,3,none⟩ (.slice an2 new.length cn2)).setCell ⟨a0 + 1,4,none⟩ (.slice ao3 old.length co3)).heap.size = w3.heap.size:=by simp [World.setCell]
 generalize (((((w3.setCell ⟨a0 + 1,0,none⟩ (.slice ap1 p.length cp1)).setCell ⟨a0 + 1,1,none⟩ (.bool has)).setCell ⟨a0 + 1,2,none⟩ (.bool had)).setCell ⟨a0 + 1,3,none⟩ (.slice an2 new.length cn2)).setCell ⟨a0 + 1,4,none⟩ (.slice ao3 old.length co3)) = w4 at e4 eo B4 z4 ⊢
 have q0:=hS3.1
 have hS4:w4.cell? ⟨a0,0,none⟩ = some (.slice ap p.length cp)∧w4.cell? ⟨a0,1,none⟩ = some (.bool had)∧w4.cell? ⟨a0,2,none⟩ = some (.bool has)∧w4.cell? ⟨a0,3,none⟩ = some (.slice ao old.length co)∧w4.cell? ⟨a0,4,none⟩ = some (.slice an new.length cn):=
  ⟨(World.cell?_of_block (eo a0 (by omega))).trans hS3.1,(World.cell?_of_block (eo a0 (by omega))).trans hS3.2.1,(World.cell?_of_block (eo a0 (by omega))).trans hS3.2.2.1,(World.cell?_of_block (eo a0 (by omega))).trans hS3.2.2.2.1,(World.cell?_of_block (eo a0 (by omega))).trans hS3.2.2.2.2⟩
 refine hK _ _ ⟨hS4,?_⟩
 clear hK hS4 hS3 q0
 refine AnyH_done (by kernel_rfl) ?_
 go_simp
 have hP4:=PthU.agree (w':=w4) HP1.out (fun b hb=>(eo b (by have:=hb.1;omega)).trans ((HB3.out.block b (by have:=hb.2;omega)).trans (HB2.out.block b hb.2)))
 have hN4:=IntU.agree (w':=w4) HN2.out (fun b hb=>(eo b (by have:=hb.1;omega)).trans (HB3.out.block b hb.2))
 have hO4:=IntU.agree (w':=w4) HO3.out (fun b hb=>eo b (by have:=hb.1;omega))
 have R4:TurU ⟨p,had,has,old,new⟩ w (.returned (.agg #[.slice ap1 p.length cp1, .bool has, .bool had, .slice an2 new.length cn2, .slice ao3 old.length co3])) w4:=
  ⟨ap1,cp1,ao3,co3,an2,cn2,rfl,PthU.wide hP4 (fun b hb=>⟨by have:=hb.1;omega,by have:=hb.2;omega⟩),IntU.wide hN4 (fun b hb=>⟨by have:=hb.1;omega,by have:=hb.2;omega⟩),IntU.wide hO4 (fun b hb=>⟨by have:=hb.1;omega,by have:=hb.2;omega⟩),by rw [ha0];exact B4⟩
 have HR4:=hid R4
 have HE4:=hid e4
 clear R4 hP4 hN4 hO4 e4 eo B4 B3 f0 f1 f2 f3 f4 k0 k1 k2 k3 k4 hcell
 go_wp2_with fail
 refine bodyPost_ret (v := .agg #[.slice ap1 p.length cp1, .bool has, .bool had, .slice an2 new.length cn2, .slice ao3 old.length co3]) (ret166 HE4.out rfl) rfl ?_
 exact HR4.out
end Go.Proofs.LF
namespace Go.Proofs.LF
open Go.RowKit Go.Sort
theorem keys_take (p:List Ky) (b:Nat) (h:b ≤ p.length):(p.flatMap Ky.cells).take (b * 3) = (p.take b).flatMap Ky.cells:=by
 have h2:p.flatMap Ky.cells = (p.take b).flatMap Ky.cells ++ (p.drop b).flatMap Ky.cells:=by rw [← List.flatMap_append,List.take_append_drop]
 rw [h2,List.take_left' (by rw [len_keys,List.length_take,Nat.min_eq_left h])]
theorem Pth.pre {S:Nat→Prop} {w:World} {p:List Ky} {a:Option Addr} {c b:Nat} (hp:Pth S w (.slice a p.length c) p) (h:b ≤ p.length):Pth S w (.slice a b c) (p.take b):=by
 have:=SlC.pre (k:=3) (m:=b) hp h
 unfold Pth
 rw [List.length_take,Nat.min_eq_left h,← keys_take p b h]
 exact this
end Go.Proofs.LF
namespace Go.Proofs.LF
def FlOk (x:Fl):Prop:=x.p.length ≤ 4∧(∃ v n,x.p = v ++ [kyOf n x.l]∧badNm n = false)∧x.l.length ≤ 4∧badNs x.l = false
theorem fls_flok:∀ (y:Fo) (u:List Ky),OkG u.length y→∀ x ∈ flsL u y,FlOk x
 | .nil,u,_,x,h=>by cases h
 | .cons n l s r,u,⟨⟨h1,h2,h3,h4⟩,h5,_,h7⟩,x,h=>by
   rw [flsL_cons] at h
   rcases List.mem_cons.1 h with rfl | h
   · exact ⟨by simp;omega,⟨u,n,rfl,h2⟩,h3,h4⟩
   · rcases List.mem_append.1 h with h | h
     · exact fls_flok s _ (by simpa using h5) x h
     · exact fls_flok r u h7 x h
end Go.Proofs.LF
namespace Go.Proofs.LF
def stR (now:List Fl) (c:Ch):List Fl:=if c.has then putR ⟨c.p,c.new⟩ (now.filter fun x=>!decide (x.p = c.p)) else now.filter fun x=>!decide (x.p = c.p)
def rmk (now:List Fl) (l:List Ch):List Fl:=l.foldl stR now
def fitR (now:List Fl) (c:Ch):Bool:=((rfd now c.p).isSome == c.had) && decide (((rfd now c.p).getD fl0).l = c.old)
def wholeR (l:List Fl):Bool:=l.all fun x=>!decide (1 < x.p.length) || (rfd l x.p.dropLast).isSome
def rmE (now:List Fl) (l:List Ch):Int:=if l.all (fitR now) = false then 7 else if wholeR (rmk now l) = false then 1 else if 60 < (rmk now l).length then 2 else 0
def rmY (now:List Fl) (l:List Ch):Fo:=if rmE now l = 0 then treR 4 (rmk now l) [] else .nil
theorem stR_spec {now:List Fl} {c:Ch} (h:Srt now):Srt (stR now c)∧∀ x,x ∈ stR now c ↔ (x ∈ now∧x.p ≠ c.p) ∨ (c.has = true∧x = ⟨c.p,c.new⟩):=by
 have h1:Srt (now.filter fun x=>!decide (x.p = c.p)):=List.Pairwise.sublist List.filter_sublist h
 have h2:∀ x,x ∈ (now.filter fun x=>!decide (x.p = c.p)) ↔ x ∈ now∧x.p ≠ c.p:=fun x=>by simp
 unfold stR
 cases hc:c.has
 · exact ⟨h1,fun x=>by rw [if_neg (by simp),h2 x];simp⟩
 · rw [if_pos rfl]
   refine ⟨putR_srt h1 fun hm=>?_,fun x=>?_⟩
   · obtain ⟨z,hz,e⟩:=List.mem_map.1 hm
     exact ((h2 z).1 hz).2 e
   · rw [putR_mem,h2 x]
     constructor
     · rintro (h | h)
       · exact .inr ⟨rfl,h⟩
       · exact .inl h
     · rintro (h | ⟨_,h⟩)
       · exact .inr h
       · exact .inl h
theorem rmk_spec:∀ {l:List Ch} {now:List Fl},Srt now→l.Pairwise (fun a b=>cmpP a.p b.p < 0)→Srt (rmk now l)∧∀ x,x ∈ rmk now l ↔ (x ∈ now∧∀ c ∈ l,c.p ≠ x.p) ∨ ∃ c ∈ l,c.has = true∧x = ⟨c.p,c.new⟩
 | [],now,h,_=>⟨h,fun x=>by simp [rmk]⟩
 | c :: r,now,h,hl=>by
   obtain ⟨l1,l2⟩:=List.pairwise_cons.1 hl
   obtain ⟨s1,s2⟩:=stR_spec (c:=c) h
   obtain ⟨i1,i2⟩:=rmk_spec (l:=r) s1 l2
   refine ⟨i1,fun x=>?_⟩
   show x ∈ rmk (stR now c) r ↔ _
   rw [i2 x,s2 x]
   have hne:∀ d ∈ r,d.p ≠ c.p:=fun d hd e=>by
    have:=l1 d hd
    rw [e,cmpP_ord.refl] at this;omega
   constructor
   · rintro (⟨⟨h1,h2⟩ | ⟨h1,rfl⟩,h3⟩ | ⟨d,hd,h1,h2⟩)
     · refine .inl ⟨h1,fun d hd=>?_⟩
       rcases List.mem_cons.1 hd with rfl | hd
       · exact h2.symm
       · exact h3 d hd
     · exact .inr ⟨c,by simp,h1,rfl⟩
     · exact .inr ⟨d,by simp [hd],h1,h2⟩
   · rintro (⟨h1,h2⟩ | ⟨d,hd,h1,h2⟩)
     · exact .inl ⟨.inl ⟨h1,(h2 c (by simp)).symm⟩,fun d hd=>h2 d (by simp [hd])⟩
     · rcases List.mem_cons.1 hd with rfl | hd
       · exact .inl ⟨.inr ⟨h1,h2⟩,fun d hd=>by rw [h2];exact hne d hd⟩
       · exact .inr ⟨d,hd,h1,h2⟩
theorem rmk_eq {y:Fo} {l:List Ch} (hy:chkY y = 0) (hl:ckC l = 0):rmk (flsL [] y) l = mkO y l:=by
 have hs:=fls_srt hy
 have hc:=(ckC_zero hl).2.2
 obtain ⟨h1,h2⟩:=rmk_spec hs hc
 refine srt_ext h1 (mkO_srt hs hc) fun x=>?_
 rw [h2 x,mkO,srtFl_mem,List.mem_append,keptF_mem,newsF_mem]
theorem fit_eq {now:List Fl} (h:Srt now):fitR now = fitC now:=by
 funext c
 rw [fitR,fitC,fnd_rfd h]
theorem lsF_out:∀ (l kept:List Fl) (out:List (List Ky)),∀ p ∈ out,p ∈ (lsF kept out l).2
 | [],_,_,p,hp=>hp
 | f :: r,kept,out,p,hp=>by
   rw [lsF]
   split
   · exact lsF_out r _ _ p hp
   · exact lsF_out r _ _ p (by simp [hp])
theorem lsF_par:∀ (l kept:List Fl),Srt (kept ++ l)→(lsF kept [] l).2 = []→∀ x ∈ l,x.p.length = 1 ∨ x.p.dropLast ∈ (kept ++ l).map Fl.p
 | [],_,_,_,x,hx=>by cases hx
 | f :: r,kept,hs,h,x,hx=>by
   rw [lsF] at h
   split at h
   · rename_i hc
     rcases List.mem_cons.1 hx with rfl | hx
     · rcases hc with hc | hc
       · right
         rw [fnd_rfd (List.pairwise_append.1 hs).1,rfd_iff] at hc
         rw [List.map_append,List.mem_append];exact .inl hc
       · exact .inl hc
     · have:=lsF_par r (kept ++ [f]) (by simpa using hs) h x hx
       simpa using this
   · have:=lsF_out r kept [f.p] f.p (by simp)
     rw [List.nil_append] at h
     rw [h] at this;cases this
theorem whole_clo {l:List Fl} (hne:∀ x ∈ l,x.p ≠ []):wholeR l = true ↔ Clo l:=by
 have h0:∀ x ∈ l,x.p.length ≠ 0:=fun x hx h=>hne x hx (List.eq_nil_of_length_eq_zero h)
 have hd:∀ x ∈ l,(x.p.dropLast ≠ [] ↔ 1 < x.p.length):=fun x hx=>by
  have:=h0 x hx
  constructor
  · intro h
    have:x.p.dropLast.length ≠ 0:=fun e=>h (List.eq_nil_of_length_eq_zero e)
    rw [List.length_dropLast] at this;omega
  · intro h e
    have:=congrArg List.length e
    rw [List.length_dropLast] at this
    simp at this;omega
 simp only [wholeR,List.all_eq_true,Bool.or_eq_true,Bool.not_eq_true',decide_eq_false_iff_not,rfd_iff,Clo,List.mem_map]
 constructor
 · intro h x hx hx2
   rcases h x hx with h1 | h1
   · exact absurd ((hd x hx).1 hx2) h1
   · exact h1
 · intro h x hx
   by_cases h1:1 < x.p.length
   · exact .inr (h x hx ((hd x hx).2 h1))
   · exact .inl h1
theorem whole_lsF {l:List Fl} (hs:Srt l) (hne:∀ x ∈ l,x.p ≠ []):wholeR l = false ↔ 0 < (lsF [] [] l).2.length:=by
 cases hw:wholeR l with
 | true=>
   have:=lsF_clo hs ((whole_clo hne).1 hw) hne [] l rfl
   rw [this];simp
 | false=>
   refine ⟨fun _=>?_,fun _=>rfl⟩
   rcases Nat.eq_zero_or_pos (lsF [] [] l).2.length with h | h
   · have hp:=lsF_par l [] hs (List.eq_nil_of_length_eq_zero h)
     have:wholeR l = true:=(whole_clo hne).2 fun x hx hd=>by
      rcases hp x hx with h1 | h1
      · exact absurd (List.eq_nil_of_length_eq_zero (by rw [List.length_dropLast];omega)) hd
      · rw [List.nil_append] at h1
        exact List.mem_map.1 h1
     rw [this] at hw;cases hw
   · exact h
theorem kok_ck {c:Ch} (h:ckOne none c = 0) (hh:c.has = true):∃ u n,c.p = u ++ [kyOf n c.new]:=by
 obtain ⟨h1,_,_,_,_,_,h7,_⟩:=ckOne_zero h
 have hne:c.p ≠ []:=fun e=>by rw [e] at h1;simp at h1
 have hl:c.p = c.p.dropLast ++ [lstK c.p]:=by
  unfold lstK
  rw [List.getLastD_eq_getLast?,List.getLast?_eq_some_getLast hne]
  exact (List.dropLast_concat_getLast hne).symm
 have hkx:(c.p.all fun k=>k.h || decide (k.x = 0)) = true∧begK (lstK c.p) c.new = true:=by
  unfold rtC at h7
  split at h7
  · cases h7
  split at h7
  · cases h7
  rename_i hb
  split at h7
  · cases h7
  rename_i ha
  rw [hh] at hb
  refine ⟨by
   cases hq:(c.p.all fun k=>k.h || decide (k.x = 0)) with
   | true=>rfl
   | false=>rw [hq] at ha;exact absurd rfl ha,?_⟩
  cases hq:begK (lstK c.p) c.new with
  | true=>rfl
  | false=>rw [hq] at hb;simp at hb
 have hmem:lstK c.p ∈ c.p:=by rw [hl];simp [lstK]
 have hz:=List.all_eq_true.1 hkx.1 _ (by
  have:lstK c.p ∈ c.p.dropLast ++ [lstK c.p]:=by simp
  rw [← hl] at this;exact this)
 refine ⟨c.p.dropLast,(lstK c.p).n,?_⟩
 have:kyOf (lstK c.p).n c.new = lstK c.p:=by
  have hb:=hkx.2
  generalize lstK c.p = k at hz hb
  obtain ⟨n,hh,x⟩:=k
  cases hn:c.new with
  | nil=>
    rw [hn] at hb
    simp [begK] at hb
    subst hb
    simp at hz
    subst hz
    rfl
  | cons z r=>
    rw [hn] at hb
    simp [begK] at hb
    obtain ⟨rfl,rfl⟩:=hb
    rfl
 rw [this];exact hl
theorem kok_mkO {y:Fo} {l:List Ch} (hl:ckC l = 0):KOk (mkO y l):=fun x hx=>by
 rw [mkO,srtFl_mem,List.mem_append,keptF_mem,newsF_mem] at hx
 rcases hx with ⟨h,_⟩ | ⟨c,hc,hh,rfl⟩
 · exact fls_kok y [] x h
 · exact kok_ck ((ckC_zero hl).2.1 c hc) hh
theorem ne_mkO {y:Fo} {l:List Ch} (hl:ckC l = 0):∀ x ∈ mkO y l,x.p ≠ []:=fun x hx e=>by
 obtain ⟨u,n,h⟩:=kok_mkO hl x hx
 rw [e] at h
 simp at h
theorem rm_eq {y:Fo} {l:List Ch} (hy:chkY y = 0) (hl:ckC l = 0):rmE (flsL [] y) l = mkE y l∧rmY (flsL [] y) l = mkY y l:=by
 have hs:=fls_srt hy
 have hc:=(ckC_zero hl).2.2
 have hO:=mkO_srt hs hc
 have hE:rmE (flsL [] y) l = mkE y l:=by
  have e1:mkE y l = if (l.all (fitC (flsL [] y))) = false then 7 else if 0 < (lsF [] [] (mkO y l)).2.length then 1 else if 60 < (mkO y l).length then 2 else 0:=by
   rw [mkE,if_neg (show ¬ chkY y ≠ 0 by rw [hy];simp),if_neg (show ¬ ckC l ≠ 0 by rw [hl];simp)]
  rw [e1,rmE,fit_eq hs,rmk_eq hy hl]
  have hw:=whole_lsF (l:=mkO y l) hO (ne_mkO hl)
  by_cases h7:(l.all (fitC (flsL [] y))) = false
  · rw [if_pos h7,if_pos h7]
  · rw [if_neg h7,if_neg h7]
    by_cases h1:wholeR (mkO y l) = false
    · rw [if_pos h1,if_pos (hw.1 h1)]
    · rw [if_neg h1,if_neg (fun h=>h1 (hw.2 h))]
 refine ⟨hE,?_⟩
 unfold rmY mkY
 rw [hE]
 split
 · rename_i h0
   rw [rmk_eq hy hl]
   have hw:=whole_lsF (l:=mkO y l) hO (ne_mkO hl)
   have hcl:Clo (mkO y l):=by
    refine (whole_clo (ne_mkO hl)).1 ?_
    cases hq:wholeR (mkO y l) with
    | true=>rfl
    | false=>
      have h1:=hw.1 hq
      unfold mkE at h0
      rw [if_neg (by rw [hy];simp),if_neg (by rw [hl];simp),if_pos h1] at h0
      split at h0 <;> omega
   refine treR_treF hO hcl (kok_mkO hl) fun x hx=>?_
   unfold mkO at hx;rw [srtFl_mem,List.mem_append,keptF_mem,newsF_mem] at hx
   rcases hx with ⟨h,_⟩ | ⟨c,hc',_,rfl⟩
   · exact fls4 hy x h
   · exact (ckOne_zero ((ckC_zero hl).2.1 c hc')).1.2
 · rfl
end Go.Proofs.LF
namespace Go.Proofs.LF
open Go.RowKit Go.Sort
set_option maxHeartbeats 4000000
set_option maxRecDepth 100000
attribute [local go_sem] bs_toList bs_size bs_get
theorem enters144:Enters 144:=by intro args W;simp [go_sem]
theorem enters143:Enters 143:=by intro args W;simp [go_sem]
def wideK (k:Ky):Bool:=decide (20 < k.n.length)
theorem wide144 (k:Ky) (W:World):Calls Tryz.prog 144 #[.agg #[.string (bs k.n), .bool k.h, .int .i64 k.x]] W fun e w'=>e = .returned (.bool (wideK k))∧Below W.heap.size W w':=by
 have hA:=(Below.refl W.heap.size W).alloc (nl_ _) (.cells #[.string (bs k.n), .bool k.h, .int .i64 k.x] 71)
 have HA:=hid hA
 clear hA
 by_cases h:20 < k.n.length
 · have h':(20:Int) < (k.n.length:Int):=by omega
   go_enter Tryz.func144,Tryz.ntmps144
   go_wp2_with fail
   go_ret
   exact ⟨by simp [wideK,h],HA.out⟩
 · have h':¬ (20:Int) < (k.n.length:Int):=by omega
   go_enter Tryz.func144,Tryz.ntmps144
   go_wp2_with fail
   go_ret
   exact ⟨by simp [wideK,h],HA.out⟩
theorem wideP {g:Nat} (hE:Enters g) (hg:∀ (k:Ky) (W:World),Calls Tryz.prog g #[.agg #[.string (bs k.n), .bool k.h, .int .i64 k.x]] W fun e w'=>e = .returned (.bool (wideK k))∧Below W.heap.size W w')
 (p:List Ky) (a:Option Addr) (c:Nat) (S:Nat→Prop) (w:World) (hp:Pth S w (.slice a p.length c) p) (hS:∀ b,S b→b < w.heap.size) (hl:p.length ≤ 100000) :
 Calls Tryz.prog 53 #[.slice a p.length c, .func (.func g) #[] #[]] w fun e w'=>e = .returned (.bool (p.any wideK))∧Below w.heap.size w w':=by
 have h:=cont_key g hE (fun i=>wideK (p.getD i ⟨[],false,0⟩)) [] p.length a c _ S w hp hS hl (fun i hi W hW=>by
  rw [key_elemV hi]
  have hg':p.getD i ⟨[],false,0⟩ = p[i]:=by simp [List.getD_eq_getElem?_getD,hi]
  rw [hg']
  exact hg p[i] W)
 refine h.mono ?_
 rintro e w' ⟨rfl,hb⟩
 exact ⟨by rw [anyN_list wideK _ p (fun i hi=>by simp [List.getD_eq_getElem?_getD,hi])],hb⟩
def wideC (x:Ch):Bool:=decide (8 < x.p.length) || decide (8 < x.old.length) || decide (8 < x.new.length) || x.p.any wideK
theorem wide143 (x:Ch) (ap ao an:Option Addr) (cp co cn:Nat) (S:Nat→Prop) (w:World) (hp:Pth S w (.slice ap x.p.length cp) x.p) (hS:∀ b,S b→b < w.heap.size) :
 Calls Tryz.prog 143 #[.agg #[.slice ap x.p.length cp, .bool x.had, .bool x.has, .slice ao x.old.length co, .slice an x.new.length cn]] w fun e w'=>e = .returned (.bool (wideC x))∧Below w.heap.size w w':=by
 obtain ⟨W,hW⟩:∃ W,w.alloc (.cells #[.slice ap x.p.length cp, .bool x.had, .bool x.has, .slice ao x.old.length co, .slice an x.new.length cn] 68) = W:=⟨_,rfl⟩
 have hb:Below w.heap.size w W:=by rw [← hW];exact (Below.refl _ _).alloc (nl_ _) _
 have hnew:W.heap[w.heap.size]? = some (.cells #[.slice ap x.p.length cp, .bool x.had, .bool x.has, .slice ao x.old.length co, .slice an x.new.length cn] 68 (0,0)):=by rw [← hW];exact heap_alloc_new _ _
 have c0:=cg_ hnew (k:=0) rfl
 have c3:=cg_ hnew (k:=3) rfl
 have c4:=cg_ hnew (k:=4) rfl
 have HB:=hid hb
 have HP:=hid (hp.agree (Ag_b hb hS))
 have HSW:=hid (show ∀ b,S b→b < W.heap.size from fun b h=>Nat.lt_of_lt_of_le (hS b h) hb.size)
 have HW:=hid hW
 clear hp hS hb hnew hW
 by_cases h1:8 < x.p.length
 · have h1':(8:Int) < (x.p.length:Int):=by omega
   go_enter Tryz.func143,Tryz.ntmps143
   go_wp2_with (rw [HW.out])
   go_ret
   exact ⟨by simp [wideC,h1],HB.out⟩
 have h1':¬ (8:Int) < (x.p.length:Int):=by omega
 by_cases h2:8 < x.old.length
 · have h2':(8:Int) < (x.old.length:Int):=by omega
   go_enter Tryz.func143,Tryz.ntmps143
   go_wp2_with (rw [HW.out])
   go_ret
   exact ⟨by simp [wideC,h2],HB.out⟩
 have h2':¬ (8:Int) < (x.old.length:Int):=by omega
 by_cases h3:8 < x.new.length
 · have h3':(8:Int) < (x.new.length:Int):=by omega
   go_enter Tryz.func143,Tryz.ntmps143
   go_wp2_with (rw [HW.out])
   go_ret
   exact ⟨by simp [wideC,h3],HB.out⟩
 have h3':¬ (8:Int) < (x.new.length:Int):=by omega
 have CP:=hid (wideP enters144 wide144 x.p ap cp S W HP.out HSW.out (by omega))
 have hw:wideC x = x.p.any wideK:=by simp [wideC,h1,h2,h3]
 have HWC:=hid hw
 clear hw h1 h2 h3
 go_enter Tryz.func143,Tryz.ntmps143
 go_wp2_with (rw [HW.out])
 refine CP.out.mono ?_
 rintro e w1 ⟨rfl,hb1⟩
 go_wp2_with fail
 go_ret
 exact ⟨by rw [HWC.out];rfl,HB.out.trans (hb1.mono HB.out.size)⟩
def wildB (l:List Ch):Bool:=decide (130 < l.length) || l.any wideC
theorem wild_any (l:List Ch) (al:Option Addr) (cl:Nat) (S:Nat→Prop) (w:World) (hv:ChSl S w (.slice al l.length cl) l) (hS:∀ b,S b→b < w.heap.size) :
 Calls Tryz.prog 63 #[.slice al l.length cl] w fun e w'=>e = .returned (.bool (wildB l))∧Below w.heap.size w w':=by
 by_cases h1:130 < l.length
 · have h1':(130:Int) < (l.length:Int):=by omega
   clear hv hS
   go_enter Tryz.func63,Tryz.ntmps63
   go_wp2_with fail
   go_ret
   exact ⟨by simp [wildB,h1],Below.refl _ _⟩
 · have h1':¬ (130:Int) < (l.length:Int):=by omega
   have CC:=hid (show Calls Tryz.prog 142 #[.slice al l.length cl, .func (.func 143) #[] #[]] w fun e w'=>e = .returned (.bool (l.any wideC))∧Below w.heap.size w w' from by
    obtain ⟨ds,e1,e2⟩:=hv
    have h:=cont_chg 143 enters143 (fun i=>(l.map wideC).getD i false) [] l.length al cl ds S w e1 hS (by omega) (fun i hi W hW=>by
     obtain ⟨ap,cp,ao,co,an,cn,he,hp,_,_⟩:=chg_elem e2 hi
     have hg:(l.map wideC).getD i false = wideC l[i]:=by simp [List.getD_eq_getElem?_getD,hi]
     rw [he,hg]
     exact wide143 l[i] ap ao an cp co cn S W (hp.agree (Ag_b hW hS)) (fun b hb=>Nat.lt_of_lt_of_le (hS b hb) hW.size))
    refine h.mono ?_
    rintro e w' ⟨rfl,hb⟩
    exact ⟨by rw [anyN_list wideC _ l (fun i hi=>by simp [List.getD_eq_getElem?_getD,hi])],hb⟩)
   clear hv hS
   go_enter Tryz.func63,Tryz.ntmps63
   go_wp2_with fail
   refine CC.out.mono ?_
   rintro e w1 ⟨rfl,hb1⟩
   go_wp2_with fail
   go_ret
   exact ⟨by simp [wildB,h1],hb1⟩
theorem wild_no {l:List Ch} (h:wildB l = false):l.length ≤ 130∧∀ x ∈ l,x.p.length ≤ 8∧x.old.length ≤ 8∧x.new.length ≤ 8∧∀ k ∈ x.p,k.n.length ≤ 20:=by
 simp only [wildB,Bool.or_eq_false_iff,decide_eq_false_iff_not,List.any_eq_false] at h
 refine ⟨by omega,fun x hx=>?_⟩
 have h2:=h.2 x hx
 simp only [wideC,Bool.or_eq_true,decide_eq_true_eq,List.any_eq_true,not_or,not_exists,not_and,wideK] at h2
 exact ⟨by omega,by omega,by omega,fun k hk=>by have:=h2.2 k hk;omega⟩
end Go.Proofs.LF
