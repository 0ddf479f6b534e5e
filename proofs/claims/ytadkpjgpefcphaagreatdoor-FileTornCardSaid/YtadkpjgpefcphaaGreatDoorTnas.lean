/- Parts of the proof of a law of layer 11 (file): LfW34, LfFl, LfW44, LfW45, LfGen, LfW46, LfW85. The conditions stand in each theorem. -/
import Derived.Test.YtadkpjgpefcphaaGreatDoorProg
import Derived.Test.YtadkpjgpefcphaaGreatDoorTnac
import Derived.Test.YtadkpjgpefcphaaGreatDoorTnae
import Derived.Test.YtadkpjgpefcphaaGreatDoorTnag
import Derived.Test.YtadkpjgpefcphaaGreatDoorTnak
import Derived.Test.YtadkpjgpefcphaaGreatDoorTnal
import Derived.Test.YtadkpjgpefcphaaGreatDoorTnam
import Derived.Test.YtadkpjgpefcphaaGreatDoorTnar
set_option linter.all false
set_option linter.unusedVariables false
set_option linter.unusedSimpArgs false
namespace Go.Proofs.LF
open Go.RowKit Go.Sort
set_option maxHeartbeats 4000000
set_option maxRecDepth 100000
attribute [local go_sem] bs_toList bs_size bs_get
theorem kyOf_ok {n:List UInt8} {l:List Int} (h1:badNm n = false) (h2:badNs l = false):OkK (kyOf n l):=by
 have h8:=badNm_len h1
 cases l with
 | nil=>exact ⟨by simp [kyOf];omega,by simp [kyOf],by simp [kyOf]⟩
 | cons x l=>
   have:=badNs_mem h2 x (by simp)
   exact ⟨by simp [kyOf];omega,by simp [kyOf];omega,by simp [kyOf];omega⟩
theorem nodes_okK:∀ (y:Fo) (up:List Ky),(∀ k ∈ up,OkK k)→(∀ x ∈ nodesL up y,OkN x)→∀ x ∈ nodesL up y,(∀ k ∈ x.up,OkK k)∧OkK (kyOf x.n x.l)
 | .nil,_,_,_,x,hx=>by simp [nodesL] at hx
 | .cons n l s r,up,hu,hn,x,hx=>by
   simp only [nodesL,List.mem_cons,List.mem_append] at hx hn
   have h0:=hn ⟨up,n,l,s⟩ (.inl rfl)
   have hk:=kyOf_ok (n:=n) (l:=l) h0.1 h0.2.2
   rcases hx with rfl | hx | hx
   · exact ⟨hu,hk⟩
   · refine nodes_okK s _ (fun k hk'=>?_) (fun z hz=>hn z (.inr (.inl hz))) x hx
     rcases List.mem_append.1 hk' with h | h
     · exact hu k h
     · simp only [List.mem_singleton] at h;rw [h];exact hk
   · exact nodes_okK r up hu (fun z hz=>hn z (.inr (.inr hz))) x hx
theorem chk_cnt {y:Fo} (h:chkY y = 0):y.cnt ≤ 60:=by
 unfold chkY at h
 split at h
 · assumption
 · omega
theorem chk_ord {y:Fo} (h:chkY y = 0):ordG geK 0 none y = 0:=by
 unfold chkY at h
 split at h
 · exact h
 · omega
theorem fls_ok {y:Fo} (h:chkY y = 0):SmF (flsL [] y)∧(∀ x ∈ flsL [] y,x.p.length ≤ 1000∧∀ k ∈ x.p,OkK k)∧(flsL [] y).length ≤ 60:=by
 have hn:=ordG_ok y _ _ [] (chk_ord h)
 have hk:=nodes_okK y [] (by simp) hn
 have hc:=chk_cnt h
 have key:∀ x ∈ flsL [] y,x.p.length ≤ 1000∧x.l.length ≤ 1000∧∀ k ∈ x.p,OkK k:=by
  intro x hx
  simp only [flsL,List.mem_map] at hx
  obtain ⟨z,hz,rfl⟩:=hx
  have h1:=nodesL_up y [] z hz
  have h2:=(hn z hz).2.1
  refine ⟨by simp at h1 ⊢;omega,by simp only;omega,fun k hk'=>?_⟩
  rcases List.mem_append.1 hk' with h | h
  · exact (hk z hz).1 k h
  · simp only [List.mem_singleton] at h;rw [h];exact (hk z hz).2
 exact ⟨fun x hx=>⟨(key x hx).1,(key x hx).2.1,fun k hk'=>((key x hx).2.2 k hk').1⟩,fun x hx=>⟨(key x hx).1,(key x hx).2.2⟩,by rw [flsL_length];exact hc⟩
theorem ddP_mem {p:List Ky}:∀ {r acc:List (List Ky)},p ∈ ddP acc r→p ∈ acc ∨ p ∈ r
 | [],_,h => .inl h
 | q :: r,acc,h=>by
   simp only [ddP] at h
   split at h
   · rcases ddP_mem h with h | h
     · exact .inl h
     · exact .inr (by simp [h])
   · rcases ddP_mem h with h | h
     · rcases List.mem_append.1 h with h | h
       · exact .inl h
       · simp only [List.mem_singleton] at h;exact .inr (by simp [h])
     · exact .inr (by simp [h])
theorem pths_mem {ls:List (List Fl)} {p:List Ky} (h:p ∈ pthsF ls):∃ x ∈ ls.flatten,x.p = p:=by
 have h1:=(srtP_perm _).mem_iff.1 h
 rcases ddP_mem h1 with h2 | h2
 · cases h2
 · obtain ⟨z,hz,e⟩:=List.mem_map.1 h2;exact ⟨z,hz,e⟩
theorem ddP_len:∀ {r acc:List (List Ky)},(ddP acc r).length ≤ acc.length + r.length
 | [],_=>by simp [ddP]
 | q :: r,acc=>by
   simp only [ddP]
   split
   · have:=ddP_len (r:=r) (acc:=acc);simp only [List.length_cons];omega
   · have:=ddP_len (r:=r) (acc:=acc ++ [q]);simp only [List.length_append,List.length_cons,List.length_nil] at this ⊢;omega
theorem pths_len {ls:List (List Fl)}:(pthsF ls).length ≤ ls.flatten.length:=by
 have h1:=(srtP_perm (ddP [] (ls.flatten.map Fl.p))).length_eq
 have h2:=ddP_len (r:=ls.flatten.map Fl.p) (acc:=[])
 simp only [List.length_map,List.length_nil,Nat.zero_add] at h2
 unfold pthsF
 omega
theorem Tryz.info68':(Tryz.prog.info? 68).map (fun i=>(i.zero,i.size,i.bytes)) = some (some (.agg #[.slice none 0 0, .bool false, .bool false, .slice none 0 0, .slice none 0 0]),5,80):=by kernel_rfl
def difE (x y:Fo):Int:=if chkY x ≠ 0 then chkY x else chkY y
def difL (x y:Fo):List Ch:=if difE x y = 0 then dfF (flsL [] x) (flsL [] y) else []
theorem Diff_u (x y:Fo) (ax ay:Option Addr) (cx cy:Nat) (S:Nat→Prop) (w:World) (hx:FSl S w (.slice ax x.len cx) x) (hy:FSl S w (.slice ay y.len cy) y) (hS:∀ b,S b→b < w.heap.size)
 (lx:x.len ≤ 1000) (ly:y.len ≤ 1000) (sx:x.Sm) (sy:y.Sm) (nx:x.cnt ≤ 900) (ny:y.cnt ≤ 900) (ht:Pow w) :
 Calls Tryz.prog 41 #[.slice ax x.len cx, .slice ay y.len cy] w fun e w'=>∃ a c,e = .returned (.tuple #[.slice a (difL x y).length c, .int .i64 (difE x y)])∧ChSl (US (Rg w.heap.size w'.heap.size) w') w' (.slice a (difL x y).length c) (difL x y)∧Below w.heap.size w w':=by
 obtain ⟨i0,hi0,hz0,hz1,hz2⟩:=info_parts Tryz.info68'
 have HX:=hid hx
 have HY:=hid hy
 have HS:=hid hS
 have HT:=hid ht
 have HSX:=hid sx
 have HSY:=hid sy
 have hb1:Below w.heap.size w (w.alloc (.cells #[.slice ax x.len cx, .slice ay y.len cy] 22)):=(Below.refl _ _).alloc (nl_ _) _
 have HB1:=hid hb1
 clear hx hy hS ht sx sy hb1
 go_enter Tryz.func41,Tryz.ntmps41
 go_upto_block 0 with fail
 go_cut [] from 6 (fun wx=>chkY x = 0∧chkY y = 0∧Below w.heap.size w wx)
 case first=>
  go_wp2_with fail
  go_loopw [22] (fun i wr=>∃ k:Nat,k ≤ 2∧i = .int .i64 k∧(0 < k→chkY x = 0)∧(1 < k→chkY y = 0)∧Below (w.heap.size + 1) (w.alloc (.cells #[.slice ax x.len cx, .slice ay y.len cy] 22)) wr) (fun i _=>2 - (intOf i).toNat)
  case atStart=>exact ⟨0,by omega,rfl,by omega,by omega,Below.refl _ _⟩
  case round=>
   obtain ⟨k,hk,rfl,h1,h2,hB⟩:=hrel
   have hwr:=(hB.block w.heap.size (by omega)).trans (heap_alloc_new _ _)
   have q0:=cg_ hwr (k:=0) rfl
   have q1:=cg_ hwr (k:=1) rfl
   have hBw:Below w.heap.size w wr:=HB1.out.trans (hB.mono (by omega))
   have hsz:=hBw.size
   have hag:Agree S w wr:=Ag_b hBw HS.out
   have hSr:∀ b,S b→b < wr.heap.size:=fun b hb=>by have:=HS.out b hb;omega
   have CX:=hid (Check_any x ax cx S wr (HX.out.agree hag) hSr lx HSX.out nx)
   have CY:=hid (Check_any y ay cy S wr (HY.out.agree hag) hSr ly HSY.out ny)
   have HBW:=hid hBw
   have hzb:=hB.size
   simp only [World.size_alloc] at hzb
   clear hwr hag hSr hBw
   obtain rfl | rfl | rfl:k = 0 ∨ k = 1 ∨ k = 2:=by omega
   · go_wp2_with fail
     refine CX.out.mono ?_
     rintro e w2 ⟨rfl,hb2⟩
     by_cases he:chkY x = 0
     · have he':(chkY x != 0) = false:=by simpa using he
       have HE:=hid he
       clear he
       go_wp2_with fail
       go_roundw
       case rel=>exact ⟨1,by omega,rfl,fun _=>HE.out,fun h=>by omega,hB.trans (hb2.mono (by omega))⟩
       case measure=>simp [intOf]
     · have he':(chkY x != 0) = true:=by simpa using he
       have HE:=hid he
       clear he
       go_wp2_with fail
       have hd:difE x y = chkY x:=by rw [difE,if_pos HE.out]
       have hl:difL x y = []:=by rw [difL,hd,if_neg HE.out]
       refine bodyPost_ret (v := .tuple #[.slice none 0 0, .int .i64 (chkY x)]) (by simp [results,Tryz.results41,go_sem]) rfl ?_
       rw [hl,hd]
       exact ⟨none,0,rfl,⟨[],⟨rfl,none,0,rfl,nl_ _,by simp [maxLen],fun _=>rfl, .inl rfl⟩,rfl⟩,HBW.out.trans (hb2.mono hsz)⟩
   · have h1x:=h1 (by omega)
     have H1X:=hid h1x
     clear h1x h1
     go_wp2_with fail
     refine CY.out.mono ?_
     rintro e w2 ⟨rfl,hb2⟩
     by_cases he:chkY y = 0
     · have he':(chkY y != 0) = false:=by simpa using he
       have HE:=hid he
       clear he
       go_wp2_with fail
       go_roundw
       case rel=>exact ⟨2,by omega,rfl,fun _=>H1X.out,fun _=>HE.out,hB.trans (hb2.mono (by omega))⟩
       case measure=>simp [intOf]
     · have he':(chkY y != 0) = true:=by simpa using he
       have HE:=hid he
       clear he
       go_wp2_with fail
       have hd:difE x y = chkY y:=by rw [difE,if_neg (by simpa using H1X.out)]
       have hl:difL x y = []:=by rw [difL,hd,if_neg HE.out]
       refine bodyPost_ret (v := .tuple #[.slice none 0 0, .int .i64 (chkY y)]) (by simp [results,Tryz.results41,go_sem]) rfl ?_
       rw [hl,hd]
       exact ⟨none,0,rfl,⟨[],⟨rfl,none,0,rfl,nl_ _,by simp [maxLen],fun _=>rfl, .inl rfl⟩,rfl⟩,HBW.out.trans (hb2.mono hsz)⟩
   · have H1X:=hid (h1 (by omega))
     have H2X:=hid (h2 (by omega))
     clear h1 h2
     go_wp2_with fail
     go_meet
     case rel=>exact ⟨H1X.out,H2X.out,HBW.out⟩
 case rest=>
  obtain ⟨h1,h2,hB⟩:=hcut
  have H1:=hid h1
  have H2:=hid h2
  have hsz:=hB.size
  have hag:Agree S w wc:=Ag_b hB HS.out
  have HBc:=hid hB
  have fx:=fls_ok h1
  have fy:=fls_ok h2
  have FX:=hid fx
  have FY:=hid fy
  obtain ⟨fa,hfa⟩:∃ fa,flsL [] x = fa:=⟨_,rfl⟩
  obtain ⟨fb,hfb⟩:∃ fb,flsL [] y = fb:=⟨_,rfl⟩
  have hd:difE x y = 0:=by rw [difE,if_neg (by simpa using h1),h2]
  have hl:difL x y = dfF fa fb:=by rw [difL,hd,if_pos rfl,hfa,hfb]
  have HL:=hid hl
  have HD:=hid hd
  have hflx:=flats_any x ax cx S wc (HX.out.agree hag) (fun b hb=>by have:=HS.out b hb;omega) lx HSX.out nx
  rw [hfa] at hflx
  have HFX:=hid hflx
  clear h1 h2 fx fy hd hl hflx hB hag
  go_wp2_with fail
  refine HFX.out.mono ?_
  rintro e w1 ⟨a1,c1,rfl,hF1,hb1⟩
  have hB1:=HBc.out.trans (hb1.mono hsz)
  have hag1:Agree S w w1:=Ag_b hB1 HS.out
  have hz1':=hB1.size
  have hzc1:=hb1.size
  have hfly:=flats_any y ay cy S w1 (HY.out.agree hag1) (fun b hb=>by have:=HS.out b hb;omega) ly HSY.out ny
  rw [hfb] at hfly
  have HFY:=hid hfly
  have HF1:=hid hF1
  have HB1':=hid hB1
  clear hfly hF1 hB1 hag1 hb1
  go_wp2_with fail
  refine HFY.out.mono ?_
  rintro e w2 ⟨a2,c2,rfl,hF2,hb2⟩
  have hz2':=hb2.size
  go_wp2_with fail
  have hb2':Below w.heap.size w w2:=HB1'.out.trans (hb2.mono hz1')
  have hbA:Below w.heap.size w (w2.alloc (.cells #[.slice a1 fa.length c1, .slice a2 fb.length c2] 167)):=hb2'.alloc (by omega) _
  have hbA2:Below w2.heap.size w2 (w2.alloc (.cells #[.slice a1 fa.length c1, .slice a2 fb.length c2] 167)):=(Below.refl _ _).alloc (nl_ _) _
  have hblk:=heap_alloc_new w2 (.cells #[.slice a1 fa.length c1, .slice a2 fb.length c2] 167)
  have hFA:FlSl (Rg wc.heap.size w2.heap.size) (w2.alloc (.cells #[.slice a1 fa.length c1, .slice a2 fb.length c2] 167)) (.slice a1 fa.length c1) fa:=
   LSl.wide ((LSl.agree HF1.out (Ag_b hb2 fun b hb=>hb.2)).agree (Ag_b hbA2 fun b hb=>by have:=hb.2;omega)) fun b hb=>⟨hb.1,by have:=hb.2;omega⟩
  have hFB:FlSl (Rg wc.heap.size w2.heap.size) (w2.alloc (.cells #[.slice a1 fa.length c1, .slice a2 fb.length c2] 167)) (.slice a2 fb.length c2) fb:=
   LSl.wide (hF2.agree (Ag_b hbA2 fun b hb=>hb.2)) fun b hb=>⟨by have:=hb.1;omega,hb.2⟩
  have hLS:LSl rdLs (fun b=>b = w2.heap.size ∨ Rg wc.heap.size w2.heap.size b) (w2.alloc (.cells #[.slice a1 fa.length c1, .slice a2 fb.length c2] 167)) (.slice (some ⟨w2.heap.size,0,none⟩) [fa,fb].length 2) [fa,fb]:=by
   refine ⟨[.slice a1 fa.length c1, .slice a2 fb.length c2],⟨rfl,_,2,rfl,by simp,by simp [maxLen],(fun h=>by cases h), .inr ⟨_,0,rfl, .inl rfl,fun j u hj=>?_⟩⟩,_,_,rfl,⟨a1,c1,rfl,hFA.wide fun b hb => .inr hb⟩,_,_,rfl,⟨a2,c2,rfl,hFB.wide fun b hb => .inr hb⟩,rfl⟩
   have:=cg_ hblk (k:=j) (v:=u) (by simpa using hj)
   simpa using this
  have hfx:=FX.out
  have hfy:=FY.out
  rw [hfa] at hfx
  rw [hfb] at hfy
  have hlA:fa.length ≤ 60:=hfx.2.2
  have hlB:fb.length ≤ 60:=hfy.2.2
  have hpth:=paths_any [fa,fb] (some ⟨w2.heap.size,0,none⟩) 2 _ _ hLS (fun b hb=>by rcases hb with rfl | hb;simp;have:=hb.2;simp;omega) (by simp) (by simp;omega) (fun z hz=>by
   simp only [List.flatten_cons,List.flatten_nil,List.append_nil,List.mem_append] at hz
   rcases hz with hz | hz
   · exact hfx.2.1 z hz
   · exact hfy.2.1 z hz) (HT.out.below hbA)
  have HPT:=hid hpth
  have HFA:=hid hFA
  have HFB:=hid hFB
  have HBA:=hid hbA
  have SFA:=hid hfx.1
  have SFB:=hid hfy.1
  have OKA:=hid hfx.2.1
  have OKB:=hid hfy.2.1
  clear hpth hLS hFA hFB hblk hbA hbA2 hfx hfy hF2 hb2 hb2'
  refine HPT.out.mono ?_
  rintro e w3 ⟨a3,c3,rfl,hP3,hb3⟩
  obtain ⟨ps,hps⟩:∃ ps,pthsF [fa,fb] = ps:=⟨_,rfl⟩
  rw [hps] at hP3 ⊢
  have hz3:=hb3.size
  simp only [World.size_alloc] at hz3
  have hpl:ps.length ≤ 120:=by
   have:=pths_len (ls:=[fa,fb])
   rw [hps] at this
   simp at this;omega
  have hpm:∀ p ∈ ps,p.length ≤ 1000∧∀ k ∈ p,OkK k:=by
   intro p hp
   rw [← hps] at hp
   obtain ⟨z,hz,rfl⟩:=pths_mem hp
   simp only [List.flatten_cons,List.flatten_nil,List.append_nil,List.mem_append] at hz
   rcases hz with hz | hz
   · exact OKA.out z hz
   · exact OKB.out z hz
  have hda:dfF fa fb = ps.filterMap (chD fa fb):=by rw [dfF,hps]
  have HDA:=hid hda
  have HPM:=hid hpm
  have HFA3:=hid (HFA.out.agree (Ag_b hb3 fun b hb=>by have:=hb.2;simp;omega))
  have HFB3:=hid (HFB.out.agree (Ag_b hb3 fun b hb=>by have:=hb.2;simp;omega))
  have HB3:=hid (HBA.out.trans (hb3.mono (by have:=HBA.out.size;simpa using this)))
  obtain ⟨S3,hSE⟩:∃ S3:Nat→Prop,S3 = fun b=>(b = w2.heap.size ∨ Rg wc.heap.size w2.heap.size b) ∨ Rg (w2.alloc (.cells #[.slice a1 fa.length c1, .slice a2 fb.length c2] 167)).heap.size w3.heap.size b:=⟨_,rfl⟩
  rw [← hSE] at hP3
  obtain ⟨a',c',he,hc,hcm,hat⟩:=hP3.at
  obtain ⟨rfl,rfl⟩:a3 = a'∧c3 = c':=by cases he;exact ⟨rfl,rfl⟩
  have HAT:=hid hat
  unfold maxLen at hcm
  have hS3:∀ b,S3 b→b < w3.heap.size:=fun b hb=>by
   rw [hSE] at hb
   rcases hb with (rfl | hb) | hb
   · omega
   · have:=hb.2;omega
   · exact hb.2
  have HS3:=hid hS3
  clear hda hpm hps hb3 hP3 he hat hS3 hfa hfb hSE
  go_wp2_with fail
  go_loopw [9,41] (fun v i wr=>∃ (k:Nat) (cs:List Value),k ≤ ps.length∧i = .int .i64 k∧wr.ownsRow w3.heap.size 68 5 v ((ps.take k).filterMap (chD fa fb)).length cs∧Hid (LCs rdChU (Rx w3.heap.size wr.heap.size v) wr ((ps.take k).filterMap (chD fa fb)) cs)∧Hid (Below w3.heap.size w3 wr)) (fun _ i _=>ps.length - (intOf i).toNat)
  case atStart=>exact ⟨0,[],by omega,rfl,World.ownsRow_nil _ _ _ _,rfl,Below.refl _ _⟩
  case round=>
   obtain ⟨k,cs,hk,rfl,hown,hlc,hB⟩:=hrel
   have hzr:=hB.out.size
   by_cases hlt:k < ps.length
   · have hlt':(k:Int) < (ps.length:Int):=by omega
     obtain ⟨g,o,cs1,rfl,hg,⟨ap,cp,rfl,hP⟩,hcell⟩:=HAT.out k hlt
     have c0:=(Ag_b hB.out HS3.out).cell hg (hcell 0 _ rfl)
     rw [Nat.mul_one,Nat.add_zero] at c0
     have hpk:=HPM.out ps[k] (List.getElem_mem hlt)
     have htk:ps.take (k + 1) = ps.take k ++ [ps[k]]:=List.take_succ_eq_append_getElem hlt
     obtain ⟨p,hp⟩:∃ p,ps[k] = p:=⟨_,rfl⟩
     rw [hp] at c0 hP hpk htk
     have hll:((ps.take k).filterMap (chD fa fb)).length ≤ 120:=Nat.le_trans (List.length_filterMap_le _ _) (by rw [List.length_take];omega)
     have hFAr:=(LSl.agree HFA3.out (Ag_b hB.out fun b hb=>by have:=hb.2;omega))
     have hFBr:=(LSl.agree HFB3.out (Ag_b hB.out fun b hb=>by have:=hb.2;omega))
     have hPr:=hP.agree (Ag_b hB.out HS3.out)
     have hsm:=same_any fa fb p a1 a2 ap c1 c2 cp _ _ S3 wr hFAr (fun b hb=>by have:=hb.2;omega) hFBr (fun b hb=>by have:=hb.2;omega) hPr (fun b hb=>by have:=HS3.out b hb;omega) (by omega) (by omega) SFA.out SFB.out hpk.1
     have HSM:=hid hsm
     have HP3:=hid hP
     have HTK:=hid htk
     have HPK:=hid hpk
     clear hcell hP htk hpk hFAr hFBr hPr hsm hp
     go_wp2_with fail
     refine HSM.out.mono ?_
     rintro e w4 ⟨rfl,hb4⟩
     have hz4:=hb4.size
     have hB4:=hB.out.trans (hb4.mono hzr)
     have HB4:=hid hB4
     have how4:=ob_ hown hb4 (nl_ _)
     have hlc4:Hid (LCs rdChU (Rx w3.heap.size w4.heap.size u9) w4 ((ps.take k).filterMap (chD fa fb)) cs):=(hlc.out.agree (fun b hb=>hb4.block b hb.2.1)).wide fun b hb=>⟨hb.1,by have:=hb.2.1;omega,hb.2.2⟩
     clear hB4 hb4
     by_cases hse:smF fa fb p = true
     · have hch:chD fa fb p = none:=by rw [chD,if_pos hse]
       have hfm:(ps.take (k + 1)).filterMap (chD fa fb) = (ps.take k).filterMap (chD fa fb):=by rw [HTK.out,List.filterMap_append];simp [hch]
       have HFM:=hid hfm
       clear hch hfm
       go_wp2_with fail
       go_roundw
       case rel=>exact ⟨k + 1,cs,by omega,by go_num,by rw [HFM.out];exact how4,by rw [HFM.out];exact hlc4,HB4.out⟩
       case measure=>simp [intOf];omega
     · have hse':smF fa fb p = false:=by simpa using hse
       clear hse
       have hFA4:=(LSl.agree HFA3.out (Ag_b HB4.out fun b hb=>by have:=hb.2;omega))
       have hFB4:=(LSl.agree HFB3.out (Ag_b HB4.out fun b hb=>by have:=hb.2;omega))
       have hP4:=HP3.out.agree (Ag_b HB4.out HS3.out)
       have HF4:=hid (find_any fa p a1 ap c1 cp _ S3 w4 hFA4 (fun b hb=>by have:=hb.2;omega) hP4 (fun b hb=>by have:=HS3.out b hb;omega) (by omega) SFA.out HPK.out.1)
       have hlA2:=(fnd_len (p:=p) SFA.out).2
       have hlB2:=(fnd_len (p:=p) SFB.out).2
       have hchd:chD fa fb p = some ⟨p,(fnd fa p).isSome,(fnd fb p).isSome,((fnd fa p).getD fl0).l,((fnd fb p).getD fl0).l⟩:=by rw [chD,if_neg (by rw [hse'];simp)]
       have HCHD:=hid hchd
       have HFB4:=hid hFB4
       have HP4:=hid hP4
       clear hFA4 hFB4 hP4 hchd
       go_wp2_with fail
       refine HF4.out.mono ?_
       rintro e w5 ⟨ap5,cp5,an5,cn5,rfl,hp5,hi5,hb5⟩
       obtain ⟨xA,hxA⟩:∃ x,(fnd fa p).getD fl0 = x:=⟨_,rfl⟩
       obtain ⟨bA,hbA⟩:∃ x,(fnd fa p).isSome = x:=⟨_,rfl⟩
       rw [hxA] at hp5 hi5 hlA2 ⊢
       rw [hbA]
       have hch2:=HCHD.out
       rw [hxA,hbA] at hch2
       have HCH2:=hid hch2
       have hz5:=hb5.size
       have HB5:=hid ((HB4.out.trans (hb5.mono (by omega))).alloc (by omega) (.cells #[.slice ap5 xA.p.length cp5, .slice an5 xA.l.length cn5] 171))
       have hb5a:Below w4.heap.size w4 (w5.alloc (.cells #[.slice ap5 xA.p.length cp5, .slice an5 xA.l.length cn5] 171)):=hb5.alloc hz5 _
       have HF5:=hid (find_any fb p a2 ap c2 cp _ S3 _ (LSl.agree HFB4.out (Ag_b hb5a fun b hb=>by have:=hb.2;omega)) (fun b hb=>by have:=hb.2;simp;omega) (HP4.out.agree (Ag_b hb5a fun b hb=>by have:=HS3.out b hb;omega)) (fun b hb=>by have:=HS3.out b hb;simp;omega) (by omega) SFB.out HPK.out.1)
       have HP5:=hid (HP4.out.agree (Ag_b hb5a fun b hb=>by have:=HS3.out b hb;omega))
       have HI5:=hid (hi5.agree (Ag_b (B:=w5.heap.size) (w':=w5.alloc (.cells #[.slice ap5 xA.p.length cp5, .slice an5 xA.l.length cn5] 171)) ((Below.refl _ _).alloc (nl_ _) _) (fun b hb=>by have:=hb.2;omega)))
       have HK5:=hid (heap_alloc_new w5 (.cells #[.slice ap5 xA.p.length cp5, .slice an5 xA.l.length cn5] 171))
       have how5:=ob_ how4 hb5a (nl_ _)
       have HLC5:Hid (LCs rdChU (Rx w3.heap.size w4.heap.size u9) (w5.alloc (.cells #[.slice ap5 xA.p.length cp5, .slice an5 xA.l.length cn5] 171)) ((ps.take k).filterMap (chD fa fb)) cs):=hlc4.out.agree (fun b hb=>hb5a.block b hb.2.1)
       have HB5A:=hid hb5a
       clear hxA hbA hch2 hp5 hi5 hb5 hb5a HCHD
       go_wp2_with fail
       refine HF5.out.mono ?_
       rintro e w6 ⟨ap6,cp6,an6,cn6,rfl,hp6,hi6,hb6⟩
       obtain ⟨xB,hxB⟩:∃ x,(fnd fb p).getD fl0 = x:=⟨_,rfl⟩
       obtain ⟨bB,hbB⟩:∃ x,(fnd fb p).isSome = x:=⟨_,rfl⟩
       rw [hxB] at hp6 hi6 hlB2 ⊢
       rw [hbB]
       have hch2:=HCH2.out
       rw [hxB,hbB] at hch2
       have HCH3:=hid hch2
       have hz6:=hb6.size
       simp only [World.size_alloc] at hz6
       obtain ⟨W7,hW7⟩:∃ W7,w6.alloc (.cells #[.slice ap6 xB.p.length cp6, .slice an6 xB.l.length cn6] 171) = W7:=⟨_,rfl⟩
       have hz7:W7.heap.size = w6.heap.size + 1:=by rw [← hW7];simp
       have hb57:Below (w5.heap.size + 1) (w5.alloc (.cells #[.slice ap5 xA.p.length cp5, .slice an5 xA.l.length cn5] 171)) W7:=by
        rw [← hW7];exact (hb6.mono (by simp)).alloc (by omega) _
       have hB7:Below w3.heap.size w3 W7:=HB5.out.trans (hb57.mono (by have:=HB5.out.size;simp only [World.size_alloc] at this;omega))
       have hk7a:W7.heap[w5.heap.size]? = some (.cells #[.slice ap5 xA.p.length cp5, .slice an5 xA.l.length cn5] 171 (0,0)):=(hb57.block _ (by omega)).trans HK5.out
       have hk7b:W7.heap[w6.heap.size]? = some (.cells #[.slice ap6 xB.p.length cp6, .slice an6 xB.l.length cn6] 171 (0,0)):=by rw [← hW7];exact heap_alloc_new _ _
       have hP7:Pth S3 W7 (.slice ap p.length cp) p:=HP5.out.agree (fun b hb=>hb57.block b (by have:=HS3.out b hb;omega))
       have hIA7:Ints (Rg wc.heap.size w2.heap.size) W7 (.slice an5 xA.l.length cn5) xA.l:=HI5.out.agree (fun b hb=>hb57.block b (by have:=hb.2;omega))
       have hIB7:Ints (Rg wc.heap.size w2.heap.size) W7 (.slice an6 xB.l.length cn6) xB.l:=hi6.agree (fun b hb=>by rw [← hW7];exact heap_alloc_old _ _ (by have:=hb.2;omega))
       have how7:W7.ownsRow w3.heap.size 68 5 u9 ((ps.take k).filterMap (chD fa fb)).length cs:=owns_agree how5 fun g hg=>hb57.block g (by have:=(how4.lt g hg).2;omega)
       have hlc7:LCs rdChU (Rx w3.heap.size W7.heap.size u9) W7 ((ps.take k).filterMap (chD fa fb)) cs:=(HLC5.out.agree (fun b hb=>hb57.block b (by have:=hb.2.1;omega))).wide fun b hb=>⟨hb.1,by have:=hb.2.1;omega,hb.2.2⟩
       have HB7:=hid hB7
       have q1:=cg_ hk7a (k:=1) rfl
       have q2:=cg_ hk7b (k:=1) rfl
       have HP7:=hid hP7
       have HIA7:=hid hIA7
       have HIB7:=hid hIB7
       have HLC7:=hid hlc7
       have HZ7:=hid hz7
       have hl57:w5.heap.size < W7.heap.size:=by omega
       have hl67:w6.heap.size < W7.heap.size:=by omega
       have hl27:w2.heap.size < W7.heap.size:=by omega
       have hl37:w3.heap.size ≤ W7.heap.size:=by omega
       clear hxB hbB hch2 hp6 hi6 hb6 hb57 hB7 hk7a hk7b hP7 hIA7 hIB7 hlc7 hz7 HCH2 how4 how5
       go_wp2_with fail
       clear hW7
       have hne5:u9.ownBlock ≠ some w5.heap.size:=fun e=>by have:=(hown.lt _ e).2;omega
       have hne6:u9.ownBlock ≠ some w6.heap.size:=fun e=>by have:=(hown.lt _ e).2;omega
       go_region_held3 (fun w'=>w'.cell? ⟨w5.heap.size,1,none⟩ = some (.slice an5 xA.l.length cn5)∧w'.cell? ⟨w6.heap.size,1,none⟩ = some (.slice an6 xB.l.length cn6))
        (first
          | (go_split_ands
             with_reducible refine ⟨bc_ hb8 ?_ ?_,bc_ hb8 ?_ ?_⟩
             all_goals (first | (with_reducible assumption) | (simp;omega)))
          | (go_split_ands
             with_reducible refine ⟨bc_ hb9 ?_ ?_,bc_ hb9 ?_ ?_⟩
             all_goals (first | (with_reducible assumption) | (have:=hb8.size;simp at this;omega)))
          | (go_split_ands
             with_reducible refine ⟨bc_ hb10 ?_ ?_,bc_ hb10 ?_ ?_⟩
             all_goals (first | (with_reducible assumption) | (have:=hb8.size;have:=hb9.size;simp at *;omega)))
          | (go_split_ands
             exact ⟨grown_cell hgrow11 hne5 (by with_reducible assumption),grown_cell hgrow11 hne6 (by with_reducible assumption)⟩)
          | go_keep)
        (first
          | (go_at_call 117; refine (cloneK_u p ap cp S3 _ (Pth.agree HP7.out (Ag_b (B := W7.heap.size) ((Below.refl _ _).drew) (fun b hb => by have := HS3.out b hb; omega))) (fun b hb => by have := HS3.out b hb; simp; omega) HPK.out.1).mono ?_
             rintro e w8 ⟨a8,c8,rfl,hp8,hb8⟩
             have hb8':Hid (Below W7.heap.size W7 w8):=⟨hb8.os,hb8.tape,hb8.output,hb8.size,hb8.block⟩)
          | (go_at_call 127; refine (cloneI_u xA.l an5 cn5 (Rg wc.heap.size w2.heap.size) w8 (HIA7.out.agree (Ag_b hb8'.out (fun b hb => by have := hb.2; omega))) hlA2).mono ?_
             rintro e w9 ⟨a9,c9,rfl,hi9,hb9⟩)
          | (go_at_call 127; refine (cloneI_u xB.l an6 cn6 (Rg wc.heap.size w2.heap.size) w9 (HIB7.out.agree ((Ag_b hb8'.out (fun b hb => by have := hb.2; omega)).trans (Ag_b hb9 (fun b hb => by have := hb.2; have := hb8'.out.size; omega)))) hlB2).mono ?_
             rintro e w10 ⟨a10,c10,rfl,hi10,hb10⟩
             have hz10:W7.heap.size ≤ w8.heap.size∧w8.heap.size ≤ w9.heap.size∧w9.heap.size ≤ w10.heap.size:=⟨hb8'.out.size,hb9.size,hb10.size⟩
             have how10:Hid (w10.ownsRow w3.heap.size 68 5 u9 ((ps.take k).filterMap (chD fa fb)).length cs):=ob_ (ob_ (ob_ how7 hb8'.out (nl_ _)) hb9 (nl_ _)) hb10 (nl_ _))
          | (refine step_append_ao _ rfl _ _ _ rfl w3.heap.size 68 i0 _ 5 80 Tryz.underlying62 hi0 hz0 hz1 hz2 rfl (by omega) u9 ((ps.take k).filterMap (chD fa fb)).length cs rfl (how10.out.alloc _) (some ⟨w10.heap.size, 0, none⟩) 1 1 [.slice a8 p.length c8, .bool bA, .bool bB, .slice a9 xA.l.length c9, .slice a10 xB.l.length c10] rfl rfl (fun h => by cases h) (fun ad had => by cases had; exact World.news_of_block (cs := #[.slice a8 p.length c8, .bool bA, .bool bB, .slice a9 xA.l.length c9, .slice a10 xB.l.length c10]) (t := 68) (fr := (0, 0)) (heap_alloc_new _ _)) (by simp [Value.oneCell']) (by unfold maxLen; omega) (by omega) (by simp; omega) ?_
             intro a11 c11 w11 hown11 hgrow11 hat11))
       have hfm:(ps.take (k + 1)).filterMap (chD fa fb) = (ps.take k).filterMap (chD fa fb) ++ [⟨p,bA,bB,xA.l,xB.l⟩]:=by
        rw [HTK.out,List.filterMap_append];simp [HCH3.out]
       have HFM:=hid hfm
       clear hfm
       have hb78:=hb8'.out
       have hbW:Below W7.heap.size W7 (w10.alloc (.cells #[.slice a8 p.length c8, .bool bA, .bool bB, .slice a9 xA.l.length c9, .slice a10 xB.l.length c10] 68)):=(hb78.trans ((hb9.trans (hb10.mono hb9.size)).mono hb78.size)).alloc (by omega) _
       obtain ⟨g11,cap11,he11,hg11,hlt11⟩:=hown11.form (by omega)
       cases he11
       have st:Step w3.heap.size W7 (w10.alloc (.cells #[.slice a8 p.length c8, .bool bA, .bool bB, .slice a9 xA.l.length c9, .slice a10 xB.l.length c10] 68)) w11 u9 g11:=⟨hbW,⟨hgrow11.os,hgrow11.tape,hgrow11.output,hgrow11.size,hgrow11.block⟩,hl37,fun b hb=>how7.lt b hb,hat11 g11 rfl,hlt11⟩
       have hv':(Value.slice (some ⟨g11,0,none⟩) (((ps.take k).filterMap (chD fa fb)).length + 1) c11).ownBlock = some g11:=rfl
       have n1:=st.keep (Stable.lcs _ _) hv' HLC7.out
       have n2:=st.lift (p:=W7.heap.size) (q:=w8.heap.size) (Stable.pthu _ _) hv' hp8 (nl_ _) (by simp;omega) ((hb9.trans (hb10.mono hb9.size)).alloc (by omega) _)
       have n3:=st.lift (Stable.intu _ _) hv' hi9 (by omega) (by simp;omega) (hb10.alloc (by omega) _)
       have n4:=st.lift (Stable.intu _ _) hv' hi10 (by omega) (by simp) ((Below.refl _ _).alloc (nl_ _) _)
       have n5:=st.out HB7.out
       have n6:Hid (LCs rdChU (Rx w3.heap.size w11.heap.size (.slice (some ⟨g11,0,none⟩) (((ps.take k).filterMap (chD fa fb)).length + 1) c11)) w11 ((ps.take k).filterMap (chD fa fb) ++ [⟨p,bA,bB,xA.l,xB.l⟩]) (cs ++ [.slice a8 p.length c8, .bool bA, .bool bB, .slice a9 xA.l.length c9, .slice a10 xB.l.length c10])):=
        n1.app (LCs.single ⟨a8,c8,a9,c9,a10,c10,rfl,n2,n3,n4⟩)
       clear n1 n2 n3 n4 st hbW hb78 hp8 hb8 hi9 hb9 hi10 hb10
       go_wp2_with fail
       go_roundw
       case rel=>exact ⟨k + 1,_,by omega,by go_num,by rw [HFM.out,List.length_append];exact hown11,by rw [HFM.out];exact n6,n5⟩
       case measure=>simp [intOf];omega
   · obtain rfl:k = ps.length:=by omega
     have hlt':¬ (ps.length:Int) < (ps.length:Int):=by omega
     go_wp2_with fail
     obtain ⟨a9,c9,rfl,_,_⟩:=owns_shape hown
     rw [List.take_length] at hown hlc ⊢
     refine bodyPost_ret (v := .tuple #[.slice a9 (ps.filterMap (chD fa fb)).length c9, .int .i64 0]) (by simp [results,Tryz.results41,go_sem]) rfl ?_
     rw [HL.out,HD.out,HDA.out]
     have h3w:=HB3.out.size
     exact ⟨a9,c9,rfl,⟨cs,SlC.wide (SlC.of_owns_u hown) (US.wide fun b hb=>⟨by have:=hb.1;omega,hb.2⟩),lcs_chU (hlc.out.wide fun b hb=>⟨by have:=hb.1;omega,hb.2.1⟩)⟩,HB3.out.trans (hB.out.mono h3w)⟩
theorem Diff_any (x y:Fo) (ax ay:Option Addr) (cx cy:Nat) (S:Nat→Prop) (w:World) (hx:FSl S w (.slice ax x.len cx) x) (hy:FSl S w (.slice ay y.len cy) y) (hS:∀ b,S b→b < w.heap.size)
 (lx:x.len ≤ 1000) (ly:y.len ≤ 1000) (sx:x.Sm) (sy:y.Sm) (nx:x.cnt ≤ 900) (ny:y.cnt ≤ 900) (ht:Pow w) :
 Calls Tryz.prog 41 #[.slice ax x.len cx, .slice ay y.len cy] w fun e w'=>∃ a c,e = .returned (.tuple #[.slice a (difL x y).length c, .int .i64 (difE x y)])∧ChSl (Rg w.heap.size w'.heap.size) w' (.slice a (difL x y).length c) (difL x y)∧Below w.heap.size w w':=
 (Diff_u x y ax ay cx cy S w hx hy hS lx ly sx sy nx ny ht).mono fun _ _ ⟨a,c,he,h1,hb⟩=>⟨a,c,he,h1.wide fun b hb=>hb.1,hb⟩
end Go.Proofs.LF
namespace Go.Proofs.LF
theorem fls_srt {y:Fo} (h:chkY y = 0):Srt (flsL [] y):=(ordG_srt y 0 none [] (chk_ord h)).1
end Go.Proofs.LF
namespace Go.Proofs.LF
open Go.RowKit Go.Sort
set_option maxHeartbeats 4000000
set_option maxRecDepth 100000
attribute [local go_sem] bs_toList bs_size bs_get
def rdYs:Rd Fo 1 where
 R S w x cs:=∃ ap cp,cs = [.slice ap x.len cp]∧FSl S w (.slice ap x.len cp) x
 len:=by rintro S w x cs ⟨_,_,rfl,_⟩;rfl
 one:=by rintro S w x cs ⟨_,_,rfl,_⟩ u hu;simp at hu;rcases hu with rfl;rfl
 agree:=by rintro S w w' x cs ⟨a,b,rfl,h1⟩ ha;exact ⟨a,b,rfl,h1.agree ha⟩
 wide:=by rintro S w w' x cs ⟨a,b,rfl,h1⟩ ha;exact ⟨a,b,rfl,h1.wide ha⟩
def cpE:List Fo→Int
 | []=>0
 | y :: r=>if chkY y ≠ 0 then chkY y else cpE r
def cpL (ls:List Fo):List (List Fl):=if cpE ls = 0 then ls.map (flsL []) else []
theorem cpE_drop:∀ {k:Nat} {ls:List Fo},(∀ y ∈ ls.take k,chkY y = 0)→cpE ls = cpE (ls.drop k)
 | 0,_,_=>rfl
 | _ + 1,[],_=>rfl
 | k + 1,y :: r,h=>by
   have h0:=h y (by simp)
   rw [cpE,if_neg (by rw [h0];simp)]
   exact cpE_drop (k:=k) (ls:=r) (fun z hz=>h z (by simp [hz]))
theorem Tryz.info167:(Tryz.prog.info? 167).map (fun i=>(i.zero,i.size,i.bytes)) = some (some (.slice none 0 0),1,24):=by kernel_rfl
def CopR (ls:List Fo) (w:World) (e:Ending) (w':World):Prop:=
 ∃ a c,e = .returned (.tuple #[.slice a (cpL ls).length c, .int .i64 (cpE ls)])∧LSl rdLs (Rg w.heap.size w'.heap.size) w' (.slice a (cpL ls).length c) (cpL ls)∧Below w.heap.size w w'
theorem copies_any (ls:List Fo) (a:Option Addr) (c:Nat) (S:Nat→Prop) (w:World) (hv:LSl rdYs S w (.slice a ls.length c) ls) (hS:∀ b,S b→b < w.heap.size) (hl:ls.length ≤ 1000)
 (hok:∀ y ∈ ls,y.len ≤ 1000∧y.Sm∧y.cnt ≤ 900):Calls Tryz.prog 114 #[.slice a ls.length c] w (CopR ls w):=by
 obtain ⟨a',c',he,hc,hcm,hat⟩:=hv.at
 obtain ⟨rfl,rfl⟩:a = a'∧c = c':=by cases he;exact ⟨rfl,rfl⟩
 obtain ⟨i0,hi0,hz0,hz1,hz2⟩:=info_parts Tryz.info167
 have HAT:=hid hat
 have HS:=hid hS
 have HOK:=hid hok
 clear hat hS he hv hok
 unfold maxLen at hcm
 go_enter Tryz.func114,Tryz.ntmps114
 go_wp2_with fail
 go_loopw [4,10] (fun v i wr=>∃ (k:Nat) (cs:List Value),k ≤ ls.length∧i = .int .i64 k∧wr.ownsRow w.heap.size 167 1 v k cs∧Hid (LCs rdLs (Rx w.heap.size wr.heap.size v) wr ((ls.take k).map (flsL [])) cs)∧Hid (∀ y ∈ ls.take k,chkY y = 0)∧Hid (Below w.heap.size w wr)) (fun _ i _=>ls.length - (intOf i).toNat)
 case atStart=>exact ⟨0,[],by omega,rfl,World.ownsRow_nil _ _ _ _,rfl,(fun y hy=>by simp at hy),Below.refl _ _⟩
 case round=>
  obtain ⟨k,cs,hk,rfl,hown,hlc,hz,hB⟩:=hrel
  have hsz:=hB.out.size
  by_cases hlt:k < ls.length
  · have hlt':(k:Int) < (ls.length:Int):=by omega
    obtain ⟨g,o,cs1,rfl,hg,⟨ap,cp,rfl,hF⟩,hcell⟩:=HAT.out k hlt
    have c0:=(Ag_b hB.out HS.out).cell hg (hcell 0 _ rfl)
    rw [Nat.mul_one,Nat.add_zero] at c0
    have hok:=HOK.out ls[k] (List.getElem_mem hlt)
    have htk:ls.take (k + 1) = ls.take k ++ [ls[k]]:=List.take_succ_eq_append_getElem hlt
    have hdk:ls.drop k = ls[k] :: ls.drop (k + 1):=List.drop_eq_getElem_cons hlt
    obtain ⟨y,hy⟩:∃ y,ls[k] = y:=⟨_,rfl⟩
    rw [hy] at c0 hF hok htk hdk
    have CK:=hid (Check_any y ap cp S wr (hF.agree (Ag_b hB.out HS.out)) (fun b hb=>by have:=HS.out b hb;omega) hok.1 hok.2.1 hok.2.2)
    have HF:=hid hF
    have HOKY:=hid hok
    have HTK:=hid htk
    have HDK:=hid hdk
    clear hcell hF hok htk hdk hy
    go_wp2_with fail
    refine CK.out.mono ?_
    rintro e w2 ⟨rfl,hb2⟩
    have hz2':=hb2.size
    have HB2:=hid (hB.out.trans (hb2.mono hsz))
    have how2:=ob_ hown hb2 (nl_ _)
    have hlc2:LCs rdLs (Rx w.heap.size w2.heap.size u4) w2 ((ls.take k).map (flsL [])) cs:=(hlc.out.agree (Ag_b hb2 (fun b hb=>hb.2.1))).wide (fun b hb=>⟨hb.1,by have:=hb.2.1;omega,hb.2.2⟩)
    have HLC2:=hid hlc2
    clear hlc2
    clear hb2
    by_cases hcy:chkY y = 0
    · have hcy':(chkY y != 0) = false:=by simpa using hcy
      have HCY:=hid hcy
      have FL:=hid (flats_any y ap cp S w2 (HF.out.agree (Ag_b HB2.out HS.out)) (fun b hb=>by have:=HS.out b hb;omega) HOKY.out.1 HOKY.out.2.1 HOKY.out.2.2)
      clear hcy
      go_wp2_with fail
      refine FL.out.mono ?_
      rintro e w3 ⟨a3,c3,rfl,hF3,hb3⟩
      have hz3:=hb3.size
      have how3:=ob_ how2 hb3 (by omega)
      have hkk:k ≤ 1000:=by omega
      go_wp2_with (at_builtin;refine (wpList_append_ao _ rfl _ _ _ rfl w.heap.size 167 i0 _ 1 24 Tryz.underlying189 hi0 hz0 hz1 hz2 rfl (by omega) u4 k cs rfl (how3.alloc _) (some ⟨w3.heap.size,0,none⟩) 1 1 [.slice a3 (flsL [] y).length c3] rfl rfl (fun h=>by cases h) (fun ad had=>by cases had;exact World.news_of_block (cs:=#[.slice a3 (flsL [] y).length c3]) (t:=167) (fr:=(0,0)) (heap_alloc_new _ _)) (by simp [Value.oneCell']) (by unfold maxLen;omega) (by omega) (by simp;omega) ?_);intro a4 c4 w4 hown4 hgrow4 hat4)
      obtain ⟨g4,cap4,he4,hg4,hlt4⟩:=hown4.form (by omega)
      cases he4
      have st:Step w.heap.size w2 (w3.alloc (.cells #[.slice a3 (flsL [] y).length c3] 167)) w4 u4 g4:=⟨hb3.alloc hz3 _,⟨hgrow4.os,hgrow4.tape,hgrow4.output,hgrow4.size,hgrow4.block⟩,by omega,fun b hb=>how2.lt b hb,hat4 g4 rfl,hlt4⟩
      have hv':(Value.slice (some ⟨g4,0,none⟩) (k + 1) c4).ownBlock = some g4:=rfl
      have n1:=st.keep (Stable.lcs _ _) hv' HLC2.out
      have n2:=st.lift (Stable.lsl _ _) hv' hF3 (nl_ _) (by simp) ((Below.refl _ _).alloc (nl_ _) _)
      have n3:=st.out HB2.out
      have n4:Hid (LCs rdLs (Rx w.heap.size w4.heap.size (.slice (some ⟨g4,0,none⟩) (k + 1) c4)) w4 ((ls.take (k + 1)).map (flsL [])) (cs ++ [.slice a3 (flsL [] y).length c3])):=by
       rw [HTK.out,List.map_append]
       exact n1.app (LCs.single ⟨a3,c3,rfl,n2⟩)
      have n5:Hid (∀ z ∈ ls.take (k + 1),chkY z = 0):=fun z hz'=>by
       rw [HTK.out] at hz'
       rcases List.mem_append.1 hz' with h | h
       · exact hz.out z h
       · simp only [List.mem_singleton] at h;rw [h];exact HCY.out
      clear n1 n2 st
      go_roundw
      case rel=>exact ⟨k + 1,_,by omega,by go_num,hown4,n4,n5,n3⟩
      case measure=>simp [intOf];omega
    · have hcy':(chkY y != 0) = true:=by simpa using hcy
      have hE:cpE ls = chkY y:=by rw [cpE_drop hz.out,HDK.out,cpE,if_pos hcy]
      have hL:cpL ls = []:=by rw [cpL,if_neg (by rw [hE];exact hcy)]
      have HE:=hid hE
      have HL:=hid hL
      clear hE hL hcy
      go_wp2_with fail
      refine bodyPost_ret (v := .tuple #[.slice none 0 0, .int .i64 (chkY y)]) (by simp [results,Tryz.results114,go_sem]) rfl ?_
      exact ⟨none,0,by rw [HE.out,HL.out];rfl,by rw [HL.out];exact ⟨[],⟨rfl,none,0,rfl,nl_ _,by simp [maxLen],fun _=>rfl, .inl rfl⟩,rfl⟩,HB2.out⟩
  · obtain rfl:k = ls.length:=by omega
    have hlt':¬ (ls.length:Int) < (ls.length:Int):=by omega
    have hE:cpE ls = 0:=by rw [cpE_drop hz.out,List.drop_length];rfl
    have hL:cpL ls = ls.map (flsL []):=by rw [cpL,if_pos hE]
    have HE:=hid hE
    have HL:=hid hL
    clear hE hL
    go_wp2_with fail
    obtain ⟨a9,c9,rfl,_,_⟩:=owns_shape hown
    refine bodyPost_ret (v := .tuple #[.slice a9 ls.length c9, .int .i64 0]) (by simp [results,Tryz.results114,go_sem]) rfl ?_
    have hlc':=hlc.out
    rw [List.take_length] at hlc'
    refine ⟨a9,c9,by rw [HE.out,HL.out,List.length_map],?_,hB.out⟩
    rw [HL.out]
    exact ⟨cs,by rw [List.length_map];exact SlC.of_owns hown,hlc'.wide fun b hb=>⟨hb.1,hb.2.1⟩⟩
end Go.Proofs.LF
namespace Go.Proofs.LF
open Go.RowKit Go.Sort
set_option maxHeartbeats 4000000
set_option maxRecDepth 100000
attribute [local go_sem] bs_toList bs_size bs_get
theorem Pth.init {S:Nat→Prop} {w:World} {a:Option Addr} {m c:Nat} {p:List Ky} (h:Pth S w (.slice a (m + 1) c) p) (hm:p.length = m + 1):Pth S w (.slice a m c) p.dropLast:=by
 obtain ⟨h0,a',c',he,h1,h2,h3,h4⟩:=h
 simp only [Value.slice.injEq] at he
 obtain ⟨rfl,_,rfl⟩:=he
 have hd:p.dropLast.length = m:=by simp [hm]
 refine ⟨len_keys _,a,c,by rw [hd],by omega,h2,h3,?_⟩
 rcases h4 with h4 | ⟨g,o,h5,h6,h7⟩
 · omega
 · refine .inr ⟨g,o,h5,h6,fun j u hj=>h7 j u ?_⟩
   have hp:p = p.dropLast ++ [p.getLast (by intro e;rw [e] at hm;simp at hm)]:=(List.dropLast_concat_getLast _).symm
   rw [hp,List.flatMap_append,List.getElem?_append_left (List.getElem?_eq_some_iff.1 hj).1]
   exact hj
theorem lsF_len:∀ (l kept:List Fl) (out:List (List Ky)),(lsF kept out l).1.length + (lsF kept out l).2.length = kept.length + out.length + l.length
 | [],_,_=>by simp [lsF]
 | f :: r,kept,out=>by
   simp only [lsF]
   split
   · rw [lsF_len];simp;omega
   · rw [lsF_len];simp;omega
def LooR (l:List Fl) (S:Nat→Prop) (w:World) (e:Ending) (w':World):Prop:=
 ∃ a c a' c',e = .returned (.tuple #[.slice a (lsF [] [] l).1.length c, .slice a' (lsF [] [] l).2.length c'])∧FlSl (fun b=>S b ∨ Rg w.heap.size w'.heap.size b) w' (.slice a (lsF [] [] l).1.length c) (lsF [] [] l).1 ∧
  PaSl (fun b=>S b ∨ Rg w.heap.size w'.heap.size b) w' (.slice a' (lsF [] [] l).2.length c') (lsF [] [] l).2∧Below w.heap.size w w'
theorem loose_any (l:List Fl) (a:Option Addr) (c:Nat) (S:Nat→Prop) (w:World) (hv:FlSl S w (.slice a l.length c) l) (hS:∀ b,S b→b < w.heap.size) (hl:l.length ≤ 1000) (hsm:SmF l) (hne:∀ x ∈ l,x.p ≠ []) :
 Calls Tryz.prog 119 #[.slice a l.length c] w (LooR l S w):=by
 obtain ⟨a',c',he,hc,hcm,hat⟩:=hv.at
 obtain ⟨rfl,rfl⟩:a = a'∧c = c':=by cases he;exact ⟨rfl,rfl⟩
 obtain ⟨i0,hi0,hz0,hz1,hz2⟩:=info_parts Tryz.info171''
 obtain ⟨j0,hj0,hy0,hy1,hy2⟩:=info_parts Tryz.info65'
 have HAT:=hid hat
 have HS:=hid hS
 have HSM:=hid hsm
 have HNE:=hid hne
 clear hat hS he hv hsm hne
 unfold maxLen at hcm
 go_enter Tryz.func119,Tryz.ntmps119
 go_wp2_with fail
 go_loopw [4,5,13] (fun v v2 i wr=>∃ (k:Nat) (K:List Fl) (O:List (List Ky)) (cs ds:List Value),k ≤ l.length∧i = .int .i64 k∧K.length ≤ k∧O.length ≤ k∧Hid (lsF [] [] l = lsF K O (l.drop k)) ∧
  wr.ownsRow w.heap.size 171 2 v K.length cs∧Hid (LCs rdFl S wr K cs)∧Hid (SmF K)∧wr.ownsRow w.heap.size 65 1 v2 O.length ds∧Hid (LCs rdPa S wr O ds)∧Hid (∀ b,v.ownBlock = some b→v2.ownBlock ≠ some b)∧Hid (Below w.heap.size w wr)) (fun _ _ i _=>l.length - (intOf i).toNat)
 case atStart=>exact ⟨0,[],[],[],[],by omega,rfl,by simp,by simp,rfl,World.ownsRow_nil _ _ _ _,rfl,(fun x hx=>by cases hx),World.ownsRow_nil _ _ _ _,rfl,(fun b hb=>by simp [Value.ownBlock] at hb),Below.refl _ _⟩
 case round=>
  obtain ⟨k,K,O,cs,ds,hk,rfl,hKk,hOk,hD,hown,hlc,hsK,hown2,hlc2,hsep,hB⟩:=hrel
  have hsz:=hB.out.size
  by_cases hlt:k < l.length
  · have hlt':(k:Int) < (l.length:Int):=by omega
    obtain ⟨g,o,cs1,rfl,hg,⟨ap,cp,an,cn,rfl,hP,hI⟩,hcell⟩:=HAT.out k hlt
    have hag:=Ag_b hB.out HS.out
    have c0:=hag.cell hg (hcell 0 _ rfl)
    have c1:=hag.cell hg (hcell 1 _ rfl)
    rw [Nat.add_zero] at c0
    rw [← Nat.add_assoc] at c1
    have hm0:=List.getElem_mem hlt
    have hdrop:l.drop k = l[k] :: l.drop (k + 1):=List.drop_eq_getElem_cons hlt
    have hsx:=HSM.out l[k] hm0
    have hnx:=HNE.out l[k] hm0
    obtain ⟨x,hx⟩:∃ x,l[k] = x:=⟨_,rfl⟩
    rw [hx] at c0 c1 hP hI hdrop hsx hnx
    obtain ⟨m,hm⟩:∃ m,x.p.length = m + 1:=⟨x.p.length - 1,by have:=List.length_pos_iff.2 hnx;omega⟩
    rw [hm] at c0 hP
    have hm1:m ≤ 1000:=by have:=hsx.1;omega
    obtain ⟨aK,cK,rfl,hcK,hcKm⟩:=owns_shape hown
    have hb1:Below wr.heap.size wr (wr.alloc (.cells #[.slice ap (m + 1) cp, .slice an x.l.length cn] 171)):=(Below.refl _ _).alloc (nl_ _) _
    have hdl:x.p.dropLast.length = m:=by simp [hm]
    have hPc:=(SlC.caps (show SlC S w 3 (.slice ap (m + 1) cp) (m + 1) _ by have:=hP;unfold Pth at this;rwa [hm] at this))
    have hfind:=find_any K x.p.dropLast aK ap cK cp (fun b=>S b ∨ Rg w.heap.size wr.heap.size b) S (wr.alloc (.cells #[.slice ap (m + 1) cp, .slice an x.l.length cn] 171)) ⟨cs,((SlC.of_owns hown).wide (fun b hb=>Or.inr hb)).agree (Ag_b hb1 (fun b hb=>hb.elim (fun h=>by have:=HS.out b h;omega) (fun h=>h.2))),(hlc.out.wide (fun b hb=>Or.inl hb)).agree (Ag_b hb1 (fun b hb=>hb.elim (fun h=>by have:=HS.out b h;omega) (fun h=>h.2)))⟩
     (fun b hb=>by rcases hb with h | h;(have:=HS.out b h;simp;omega);(have:=h.2;simp;omega)) (by rw [hdl];exact (Pth.init (hP.agree hag) hm).agree (Ag_b hb1 (fun b hb=>by have:=HS.out b hb;omega))) (fun b hb=>by have:=HS.out b hb;simp;omega) (by omega) hsK.out (by omega)
    rw [hdl] at hfind
    have HFI:=hid hfind
    have HDR:=hid hdrop
    have HSX:=hid hsx
    have HP:=hid (hP.agree hag)
    have HI:=hid (hI.agree hag)
    have HN1:=hid (heap_alloc_new wr (.cells #[.slice ap (m + 1) cp, .slice an x.l.length cn] 171))
    have HB1:=hid hb1
    have HM:=hid hm
    have q0:=cg_ HN1.out (k:=0) rfl
    clear hfind hcell hP hI hdrop hsx hnx hx hag hb1 hm0 hm hdl
    go_wp2_with fail
    refine HFI.out.mono ?_
    rintro e w2 ⟨ap2,cp2,an2,cn2,rfl,_,_,hb2⟩
    obtain ⟨xA,hxA⟩:∃ z,(fnd K x.p.dropLast).getD fl0 = z:=⟨_,rfl⟩
    obtain ⟨q,hq⟩:∃ z,(fnd K x.p.dropLast).isSome = z:=⟨_,rfl⟩
    rw [hxA,hq]
    have HQ:=hid hq
    clear hxA hq
    have hzz:=hb2.size
    simp only [World.size_alloc] at hzz
    have hN2:=(hb2.block wr.heap.size (by simp)).trans HN1.out
    have hN3:=(heap_alloc_old w2 (.cells #[.slice ap2 xA.p.length cp2, .slice an2 xA.l.length cn2] 171) (show wr.heap.size < w2.heap.size by omega)).trans hN2
    have p0:(w2.alloc (.cells #[.slice ap2 xA.p.length cp2, .slice an2 xA.l.length cn2] 171)).cell? ⟨wr.heap.size,0,none⟩ = some (.slice ap (m + 1) cp):=cg_ hN3 (k:=0) rfl
    have p1:(w2.alloc (.cells #[.slice ap2 xA.p.length cp2, .slice an2 xA.l.length cn2] 171)).cell? ⟨wr.heap.size,1,none⟩ = some (.slice an x.l.length cn):=cg_ hN3 (k:=1) rfl
    have HB2:=hid (HB1.out.trans (hb2.mono (by simp)))
    clear hN2 hN3 hb2 q0
    have hstep:Hid (∀ W,Below wr.heap.size wr W→wr.heap.size ≤ W.heap.size):=fun W h=>h.size
    by_cases hkp:q = true ∨ m = 0
    · have hls:Hid (lsF [] [] l = lsF (K ++ [x]) O (l.drop (k + 1))):=by
       rw [Hid,hD.out,HDR.out]
       simp only [lsF]
       rw [if_pos (by rw [HQ.out,HM.out];rcases hkp with h | h;exact .inl h;exact .inr (by omega))]
      have hB3:Below wr.heap.size wr ((w2.alloc (.cells #[.slice ap2 xA.p.length cp2, .slice an2 xA.l.length cn2] 171)).alloc (.cells #[.slice ap (m + 1) cp, .slice an x.l.length cn] 171)):=(HB2.out.alloc (by omega) _).alloc (by simp;omega) _
      have HB3:=hid hB3
      have how3:=ob_ hown hB3 (nl_ _)
      have hw2a:((w2.alloc (.cells #[.slice ap2 xA.p.length cp2, .slice an2 xA.l.length cn2] 171)).alloc (.cells #[.slice ap (m + 1) cp, .slice an x.l.length cn] 171)).heap.size = w2.heap.size + 2:=by simp
      have hnb:((w2.alloc (.cells #[.slice ap2 xA.p.length cp2, .slice an2 xA.l.length cn2] 171)).alloc (.cells #[.slice ap (m + 1) cp, .slice an x.l.length cn] 171)).heap[w2.heap.size + 1]? = some (.cells #[.slice ap (m + 1) cp, .slice an x.l.length cn] 171 (0,0)):=by
       have h:=heap_alloc_new (w2.alloc (.cells #[.slice ap2 xA.p.length cp2, .slice an2 xA.l.length cn2] 171)) (.cells #[.slice ap (m + 1) cp, .slice an x.l.length cn] 171)
       rwa [World.size_alloc] at h
      have HNB:=hid hnb
      clear hB3 hnb
      have key:∀ (a4:Option Addr) (c4:Nat) (w4:World),w4.ownsRow w.heap.size 171 2 (.slice a4 (K.length + 1) c4) (K.length + 1) (cs ++ [.slice ap (m + 1) cp, .slice an x.l.length cn]) →
       ((w2.alloc (.cells #[.slice ap2 xA.p.length cp2, .slice an2 xA.l.length cn2] 171)).alloc (.cells #[.slice ap (m + 1) cp, .slice an x.l.length cn] 171)).grownBy w4 (Value.slice aK K.length cK).ownBlock →
       (∀ g,(Value.slice a4 (K.length + 1) c4).ownBlock = some g→(Value.slice aK K.length cK).ownBlock = some g ∨ g = ((w2.alloc (.cells #[.slice ap2 xA.p.length cp2, .slice an2 xA.l.length cn2] 171)).alloc (.cells #[.slice ap (m + 1) cp, .slice an x.l.length cn] 171)).heap.size) →
       Hid (w4.ownsRow w.heap.size 171 2 (.slice a4 (K.length + 1) c4) (K ++ [x]).length (cs ++ [.slice ap (m + 1) cp, .slice an x.l.length cn])∧LCs rdFl S w4 (K ++ [x]) (cs ++ [.slice ap (m + 1) cp, .slice an x.l.length cn])∧SmF (K ++ [x])∧w4.ownsRow w.heap.size 65 1 u5 O.length ds∧LCs rdPa S w4 O ds ∧
        (∀ b,(Value.slice a4 (K.length + 1) c4).ownBlock = some b→u5.ownBlock ≠ some b)∧Below w.heap.size w w4):=by
       intro a4 c4 w4 hown4 hgrow4 hat4
       have hkl:∀ b,(Value.slice aK K.length cK).ownBlock = some b→w.heap.size ≤ b∧b < wr.heap.size:=fun b hb=>hown.lt b hb
       have hul:∀ b,u5.ownBlock = some b→w.heap.size ≤ b∧b < wr.heap.size:=fun b hb=>hown2.lt b hb
       have hagS:Agree S wr w4:=fun b hb=>by
        have h1:=HS.out b hb
        exact (hgrow4.block b (by omega) (fun e=>by have:=(hkl b e.symm).1;omega)).trans (HB3.out.block b (by omega))
       have hlen:(K ++ [x]).length = K.length + 1:=by simp
       refine ⟨by rw [hlen];exact hown4,(hlc.out.agree hagS).app (LCs.single ⟨ap,cp,an,cn,by rw [HM.out],?_,HI.out.agree hagS⟩),?_,?_,hlc2.out.agree hagS,?_,?_⟩
       · rw [HM.out];exact HP.out.agree hagS
       · intro z hz
         rcases List.mem_append.1 hz with h | h
         · exact hsK.out z h
         · simp only [List.mem_singleton] at h;rw [h];exact HSX.out
       · exact owns_agree hown2 fun b hb=>(hgrow4.block b (by have:=(hul b hb).2;omega) (fun e=>hsep.out b e.symm hb)).trans (HB3.out.block b (hul b hb).2)
       · intro b hb hb5
         rcases hat4 b hb with h | h
         · exact hsep.out b h hb5
         · have:=(hul b hb5).2;omega
       · exact (hB.out.trans (HB3.out.mono hsz)).grown hgrow4 (by omega) (fun b hb=>(hkl b hb).1)
      have KEY:=hid key
      clear key
      have hkb:K.length ≤ 1000:=by omega
      cases q with
      | true=>
        clear hkp
        go_wp2_with (at_builtin;refine (wpList_append_ao _ rfl _ _ _ rfl w.heap.size 171 i0 _ 2 48 Tryz.underlying167 hi0 hz0 hz1 hz2 rfl (by omega) (Value.slice aK K.length cK) K.length cs rfl how3 (some ⟨w2.heap.size + 1,0,none⟩) 1 1 [.slice ap (m + 1) cp, .slice an x.l.length cn] rfl rfl (fun h=>by cases h) (fun ad had=>by cases had;exact World.news_of_block (cs:=#[.slice ap (m + 1) cp, .slice an x.l.length cn]) (t:=171) (fr:=(0,0)) HNB.out) (by simp [Value.oneCell']) (by unfold maxLen;omega) (by omega) (by omega) ?_);intro a4 c4 w4 hown4 hgrow4 hat4)
        obtain ⟨e1,e2,e3,e4,e5,e6,e7⟩:=(KEY.out a4 c4 w4 hown4 hgrow4 hat4).out
        go_roundw
        case rel=>exact ⟨k + 1,K ++ [x],O,_,ds,by omega,by go_num,by simp;omega,by omega,hls,e1,e2,e3,e4,e5,e6,e7⟩
        case measure=>simp [intOf];omega
      | false=>
        have hmz:m = 0:=by rcases hkp with h | h;cases h;exact h
        have hm0':((m:Int) == 0) = true:=by simp [hmz]
        clear hmz hkp
        go_wp2_with (at_builtin;refine (wpList_append_ao _ rfl _ _ _ rfl w.heap.size 171 i0 _ 2 48 Tryz.underlying167 hi0 hz0 hz1 hz2 rfl (by omega) (Value.slice aK K.length cK) K.length cs rfl how3 (some ⟨w2.heap.size + 1,0,none⟩) 1 1 [.slice ap (m + 1) cp, .slice an x.l.length cn] rfl rfl (fun h=>by cases h) (fun ad had=>by cases had;exact World.news_of_block (cs:=#[.slice ap (m + 1) cp, .slice an x.l.length cn]) (t:=171) (fr:=(0,0)) HNB.out) (by simp [Value.oneCell']) (by unfold maxLen;omega) (by omega) (by omega) ?_);intro a4 c4 w4 hown4 hgrow4 hat4)
        obtain ⟨e1,e2,e3,e4,e5,e6,e7⟩:=(KEY.out a4 c4 w4 hown4 hgrow4 hat4).out
        go_roundw
        case rel=>exact ⟨k + 1,K ++ [x],O,_,ds,by omega,by go_num,by simp;omega,by omega,hls,e1,e2,e3,e4,e5,e6,e7⟩
        case measure=>simp [intOf];omega
    · have hq0:q = false:=by cases q;rfl;exact absurd (.inl rfl) hkp
      have hmp:0 < m:=by rcases Nat.eq_zero_or_pos m with h | h;exact absurd (.inr h) hkp;exact h
      subst hq0
      have hm0':((m:Int) == 0) = false:=by simp;omega
      have hls:Hid (lsF [] [] l = lsF K (O ++ [x.p]) (l.drop (k + 1))):=by
       rw [Hid,hD.out,HDR.out]
       simp only [lsF]
       rw [if_neg (by rw [HQ.out,HM.out];rintro (h | h);cases h;omega)]
      have hB3:Below wr.heap.size wr ((w2.alloc (.cells #[.slice ap2 xA.p.length cp2, .slice an2 xA.l.length cn2] 171)).alloc (.cells #[.slice ap (m + 1) cp] 65)):=(HB2.out.alloc (by omega) _).alloc (by simp;omega) _
      have HB3:=hid hB3
      have how3:=ob_ hown2 hB3 (nl_ _)
      have hw2a:((w2.alloc (.cells #[.slice ap2 xA.p.length cp2, .slice an2 xA.l.length cn2] 171)).alloc (.cells #[.slice ap (m + 1) cp] 65)).heap.size = w2.heap.size + 2:=by simp
      have hnb:((w2.alloc (.cells #[.slice ap2 xA.p.length cp2, .slice an2 xA.l.length cn2] 171)).alloc (.cells #[.slice ap (m + 1) cp] 65)).heap[w2.heap.size + 1]? = some (.cells #[.slice ap (m + 1) cp] 65 (0,0)):=by
       have h:=heap_alloc_new (w2.alloc (.cells #[.slice ap2 xA.p.length cp2, .slice an2 xA.l.length cn2] 171)) (.cells #[.slice ap (m + 1) cp] 65)
       rwa [World.size_alloc] at h
      have HNB:=hid hnb
      clear hB3 hnb hkp
      have hkb:O.length ≤ 1000:=by omega
      go_wp2_with (at_builtin;refine (wpList_append_ao _ rfl _ _ _ rfl w.heap.size 65 j0 _ 1 24 Tryz.underlying49 hj0 hy0 hy1 hy2 rfl (by omega) u5 O.length ds rfl how3 (some ⟨w2.heap.size + 1,0,none⟩) 1 1 [.slice ap (m + 1) cp] rfl rfl (fun h=>by cases h) (fun ad had=>by cases had;exact World.news_of_block (cs:=#[.slice ap (m + 1) cp]) (t:=65) (fr:=(0,0)) HNB.out) (by simp [Value.oneCell']) (by unfold maxLen;omega) (by omega) (by omega) ?_);intro a4 c4 w4 hown4 hgrow4 hat4)
      have hkl:∀ b,u5.ownBlock = some b→w.heap.size ≤ b∧b < wr.heap.size:=fun b hb=>hown2.lt b hb
      have hul:∀ b,(Value.slice aK K.length cK).ownBlock = some b→w.heap.size ≤ b∧b < wr.heap.size:=fun b hb=>hown.lt b hb
      have hagS:Agree S wr w4:=fun b hb=>by
       have h1:=HS.out b hb
       exact (hgrow4.block b (by omega) (fun e=>by have:=(hkl b e.symm).1;omega)).trans (HB3.out.block b (by omega))
      have e1:w4.ownsRow w.heap.size 171 2 (.slice aK K.length cK) K.length cs:=owns_agree hown fun b hb=>(hgrow4.block b (by have:=(hul b hb).2;omega) (fun e=>hsep.out b hb e.symm)).trans (HB3.out.block b (hul b hb).2)
      have e2:=hid (hlc.out.agree hagS)
      have e4:w4.ownsRow w.heap.size 65 1 (.slice a4 (O.length + 1) c4) (O ++ [x.p]).length (ds ++ [.slice ap (m + 1) cp]):=by
       have hlen:(O ++ [x.p]).length = O.length + 1:=by simp
       rw [hlen];exact hown4
      have e5:Hid (LCs rdPa S w4 (O ++ [x.p]) (ds ++ [.slice ap (m + 1) cp])):=(hlc2.out.agree hagS).app (LCs.single ⟨ap,cp,by rw [HM.out],by rw [HM.out];exact HP.out.agree hagS⟩)
      have e6:Hid (∀ b,(Value.slice aK K.length cK).ownBlock = some b→(Value.slice a4 (O.length + 1) c4).ownBlock ≠ some b):=fun b hb h5=>by
       rcases hat4 b h5 with h | h
       · exact hsep.out b hb h
       · have:=(hul b hb).2;omega
      have e7:Hid (Below w.heap.size w w4):=(hB.out.trans (HB3.out.mono hsz)).grown hgrow4 (by omega) (fun b hb=>(hkl b hb).1)
      clear hkl hul hagS
      go_roundw
      case rel=>exact ⟨k + 1,K,O ++ [x.p],cs,_,by omega,by go_num,by omega,by simp;omega,hls,e1,e2,hsK,e4,e5,e6,e7⟩
      case measure=>simp [intOf];omega
  · obtain rfl:k = l.length:=by omega
    have hlt':¬ (l.length:Int) < (l.length:Int):=by omega
    have hls:lsF [] [] l = (K,O):=by rw [hD.out,List.drop_length];rfl
    have HLS:=hid hls
    clear hls
    go_wp2_with fail
    obtain ⟨a8,c8,rfl,_,_⟩:=owns_shape hown
    obtain ⟨a9,c9,rfl,_,_⟩:=owns_shape hown2
    refine bodyPost_ret (v := .tuple #[.slice a8 K.length c8, .slice a9 O.length c9]) (by simp [results,Tryz.results119,go_sem]) rfl ?_
    refine ⟨a8,c8,a9,c9,by rw [HLS.out],?_,?_,hB.out⟩
    · rw [HLS.out]
      exact ⟨cs,(SlC.of_owns hown).wide fun b hb => .inr hb,hlc.out.wide fun b hb => .inl hb⟩
    · rw [HLS.out]
      exact ⟨ds,(SlC.of_owns hown2).wide fun b hb => .inr hb,hlc2.out.wide fun b hb => .inl hb⟩
end Go.Proofs.LF
namespace Go.Proofs.LF
def tops:Fo→List Ky
 | .nil=>[]
 | .cons n l _ r=>kyOf n l :: tops r
theorem tops_app:∀ (y z:Fo),tops (y.app z) = tops y ++ tops z
 | .nil,_=>rfl
 | .cons n l s r,z=>by simp only [Fo.app,tops,tops_app r z,List.cons_append]
def nmz:List (List UInt8):=[[98,101,100],[99,97,114,116],[104,111,114,110],[115,97,99,107],[122,101,114,111]]
def OkF:Nat→Fo→Prop
 | _, .nil=>True
 | d, .cons n l s r=>d ≤ 3∧n ∈ nmz∧l.length ≤ 4∧(∀ x ∈ l,0 ≤ x∧x ≤ 9999)∧OkF (d + 1) s∧(∀ k ∈ tops r,byK (kyOf n l) k < 0)∧OkF d r
theorem OkF.app:∀ {d:Nat} {y z:Fo},OkF d y→OkF d z→(∀ a ∈ tops y,∀ b ∈ tops z,byK a b < 0)→OkF d (y.app z)
 | _, .nil,_,_,h,_=>h
 | d, .cons n l s r,z,⟨h1,h2,h3,h4,h5,h6,h7⟩,h,k=>by
   refine ⟨h1,h2,h3,h4,h5,fun q hq=>?_,OkF.app h7 h fun a ha b hb=>k a (by simp [tops,ha]) b hb⟩
   rw [tops_app] at hq
   rcases List.mem_append.1 hq with hq | hq
   · exact h6 q hq
   · exact k _ (by simp [tops]) q hq
theorem OkF.one {d:Nat} {n:List UInt8} {l:List Int} {s:Fo} (h1:d ≤ 3) (h2:n ∈ nmz) (h3:l.length ≤ 4) (h4:∀ x ∈ l,0 ≤ x∧x ≤ 9999) (h5:OkF (d + 1) s):OkF d (.cons n l s .nil):=
 ⟨h1,h2,h3,h4,h5,by simp [tops],trivial⟩
theorem nmz_ok:∀ n ∈ nmz,badNm n = false∧n.length ≤ 8:=by decide
theorem okF_ord:∀ (y:Fo) (d:Nat) (p:Option Ky),OkF d y→(∀ q,p = some q→∀ k ∈ tops y,byK q k < 0)→ordG geK (d:Int) p y = 0
 | .nil,_,_,_,_=>rfl
 | .cons n l s r,d,p,⟨h1,h2,h3,h4,h5,h6,h7⟩,hp=>by
   have e1:ordG geK ((d:Int) + 1) none s = 0:=by
    have:=okF_ord s (d + 1) none h5 (fun q hq=>by cases hq)
    rwa [show ((d + 1:Nat):Int) = (d:Int) + 1 by omega] at this
   have e2:ordG geK (d:Int) (some (kyOf n l)) r = 0:=okF_ord r d _ h7 (fun q hq k hk=>by cases hq;exact h6 k hk)
   have hb:badNs l = false:=by
    simp only [badNs,List.any_eq_false,offB,Bool.or_eq_true,decide_eq_true_eq,not_or]
    intro x hx
    have:=h4 x hx
    omega
   simp only [ordG]
   rw [if_neg (by omega),if_neg (by rw [(nmz_ok n h2).1];simp),if_neg (by omega),if_neg (by rw [hb];simp)]
   cases p with
   | none=>dsimp only;rw [if_neg (by simp),e1,e2];simp
   | some q=>
     have:=hp q rfl (kyOf n l) (by simp [tops])
     have hg:geK q (kyOf n l) = false:=by simp only [geK,decide_eq_false_iff_not];omega
     dsimp only
     rw [if_neg (by rw [hg];simp),e1,e2];simp
theorem okF_chk {y:Fo} (h:OkF 0 y):chkY y = if y.cnt ≤ 60 then 0 else 2:=by
 have:=okF_ord y 0 none h (fun q hq=>by cases hq)
 unfold chkY
 split
 · exact this
 · rfl
theorem okF_sm:∀ (y:Fo) (d:Nat),OkF d y→y.cnt ≤ 1000→y.Sm
 | .nil,_,_,_=>trivial
 | .cons n l s r,d,⟨_,h2,h3,_,h5,_,h7⟩,hc=>by
   simp only [Fo.cnt] at hc
   have:=len_cnt s
   exact ⟨by have:=(nmz_ok n h2).2;omega,by omega,by omega,okF_sm s _ h5 (by omega),okF_sm r _ h7 (by omega)⟩
theorem byK_nm {a b:Ky} (h:Op.bytesLess a.n b.n = true):byK a b < 0:=by
 have hne:a.n ≠ b.n:=fun e=>by rw [e,bl_irrefl] at h;cases h
 simp [byK,hne,cmpB,h]
theorem byK_num {n:List UInt8} {x y:Int} (h:x < y):byK ⟨n,true,x⟩ ⟨n,true,y⟩ < 0:=by
 simp [byK,cmpI,h]
def nmI (i:Nat):List UInt8:=nmz.getD i []
theorem nmI_less:∀ i,i < 5→∀ j,j < i→Op.bytesLess (nmI j) (nmI i) = true:=by decide
theorem nmI_mem:∀ i,i < 5→nmI i ∈ nmz:=by decide
theorem tops_n {n:List UInt8} {l:List Int}:(kyOf n l).n = n:=kyOf_n n l
theorem okF_down:∀ {d:Nat} {y:Fo},OkF (d + 1) y→OkF d y
 | _, .nil,_=>trivial
 | d, .cons n l s r,⟨h1,h2,h3,h4,h5,h6,h7⟩=>⟨by omega,h2,h3,h4,okF_down h5,h6,okF_down h7⟩
end Go.Proofs.LF
namespace Go.Proofs.LF
open Go.RowKit Go.Sort
set_option maxHeartbeats 4000000
set_option maxRecDepth 100000
attribute [local go_sem] bs_toList bs_size bs_get
theorem enters120:Enters 120:=by intro args W;simp [go_sem]
theorem eqP_any (p q:List Ky) (ap aq:Option Addr) (cp cq F:Nat) (S:Nat→Prop) (w:World) (hp:Pth S w (.slice ap p.length cp) p) (hq:Pth S w (.slice aq q.length cq) q) (hS:∀ b,S b→b < w.heap.size) (lp:p.length ≤ 1000) (lq:q.length ≤ 1000)
 (hc:w.cell? ⟨F,0,none⟩ = some (.slice aq q.length cq)) :
 Calls Tryz.prog 120 #[.slice ap p.length cp, .pointer (some ⟨F,0,none⟩)] w fun e w'=>e = .returned (.bool (decide (cmpP p q = 0)))∧Below w.heap.size w w':=by
 have H:=hid (byPath_any p q ap aq cp cq S w hp hq hS lp lq)
 clear hp hq
 go_enter Tryz.func120,Tryz.ntmps120
 go_wp2_with fail
 refine H.out.mono ?_
 rintro e w1 ⟨rfl,hb1⟩
 have HB1:=hid hb1
 clear hb1
 by_cases h:cmpP p q = 0
 · go_wp2_with fail
   go_ret
   exact ⟨ret_bool (by simp [h]),HB1.out⟩
 · go_wp2_with fail
   go_ret
   exact ⟨ret_bool (by simp [h]),HB1.out⟩
theorem path_elem {S:Nat→Prop} {w:World} {ps:List (List Ky)} {ds:List Value} (h:LCs rdPa S w ps ds) {i:Nat} (hi:i < ps.length):∃ ap cp,elemV 1 ds i = .slice ap ps[i].length cp∧Pth S w (.slice ap ps[i].length cp) ps[i]:=by
 have h':=h.drop (i:=i)
 rw [List.drop_eq_getElem_cons hi] at h'
 obtain ⟨cs,es,he,⟨ap,cp,rfl,hp⟩,_⟩:=h'
 refine ⟨ap,cp,?_,hp⟩
 have e0:ds[i]? = some (.slice ap ps[i].length cp):=by
  have:=congrArg (fun l=>l[0]?) he
  simpa [List.getElem?_drop] using this
 simp [elemV,List.getD_eq_getElem?_getD,e0]
theorem contP_any (ps:List (List Ky)) (q:List Ky) (al aq:Option Addr) (cl cq F:Nat) (S T:Nat→Prop) (w:World) (hv:PaSl S w (.slice al ps.length cl) ps) (hS:∀ b,S b→b < w.heap.size) (hq:Pth T w (.slice aq q.length cq) q) (hT:∀ b,T b→b < w.heap.size)
 (hF:F < w.heap.size) (hc:w.cell? ⟨F,0,none⟩ = some (.slice aq q.length cq)) (hl:ps.length ≤ 1000) (hps:∀ p ∈ ps,p.length ≤ 1000) (lq:q.length ≤ 1000) :
 Calls Tryz.prog 45 #[.slice al ps.length cl, .func (.func 120) #[] #[.pointer (some ⟨F,0,none⟩)]] w fun e w'=>e = .returned (.bool (ps.any (fun p=>decide (cmpP p q = 0))))∧Below w.heap.size w w':=by
 obtain ⟨ds,h1,h2⟩:=hv
 have key:=cont_path 120 enters120 (fun i=>decide (cmpP (ps.getD i []) q = 0)) [.pointer (some ⟨F,0,none⟩)] ps.length al cl ds S w h1 hS (by omega) (fun i hi W hW=>by
  obtain ⟨ap',cp',he,hp'⟩:=path_elem h2 hi
  have hg:ps.getD i [] = ps[i]:=by simp [List.getD_eq_getElem?_getD,hi]
  rw [he,hg]
  exact eqP_any ps[i] q ap' aq cp' cq F (fun b=>S b ∨ T b) W ((hp'.agree (Ag_b hW hS)).wide fun b hb => .inl hb) ((hq.agree (Ag_b hW hT)).wide fun b hb => .inr hb) (fun b hb=>by have:=hW.size;rcases hb with hb | hb;have:=hS b hb;omega;have:=hT b hb;omega) (hps _ (List.getElem_mem hi)) lq (bc_ hW hF hc))
 rw [anyN_list (fun p=>decide (cmpP p q = 0)) _ ps (fun i hi=>by simp [List.getD_eq_getElem?_getD,hi])] at key
 exact key
end Go.Proofs.LF
namespace Go.Proofs.LF
open Go.RowKit Go.Sort
set_option maxHeartbeats 4000000
set_option maxRecDepth 100000
attribute [local go_sem] bs_toList bs_size bs_get bs_add
def dgs (n q:Nat) (s:List UInt8):Prop:=Lib.decDigits n = (if q = 0 then s else Lib.decDigits q ++ s)∧s.length + (if q = 0 then 0 else (Lib.decDigits q).length) ≤ 5
theorem dig_next {q:Nat} (s:List UInt8):Lib.decDigits q ++ s = if q / 10 = 0 then (48 + UInt8.ofNat (q % 10)) :: s else Lib.decDigits (q / 10) ++ (48 + UInt8.ofNat (q % 10)) :: s:=by
 rw [Lib.decDigits]
 by_cases h:q < 10
 · rw [dif_pos h,if_pos (by omega)]
   have:q % 10 = q:=by omega
   rw [this,show UInt8.ofNat (48 + q) = 48 + UInt8.ofNat q from UInt8.ofNat_add 48 q];rfl
 · rw [dif_neg h,if_neg (by omega),UInt8.ofNat_add]
   simp
theorem conv_dig (w:World) (d:Int) (h0:0 ≤ d) (h1:d < 10):(convert 57 9 (.slice (some ⟨w.heap.size,0,none⟩) 1 1)).run Tryz.prog (w.alloc (.cells #[.int .u8 (48 + d)] 5)) = .ok (.string (bs [48 + UInt8.ofNat d.toNat])) (w.alloc (.cells #[.int .u8 (48 + d)] 5)):=by
 have hc:((UInt8.ofNat (48 + d.toNat)).toNat:Int) = 48 + d:=by rw [UInt8.toNat_ofNat'];omega
 have he:(48:UInt8) + UInt8.ofNat d.toNat = UInt8.ofNat (48 + d.toNat):=by rw [UInt8.ofNat_add];rfl
 rw [he]
 refine Eq.trans (run_convert_bytes_back _ 57 9 5 ⟨w.heap.size,0,none⟩ 1 [UInt8.ofNat (48 + d.toNat)] Tryz.underlying57 Tryz.underlying5 Tryz.underlying9 fun j hj=>?_) rfl
 obtain rfl:j = 0:=by simp at hj;omega
 rw [show (⟨w.heap.size,0,none⟩:Addr).add 0 = ⟨w.heap.size,0,none⟩ from rfl,cg_ (heap_alloc_new w _) (k:=0) rfl]
 simp only [List.getElem_cons_zero,hc]
 rfl
theorem decimal_any (n:Nat) (w:World) (hn:n ≤ 9999):Calls Tryz.prog 172 #[.int .i64 n] w fun e w'=>e = .returned (.string (bs (Lib.decDigits n)))∧Below w.heap.size w w':=by
 have i0:(0:Int) ≤ (n:Int):=by omega
 have i1:(n:Int) ≤ 9999:=by omega
 have hwr:IntKind.u8.wrap (48 + (n:Int).tmod 10) = 48 + (n:Int) % 10:=by
  rw [IntKind.wrap_u8',Int.tmod_eq_emod_of_nonneg i0];omega
 have hcv:=conv_dig w ((n:Int) % 10) (by omega) (by omega)
 have ht:((n:Int) % 10).toNat = n % 10:=by omega
 rw [ht] at hcv
 go_enter Tryz.func172,Tryz.ntmps172
 go_wp2_with fail
 clear hcv hwr ht
 go_loopw [0,3] (fun vn vs wr=>∃ (q:Nat) (s:List UInt8),q ≤ 9999∧vn = .int .i64 q∧vs = .string (bs s)∧Hid (dgs n q s)∧Below w.heap.size w wr) (fun vn _ _=>(intOf vn).toNat)
 case atStart=>
  refine ⟨n / 10,[48 + UInt8.ofNat (n % 10)],by omega,rfl,rfl,?_,(Below.refl _ _).alloc (nl_ _) _⟩
  have:=dig_next (q:=n) []
  rw [List.append_nil] at this
  refine ⟨this,?_⟩
  have:=dig_len 3 (n / 10) (by simp;omega)
  simp only [List.length_singleton]
  split <;> omega
 case round=>
  obtain ⟨q,s,hq9,rfl,rfl,HD,hB⟩:=hrel
  have hz:=hB.size
  by_cases hpos:0 < q
  · have hp:(0:Int) < (q:Int):=by omega
    have j0:(0:Int) ≤ (q:Int):=by omega
    have j1:(q:Int) ≤ 9999:=by omega
    have hwr:IntKind.u8.wrap (48 + (q:Int).tmod 10) = 48 + (q:Int) % 10:=by
     rw [IntKind.wrap_u8',Int.tmod_eq_emod_of_nonneg j0];omega
    have hcv:=conv_dig wr ((q:Int) % 10) (by omega) (by omega)
    have ht:((q:Int) % 10).toNat = q % 10:=by omega
    rw [ht] at hcv
    have hsl:s.length ≤ 5:=by have:=HD.out.2;omega
    have hng:¬ 9223372036854775807 < 1 + s.length:=by omega
    go_wp2_with fail
    go_roundw
    case rel=>
     refine ⟨q / 10,(48 + UInt8.ofNat (q % 10)) :: s,by omega,by congr 1,rfl,?_,hB.alloc hz _⟩
     have h1:=HD.out.1
     rw [if_neg (by omega),dig_next s] at h1
     refine ⟨h1,?_⟩
     have h2:=HD.out.2
     rw [if_neg (by omega)] at h2
     have h3:=congrArg List.length (dig_next (q:=q) ([]:List UInt8))
     rw [List.append_nil] at h3
     by_cases h0:q / 10 = 0
     · rw [if_pos h0] at h3 ⊢
       simp only [List.length_singleton] at h3
       simp only [List.length_cons]
       omega
     · rw [if_neg h0] at h3 ⊢
       simp only [List.length_append,List.length_singleton] at h3
       simp only [List.length_cons]
       omega
    case measure=>simp [intOf];omega
  · obtain rfl:q = 0:=by omega
    have hp:¬ (0:Int) < ((0:Nat):Int):=by omega
    go_wp2_with fail
    go_ret
    have h1:=HD.out.1
    rw [if_pos rfl] at h1
    exact ⟨by rw [h1];rfl,hB⟩
end Go.Proofs.LF
