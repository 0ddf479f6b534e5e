/- Parts of the proof of a law of layer 11 (file): LfYas. The conditions stand in each theorem. -/
import Derived.Test.YtffjknkcogmnbaaGreatDoorProg
import Derived.Test.YtffjknkcogmnbaaGreatDoorSpae
import Derived.Test.YtffjknkcogmnbaaGreatDoorSpao
import Derived.Test.YtffjknkcogmnbaaGreatDoorSpap
import Derived.Test.YtffjknkcogmnbaaGreatDoorSpaq
import Derived.Test.YtffjknkcogmnbaaGreatDoorSpav
set_option linter.all false
set_option linter.unusedVariables false
set_option linter.unusedSimpArgs false
set_option linter.all false
set_option linter.unusedVariables false
set_option linter.unusedSimpArgs false
namespace Go.Proofs.LF
open Go.RowKit Go.Sort
set_option maxHeartbeats 4000000
set_option maxRecDepth 100000
attribute [local go_sem] q1_ q2_ q6_
theorem kyOf_ok {n:List UInt8} {l:List Int} (h1:zN_ n = false) (h2:kb_ l = false):OkK (kyOf n l):=by
 have h8:=vE_ h1
 cases l with
 | nil=>exact ⟨by simp [kyOf];omega,by simp [kyOf],by simp [kyOf]⟩
 | cons x l=>
   have:=kl_ h2 x (by simp)
   exact ⟨by simp [kyOf];omega,by simp [kyOf];omega,by simp [kyOf];omega⟩
theorem vy_:∀ (y:Fo) (up:List Ky),(∀ k ∈ up,OkK k)→(∀ x ∈ qa_ up y,OkN x)→∀ x ∈ qa_ up y,(∀ k ∈ x.up,OkK k)∧OkK (kyOf x.n x.l)
 | .nil,_,_,_,x,hx=>by simp [qa_] at hx
 | .cons n l s r,up,hu,hn,x,hx=>by
   simp only [qa_,List.mem_cons,List.mem_append] at hx hn
   have h0:=hn ⟨up,n,l,s⟩ (.inl rfl)
   have hk:=kyOf_ok (n:=n) (l:=l) h0.1 h0.2.2
   rcases hx with rfl | hx | hx
   · exact ⟨hu,hk⟩
   · refine vy_ s _ (fun k hk'=>?_) (fun z hz=>hn z (.inr (.inl hz))) x hx
     rcases List.mem_append.1 hk' with h | h
     · exact hu k h
     · simp only [List.mem_singleton] at h;rw [h];exact hk
   · exact vy_ r up hu (fun z hz=>hn z (.inr (.inr hz))) x hx
theorem jd_ {y:Fo} (h:qz_ y = 0):y.cnt ≤ 60:=by
 unfold qz_ at h
 split at h
 · assumption
 · omega
theorem xc_ {y:Fo} (h:qz_ y = 0):zD_ geK 0 none y = 0:=by
 unfold qz_ at h
 split at h
 · exact h
 · omega
theorem vT_ {y:Fo} (h:qz_ y = 0):SmF (flsL [] y)∧(∀ x ∈ flsL [] y,x.p.length ≤ 1000∧∀ k ∈ x.p,OkK k)∧(flsL [] y).length ≤ 60:=by
 have hn:=kC_ y _ _ [] (xc_ h)
 have hk:=vy_ y [] (by simp) hn
 have hc:=jd_ h
 have key:∀ x ∈ flsL [] y,x.p.length ≤ 1000∧x.l.length ≤ 1000∧∀ k ∈ x.p,OkK k:=by
  intro x hx
  simp only [flsL,List.mem_map] at hx
  obtain ⟨z,hz,rfl⟩:=hx
  have h1:=zF_ y [] z hz
  have h2:=(hn z hz).2.1
  refine ⟨by simp at h1 ⊢;omega,by simp only;omega,fun k hk'=>?_⟩
  rcases List.mem_append.1 hk' with h | h
  · exact (hk z hz).1 k h
  · simp only [List.mem_singleton] at h;rw [h];exact (hk z hz).2
 exact ⟨fun x hx=>⟨(key x hx).1,(key x hx).2.1,fun k hk'=>((key x hx).2.2 k hk').1⟩,fun x hx=>⟨(key x hx).1,(key x hx).2.2⟩,by rw [vF_];exact hc⟩
theorem jQ_ {p:List Ky}:∀ {r acc:List (List Ky)},p ∈ ddP acc r→p ∈ acc ∨ p ∈ r
 | [],_,h => .inl h
 | q :: r,acc,h=>by
   simp only [ddP] at h
   split at h
   · rcases jQ_ h with h | h
     · exact .inl h
     · exact .inr (by simp [h])
   · rcases jQ_ h with h | h
     · rcases List.mem_append.1 h with h | h
       · exact .inl h
       · simp only [List.mem_singleton] at h;exact .inr (by simp [h])
     · exact .inr (by simp [h])
theorem yq_ {ls:List (List Fl)} {p:List Ky} (h:p ∈ pthsF ls):∃ x ∈ ls.flatten,x.p = p:=by
 have h1:=(z2_ _).mem_iff.1 h
 rcases jQ_ h1 with h2 | h2
 · cases h2
 · obtain ⟨z,hz,e⟩:=List.mem_map.1 h2;exact ⟨z,hz,e⟩
theorem je_:∀ {r acc:List (List Ky)},(ddP acc r).length ≤ acc.length + r.length
 | [],_=>by simp [ddP]
 | q :: r,acc=>by
   simp only [ddP]
   split
   · have:=je_ (r:=r) (acc:=acc);simp only [List.length_cons];omega
   · have:=je_ (r:=r) (acc:=acc ++ [q]);simp only [List.length_append,List.length_cons,List.length_nil] at this ⊢;omega
theorem yB_ {ls:List (List Fl)}:(pthsF ls).length ≤ ls.flatten.length:=by
 have h1:=(z2_ (ddP [] (ls.flatten.map Fl.p))).length_eq
 have h2:=je_ (r:=ls.flatten.map Fl.p) (acc:=[])
 simp only [List.length_map,List.length_nil,Nat.zero_add] at h2
 unfold pthsF
 omega
theorem Tryz.info68':(Tryz.prog.info? 158).map (fun i=>(i.zero,i.size,i.bytes)) = some (some (.agg #[.slice none 0 0, .bool false, .bool false, .slice none 0 0, .slice none 0 0]),5,80):=by kernel_rfl
def w9_ (x y:Fo):Int:=if qz_ x ≠ 0 then qz_ x else qz_ y
def jA_ (x y:Fo):List Ch:=if w9_ x y = 0 then dfF (flsL [] x) (flsL [] y) else []
theorem Diff_u (x y:Fo) (ax ay:Option Addr) (cx cy:Nat) (S:Nat→Prop) (w:World) (hx:FSl S w (.slice ax x.len cx) x) (hy:FSl S w (.slice ay y.len cy) y) (hS:∀ b,S b→b < w.heap.size)
 (lx:x.len ≤ 1000) (ly:y.len ≤ 1000) (sx:x.Sm) (sy:y.Sm) (nx:x.cnt ≤ 900) (ny:y.cnt ≤ 900) (ht:Pow w) :
 Calls Tryz.prog 20 #[.slice ax x.len cx, .slice ay y.len cy] w fun e w'=>∃ a c,e = .returned (.tuple #[.slice a (jA_ x y).length c, .int .i64 (w9_ x y)])∧ChSl (US (Rg w.heap.size w'.heap.size) w') w' (.slice a (jA_ x y).length c) (jA_ x y)∧Below w.heap.size w w':=by
 obtain ⟨i0,hi0,hz0,hz1,hz2⟩:=info_parts Tryz.info68'
 have HX:=hid hx
 have HY:=hid hy
 have HS:=hid hS
 have HT:=hid ht
 have HSX:=hid sx
 have HSY:=hid sy
 have hb1:Below w.heap.size w (w.alloc (.cells #[.slice ax x.len cx, .slice ay y.len cy] 38)):=(Below.refl _ _).alloc (nl_ _) _
 have HB1:=hid hb1
 clear hx hy hS ht sx sy hb1
 go_enter Tryz.func20,Tryz.ntmps20
 go_upto_block 0 with fail
 go_cut [] from 6 (fun wx=>qz_ x = 0∧qz_ y = 0∧Below w.heap.size w wx)
 case first=>
  go_wp2_with fail
  go_loopw [22] (fun i wr=>∃ k:Nat,k ≤ 2∧i = .int .i64 k∧(0 < k→qz_ x = 0)∧(1 < k→qz_ y = 0)∧Below (w.heap.size + 1) (w.alloc (.cells #[.slice ax x.len cx, .slice ay y.len cy] 38)) wr) (fun i _=>2 - (intOf i).toNat)
  case atStart=>exact ⟨0,by omega,rfl,by omega,by omega,Below.refl _ _⟩
  case round=>
   obtain ⟨k,hk,rfl,h1,h2,hB⟩:=hrel
   have hwr:=(hB.block w.heap.size (by omega)).trans (ha_ _ _)
   have q0:=cg_ hwr (k:=0) rfl
   have q1:=cg_ hwr (k:=1) rfl
   have hBw:Below w.heap.size w wr:=HB1.out.trans (hB.mono (by omega))
   have hsz:=hBw.size
   have hag:qd_ S w wr:=q9_ hBw HS.out
   have hSr:∀ b,S b→b < wr.heap.size:=fun b hb=>by have:=HS.out b hb;omega
   have CX:=hid (za_ x ax cx S wr (HX.out.agree hag) hSr lx HSX.out nx)
   have CY:=hid (za_ y ay cy S wr (HY.out.agree hag) hSr ly HSY.out ny)
   have HBW:=hid hBw
   have hzb:=hB.size
   simp only [World.size_alloc] at hzb
   clear hwr hag hSr hBw
   obtain rfl | rfl | rfl:k = 0 ∨ k = 1 ∨ k = 2:=by omega
   · go_wp2_with fail
     refine CX.out.mono ?_
     rintro e w2 ⟨rfl,hb2⟩
     by_cases he:qz_ x = 0
     · have he':(qz_ x != 0) = false:=by simpa using he
       have HE:=hid he
       clear he
       go_wp2_with fail
       go_roundw
       case rel=>exact ⟨1,by omega,rfl,fun _=>HE.out,fun h=>by omega,hB.trans (hb2.mono (by omega))⟩
       case measure=>simp [intOf]
     · have he':(qz_ x != 0) = true:=by simpa using he
       have HE:=hid he
       clear he
       go_wp2_with fail
       have hd:w9_ x y = qz_ x:=by rw [w9_,if_pos HE.out]
       have hl:jA_ x y = []:=by rw [jA_,hd,if_neg HE.out]
       refine bodyPost_ret (v := .tuple #[.slice none 0 0, .int .i64 (qz_ x)]) (by simp [results,Tryz.results20,go_sem]) rfl ?_
       rw [hl,hd]
       exact ⟨none,0,rfl,⟨[],⟨rfl,none,0,rfl,nl_ _,by simp [maxLen],fun _=>rfl, .inl rfl⟩,rfl⟩,HBW.out.trans (hb2.mono hsz)⟩
   · have h1x:=h1 (by omega)
     have H1X:=hid h1x
     clear h1x h1
     go_wp2_with fail
     refine CY.out.mono ?_
     rintro e w2 ⟨rfl,hb2⟩
     by_cases he:qz_ y = 0
     · have he':(qz_ y != 0) = false:=by simpa using he
       have HE:=hid he
       clear he
       go_wp2_with fail
       go_roundw
       case rel=>exact ⟨2,by omega,rfl,fun _=>H1X.out,fun _=>HE.out,hB.trans (hb2.mono (by omega))⟩
       case measure=>simp [intOf]
     · have he':(qz_ y != 0) = true:=by simpa using he
       have HE:=hid he
       clear he
       go_wp2_with fail
       have hd:w9_ x y = qz_ y:=by rw [w9_,if_neg (by simpa using H1X.out)]
       have hl:jA_ x y = []:=by rw [jA_,hd,if_neg HE.out]
       refine bodyPost_ret (v := .tuple #[.slice none 0 0, .int .i64 (qz_ y)]) (by simp [results,Tryz.results20,go_sem]) rfl ?_
       rw [hl,hd]
       exact ⟨none,0,rfl,⟨[],⟨rfl,none,0,rfl,nl_ _,by simp [maxLen],fun _=>rfl, .inl rfl⟩,rfl⟩,HBW.out.trans (hb2.mono hsz)⟩
   · have H1X:=hid (h1 (by omega))
     have H2X:=hid (h2 (by omega))
     clear h1 h2
     go_wp2_with fail
     go_meet
     case rel=>exact ⟨H1X.out,H2X.out,HBW.out⟩
 case rest=>
  obtain ⟨h1,h2,hB⟩:=hcut
  have H1:=hid h1
  have H2:=hid h2
  have hsz:=hB.size
  have hag:qd_ S w wc:=q9_ hB HS.out
  have HBc:=hid hB
  have fx:=vT_ h1
  have fy:=vT_ h2
  have FX:=hid fx
  have FY:=hid fy
  obtain ⟨fa,hfa⟩:∃ fa,flsL [] x = fa:=⟨_,rfl⟩
  obtain ⟨fb,hfb⟩:∃ fb,flsL [] y = fb:=⟨_,rfl⟩
  have hd:w9_ x y = 0:=by rw [w9_,if_neg (by simpa using h1),h2]
  have hl:jA_ x y = dfF fa fb:=by rw [jA_,hd,if_pos rfl,hfa,hfb]
  have HL:=hid hl
  have HD:=hid hd
  have hflx:=vK_ x ax cx S wc (HX.out.agree hag) (fun b hb=>by have:=HS.out b hb;omega) lx HSX.out nx
  rw [hfa] at hflx
  have HFX:=hid hflx
  clear h1 h2 fx fy hd hl hflx hB hag
  go_wp2_with fail
  refine HFX.out.mono ?_
  rintro e w1 ⟨a1,c1,rfl,hF1,hb1⟩
  have hB1:=HBc.out.trans (hb1.mono hsz)
  have hag1:qd_ S w w1:=q9_ hB1 HS.out
  have hz1':=hB1.size
  have hzc1:=hb1.size
  have hfly:=vK_ y ay cy S w1 (HY.out.agree hag1) (fun b hb=>by have:=HS.out b hb;omega) ly HSY.out ny
  rw [hfb] at hfly
  have HFY:=hid hfly
  have HF1:=hid hF1
  have HB1':=hid hB1
  clear hfly hF1 hB1 hag1 hb1
  go_wp2_with fail
  refine HFY.out.mono ?_
  rintro e w2 ⟨a2,c2,rfl,hF2,hb2⟩
  have hz2':=hb2.size
  go_wp2_with fail
  have hb2':Below w.heap.size w w2:=HB1'.out.trans (hb2.mono hz1')
  have hbA:Below w.heap.size w (w2.alloc (.cells #[.slice a1 fa.length c1, .slice a2 fb.length c2] 90)):=hb2'.alloc (by omega) _
  have hbA2:Below w2.heap.size w2 (w2.alloc (.cells #[.slice a1 fa.length c1, .slice a2 fb.length c2] 90)):=(Below.refl _ _).alloc (nl_ _) _
  have hblk:=ha_ w2 (.cells #[.slice a1 fa.length c1, .slice a2 fb.length c2] 90)
  have hFA:FlSl (Rg wc.heap.size w2.heap.size) (w2.alloc (.cells #[.slice a1 fa.length c1, .slice a2 fb.length c2] 90)) (.slice a1 fa.length c1) fa:=
   LSl.wide ((LSl.agree HF1.out (q9_ hb2 fun b hb=>hb.2)).agree (q9_ hbA2 fun b hb=>by have:=hb.2;omega)) fun b hb=>⟨hb.1,by have:=hb.2;omega⟩
  have hFB:FlSl (Rg wc.heap.size w2.heap.size) (w2.alloc (.cells #[.slice a1 fa.length c1, .slice a2 fb.length c2] 90)) (.slice a2 fb.length c2) fb:=
   LSl.wide (hF2.agree (q9_ hbA2 fun b hb=>hb.2)) fun b hb=>⟨by have:=hb.1;omega,hb.2⟩
  have hLS:LSl rdLs (fun b=>b = w2.heap.size ∨ Rg wc.heap.size w2.heap.size b) (w2.alloc (.cells #[.slice a1 fa.length c1, .slice a2 fb.length c2] 90)) (.slice (some ⟨w2.heap.size,0,none⟩) [fa,fb].length 2) [fa,fb]:=by
   refine ⟨[.slice a1 fa.length c1, .slice a2 fb.length c2],⟨rfl,_,2,rfl,by simp,by simp [maxLen],(fun h=>by cases h), .inr ⟨_,0,rfl, .inl rfl,fun j u hj=>?_⟩⟩,_,_,rfl,⟨a1,c1,rfl,hFA.wide fun b hb => .inr hb⟩,_,_,rfl,⟨a2,c2,rfl,hFB.wide fun b hb => .inr hb⟩,rfl⟩
   have:=cg_ hblk (k:=j) (v:=u) (by simpa using hj)
   simpa using this
  have hfx:=FX.out
  have hfy:=FY.out
  rw [hfa] at hfx
  rw [hfb] at hfy
  have hlA:fa.length ≤ 60:=hfx.2.2
  have hlB:fb.length ≤ 60:=hfy.2.2
  have hpth:=xX_ [fa,fb] (some ⟨w2.heap.size,0,none⟩) 2 _ _ hLS (fun b hb=>by rcases hb with rfl | hb;simp;have:=hb.2;simp;omega) (by simp) (by simp;omega) (fun z hz=>by
   simp only [List.flatten_cons,List.flatten_nil,List.append_nil,List.mem_append] at hz
   rcases hz with hz | hz
   · exact hfx.2.1 z hz
   · exact hfy.2.1 z hz) (HT.out.below hbA)
  have HPT:=hid hpth
  have HFA:=hid hFA
  have HFB:=hid hFB
  have HBA:=hid hbA
  have SFA:=hid hfx.1
  have SFB:=hid hfy.1
  have OKA:=hid hfx.2.1
  have OKB:=hid hfy.2.1
  clear hpth hLS hFA hFB hblk hbA hbA2 hfx hfy hF2 hb2 hb2'
  refine HPT.out.mono ?_
  rintro e w3 ⟨a3,c3,rfl,hP3,hb3⟩
  obtain ⟨ps,hps⟩:∃ ps,pthsF [fa,fb] = ps:=⟨_,rfl⟩
  rw [hps] at hP3 ⊢
  have hz3:=hb3.size
  simp only [World.size_alloc] at hz3
  have hpl:ps.length ≤ 120:=by
   have:=yB_ (ls:=[fa,fb])
   rw [hps] at this
   simp at this;omega
  have hpm:∀ p ∈ ps,p.length ≤ 1000∧∀ k ∈ p,OkK k:=by
   intro p hp
   rw [← hps] at hp
   obtain ⟨z,hz,rfl⟩:=yq_ hp
   simp only [List.flatten_cons,List.flatten_nil,List.append_nil,List.mem_append] at hz
   rcases hz with hz | hz
   · exact OKA.out z hz
   · exact OKB.out z hz
  have hda:dfF fa fb = ps.filterMap (chD fa fb):=by rw [dfF,hps]
  have HDA:=hid hda
  have HPM:=hid hpm
  have HFA3:=hid (HFA.out.agree (q9_ hb3 fun b hb=>by have:=hb.2;simp;omega))
  have HFB3:=hid (HFB.out.agree (q9_ hb3 fun b hb=>by have:=hb.2;simp;omega))
  have HB3:=hid (HBA.out.trans (hb3.mono (by have:=HBA.out.size;simpa using this)))
  obtain ⟨S3,hSE⟩:∃ S3:Nat→Prop,S3 = fun b=>(b = w2.heap.size ∨ Rg wc.heap.size w2.heap.size b) ∨ Rg (w2.alloc (.cells #[.slice a1 fa.length c1, .slice a2 fb.length c2] 90)).heap.size w3.heap.size b:=⟨_,rfl⟩
  rw [← hSE] at hP3
  obtain ⟨a',c',he,hc,hcm,hat⟩:=hP3.at
  obtain ⟨rfl,rfl⟩:a3 = a'∧c3 = c':=by cases he;exact ⟨rfl,rfl⟩
  have HAT:=hid hat
  unfold maxLen at hcm
  have hS3:∀ b,S3 b→b < w3.heap.size:=fun b hb=>by
   rw [hSE] at hb
   rcases hb with (rfl | hb) | hb
   · omega
   · have:=hb.2;omega
   · exact hb.2
  have HS3:=hid hS3
  clear hda hpm hps hb3 hP3 he hat hS3 hfa hfb hSE
  go_wp2_with fail
  go_loopw [9,41] (fun v i wr=>∃ (k:Nat) (cs:List Value),k ≤ ps.length∧i = .int .i64 k∧wr.ownsRow w3.heap.size 158 5 v ((ps.take k).filterMap (chD fa fb)).length cs∧Hid (LCs ws_ (Rx w3.heap.size wr.heap.size v) wr ((ps.take k).filterMap (chD fa fb)) cs)∧Hid (Below w3.heap.size w3 wr)) (fun _ i _=>ps.length - (intOf i).toNat)
  case atStart=>exact ⟨0,[],by omega,rfl,World.ownsRow_nil _ _ _ _,rfl,Below.refl _ _⟩
  case round=>
   obtain ⟨k,cs,hk,rfl,hown,hlc,hB⟩:=hrel
   have hzr:=hB.out.size
   by_cases hlt:k < ps.length
   · have hlt':(k:Int) < (ps.length:Int):=by omega
     obtain ⟨g,o,cs1,rfl,hg,⟨ap,cp,rfl,hP⟩,hcell⟩:=HAT.out k hlt
     have c0:=(q9_ hB.out HS3.out).cell hg (hcell 0 _ rfl)
     rw [Nat.mul_one,Nat.add_zero] at c0
     have hpk:=HPM.out ps[k] (List.getElem_mem hlt)
     have htk:ps.take (k + 1) = ps.take k ++ [ps[k]]:=List.take_succ_eq_append_getElem hlt
     obtain ⟨p,hp⟩:∃ p,ps[k] = p:=⟨_,rfl⟩
     rw [hp] at c0 hP hpk htk
     have hll:((ps.take k).filterMap (chD fa fb)).length ≤ 120:=Nat.le_trans (List.length_filterMap_le _ _) (by rw [List.length_take];omega)
     have hFAr:=(LSl.agree HFA3.out (q9_ hB.out fun b hb=>by have:=hb.2;omega))
     have hFBr:=(LSl.agree HFB3.out (q9_ hB.out fun b hb=>by have:=hb.2;omega))
     have hPr:=hP.agree (q9_ hB.out HS3.out)
     have hsm:=v6_ fa fb p a1 a2 ap c1 c2 cp _ _ S3 wr hFAr (fun b hb=>by have:=hb.2;omega) hFBr (fun b hb=>by have:=hb.2;omega) hPr (fun b hb=>by have:=HS3.out b hb;omega) (by omega) (by omega) SFA.out SFB.out hpk.1
     have HSM:=hid hsm
     have HP3:=hid hP
     have HTK:=hid htk
     have HPK:=hid hpk
     clear hcell hP htk hpk hFAr hFBr hPr hsm hp
     go_wp2_with fail
     refine HSM.out.mono ?_
     rintro e w4 ⟨rfl,hb4⟩
     have hz4:=hb4.size
     have hB4:=hB.out.trans (hb4.mono hzr)
     have HB4:=hid hB4
     have how4:=ob_ hown hb4 (nl_ _)
     have hlc4:Hid (LCs ws_ (Rx w3.heap.size w4.heap.size u9) w4 ((ps.take k).filterMap (chD fa fb)) cs):=(hlc.out.agree (fun b hb=>hb4.block b hb.2.1)).wide fun b hb=>⟨hb.1,by have:=hb.2.1;omega,hb.2.2⟩
     clear hB4 hb4
     by_cases hse:smF fa fb p = true
     · have hch:chD fa fb p = none:=by rw [chD,if_pos hse]
       have hfm:(ps.take (k + 1)).filterMap (chD fa fb) = (ps.take k).filterMap (chD fa fb):=by rw [HTK.out,List.filterMap_append];simp [hch]
       have HFM:=hid hfm
       clear hch hfm
       go_wp2_with fail
       go_roundw
       case rel=>exact ⟨k + 1,cs,by omega,by go_num,by rw [HFM.out];exact how4,by rw [HFM.out];exact hlc4,HB4.out⟩
       case measure=>simp [intOf];omega
     · have hse':smF fa fb p = false:=by simpa using hse
       clear hse
       have hFA4:=(LSl.agree HFA3.out (q9_ HB4.out fun b hb=>by have:=hb.2;omega))
       have hFB4:=(LSl.agree HFB3.out (q9_ HB4.out fun b hb=>by have:=hb.2;omega))
       have hP4:=HP3.out.agree (q9_ HB4.out HS3.out)
       have HF4:=hid (zU_ fa p a1 ap c1 cp _ S3 w4 hFA4 (fun b hb=>by have:=hb.2;omega) hP4 (fun b hb=>by have:=HS3.out b hb;omega) (by omega) SFA.out HPK.out.1)
       have hlA2:=(xk_ (p:=p) SFA.out).2
       have hlB2:=(xk_ (p:=p) SFB.out).2
       have hchd:chD fa fb p = some ⟨p,(fnd fa p).isSome,(fnd fb p).isSome,((fnd fa p).getD fl0).l,((fnd fb p).getD fl0).l⟩:=by rw [chD,if_neg (by rw [hse'];simp)]
       have HCHD:=hid hchd
       have HFB4:=hid hFB4
       have HP4:=hid hP4
       clear hFA4 hFB4 hP4 hchd
       go_wp2_with fail
       refine HF4.out.mono ?_
       rintro e w5 ⟨ap5,cp5,an5,cn5,rfl,hp5,hi5,hb5⟩
       obtain ⟨xA,hxA⟩:∃ x,(fnd fa p).getD fl0 = x:=⟨_,rfl⟩
       obtain ⟨bA,hbA⟩:∃ x,(fnd fa p).isSome = x:=⟨_,rfl⟩
       rw [hxA] at hp5 hi5 hlA2 ⊢
       rw [hbA]
       have hch2:=HCHD.out
       rw [hxA,hbA] at hch2
       have HCH2:=hid hch2
       have hz5:=hb5.size
       have HB5:=hid ((HB4.out.trans (hb5.mono (by omega))).alloc (by omega) (.cells #[.slice ap5 xA.p.length cp5, .slice an5 xA.l.length cn5] 98))
       have hb5a:Below w4.heap.size w4 (w5.alloc (.cells #[.slice ap5 xA.p.length cp5, .slice an5 xA.l.length cn5] 98)):=hb5.alloc hz5 _
       have HF5:=hid (zU_ fb p a2 ap c2 cp _ S3 _ (LSl.agree HFB4.out (q9_ hb5a fun b hb=>by have:=hb.2;omega)) (fun b hb=>by have:=hb.2;simp;omega) (HP4.out.agree (q9_ hb5a fun b hb=>by have:=HS3.out b hb;omega)) (fun b hb=>by have:=HS3.out b hb;simp;omega) (by omega) SFB.out HPK.out.1)
       have HP5:=hid (HP4.out.agree (q9_ hb5a fun b hb=>by have:=HS3.out b hb;omega))
       have HI5:=hid (hi5.agree (q9_ (B:=w5.heap.size) (w':=w5.alloc (.cells #[.slice ap5 xA.p.length cp5, .slice an5 xA.l.length cn5] 98)) ((Below.refl _ _).alloc (nl_ _) _) (fun b hb=>by have:=hb.2;omega)))
       have HK5:=hid (ha_ w5 (.cells #[.slice ap5 xA.p.length cp5, .slice an5 xA.l.length cn5] 98))
       have how5:=ob_ how4 hb5a (nl_ _)
       have HLC5:Hid (LCs ws_ (Rx w3.heap.size w4.heap.size u9) (w5.alloc (.cells #[.slice ap5 xA.p.length cp5, .slice an5 xA.l.length cn5] 98)) ((ps.take k).filterMap (chD fa fb)) cs):=hlc4.out.agree (fun b hb=>hb5a.block b hb.2.1)
       have HB5A:=hid hb5a
       clear hxA hbA hch2 hp5 hi5 hb5 hb5a HCHD
       go_wp2_with fail
       refine HF5.out.mono ?_
       rintro e w6 ⟨ap6,cp6,an6,cn6,rfl,hp6,hi6,hb6⟩
       obtain ⟨xB,hxB⟩:∃ x,(fnd fb p).getD fl0 = x:=⟨_,rfl⟩
       obtain ⟨bB,hbB⟩:∃ x,(fnd fb p).isSome = x:=⟨_,rfl⟩
       rw [hxB] at hp6 hi6 hlB2 ⊢
       rw [hbB]
       have hch2:=HCH2.out
       rw [hxB,hbB] at hch2
       have HCH3:=hid hch2
       have hz6:=hb6.size
       simp only [World.size_alloc] at hz6
       obtain ⟨W7,hW7⟩:∃ W7,w6.alloc (.cells #[.slice ap6 xB.p.length cp6, .slice an6 xB.l.length cn6] 98) = W7:=⟨_,rfl⟩
       have hz7:W7.heap.size = w6.heap.size + 1:=by rw [← hW7];simp
       have hb57:Below (w5.heap.size + 1) (w5.alloc (.cells #[.slice ap5 xA.p.length cp5, .slice an5 xA.l.length cn5] 98)) W7:=by
        rw [← hW7];exact (hb6.mono (by simp)).alloc (by omega) _
       have hB7:Below w3.heap.size w3 W7:=HB5.out.trans (hb57.mono (by have:=HB5.out.size;simp only [World.size_alloc] at this;omega))
       have hk7a:W7.heap[w5.heap.size]? = some (.cells #[.slice ap5 xA.p.length cp5, .slice an5 xA.l.length cn5] 98 (0,0)):=(hb57.block _ (by omega)).trans HK5.out
       have hk7b:W7.heap[w6.heap.size]? = some (.cells #[.slice ap6 xB.p.length cp6, .slice an6 xB.l.length cn6] 98 (0,0)):=by rw [← hW7];exact ha_ _ _
       have hP7:Pth S3 W7 (.slice ap p.length cp) p:=HP5.out.agree (fun b hb=>hb57.block b (by have:=HS3.out b hb;omega))
       have hIA7:qF_ (Rg wc.heap.size w2.heap.size) W7 (.slice an5 xA.l.length cn5) xA.l:=HI5.out.agree (fun b hb=>hb57.block b (by have:=hb.2;omega))
       have hIB7:qF_ (Rg wc.heap.size w2.heap.size) W7 (.slice an6 xB.l.length cn6) xB.l:=hi6.agree (fun b hb=>by rw [← hW7];exact heap_alloc_old _ _ (by have:=hb.2;omega))
       have how7:W7.ownsRow w3.heap.size 158 5 u9 ((ps.take k).filterMap (chD fa fb)).length cs:=owns_agree how5 fun g hg=>hb57.block g (by have:=(how4.lt g hg).2;omega)
       have hlc7:LCs ws_ (Rx w3.heap.size W7.heap.size u9) W7 ((ps.take k).filterMap (chD fa fb)) cs:=(HLC5.out.agree (fun b hb=>hb57.block b (by have:=hb.2.1;omega))).wide fun b hb=>⟨hb.1,by have:=hb.2.1;omega,hb.2.2⟩
       have HB7:=hid hB7
       have q1:=cg_ hk7a (k:=1) rfl
       have q2:=cg_ hk7b (k:=1) rfl
       have HP7:=hid hP7
       have HIA7:=hid hIA7
       have HIB7:=hid hIB7
       have HLC7:=hid hlc7
       have HZ7:=hid hz7
       have hl57:w5.heap.size < W7.heap.size:=by omega
       have hl67:w6.heap.size < W7.heap.size:=by omega
       have hl27:w2.heap.size < W7.heap.size:=by omega
       have hl37:w3.heap.size ≤ W7.heap.size:=by omega
       clear hxB hbB hch2 hp6 hi6 hb6 hb57 hB7 hk7a hk7b hP7 hIA7 hIB7 hlc7 hz7 HCH2 how4 how5
       go_wp2_with fail
       clear hW7
       have hne5:u9.ownBlock ≠ some w5.heap.size:=fun e=>by have:=(hown.lt _ e).2;omega
       have hne6:u9.ownBlock ≠ some w6.heap.size:=fun e=>by have:=(hown.lt _ e).2;omega
       go_region_held3 (fun w'=>w'.cell? ⟨w5.heap.size,1,none⟩ = some (.slice an5 xA.l.length cn5)∧w'.cell? ⟨w6.heap.size,1,none⟩ = some (.slice an6 xB.l.length cn6))
        (first
          | (go_split_ands
             with_reducible refine ⟨bc_ hb8 ?_ ?_,bc_ hb8 ?_ ?_⟩
             all_goals (first | (with_reducible assumption) | (simp;omega)))
          | (go_split_ands
             with_reducible refine ⟨bc_ hb9 ?_ ?_,bc_ hb9 ?_ ?_⟩
             all_goals (first | (with_reducible assumption) | (have:=hb8.size;simp at this;omega)))
          | (go_split_ands
             with_reducible refine ⟨bc_ hb10 ?_ ?_,bc_ hb10 ?_ ?_⟩
             all_goals (first | (with_reducible assumption) | (have:=hb8.size;have:=hb9.size;simp at *;omega)))
          | (go_split_ands
             exact ⟨qh_ hgrow11 hne5 (by with_reducible assumption),qh_ hgrow11 hne6 (by with_reducible assumption)⟩)
          | go_keep)
        (first
          | (go_at_call 31; refine (cloneK_u p ap cp S3 _ (Pth.agree HP7.out (q9_ (B := W7.heap.size) ((Below.refl _ _).drew) (fun b hb => by have := HS3.out b hb; omega))) (fun b hb => by have := HS3.out b hb; simp; omega) HPK.out.1).mono ?_
             rintro e w8 ⟨a8,c8,rfl,hp8,hb8⟩
             have hb8':Hid (Below W7.heap.size W7 w8):=⟨hb8.os,hb8.tape,hb8.output,hb8.size,hb8.block⟩)
          | (go_at_call 65; refine (km_ xA.l an5 cn5 (Rg wc.heap.size w2.heap.size) w8 (HIA7.out.agree (q9_ hb8'.out (fun b hb => by have := hb.2; omega))) hlA2).mono ?_
             rintro e w9 ⟨a9,c9,rfl,hi9,hb9⟩)
          | (go_at_call 65; refine (km_ xB.l an6 cn6 (Rg wc.heap.size w2.heap.size) w9 (HIB7.out.agree ((q9_ hb8'.out (fun b hb => by have := hb.2; omega)).trans (q9_ hb9 (fun b hb => by have := hb.2; have := hb8'.out.size; omega)))) hlB2).mono ?_
             rintro e w10 ⟨a10,c10,rfl,hi10,hb10⟩
             have hz10:W7.heap.size ≤ w8.heap.size∧w8.heap.size ≤ w9.heap.size∧w9.heap.size ≤ w10.heap.size:=⟨hb8'.out.size,hb9.size,hb10.size⟩
             have how10:Hid (w10.ownsRow w3.heap.size 158 5 u9 ((ps.take k).filterMap (chD fa fb)).length cs):=ob_ (ob_ (ob_ how7 hb8'.out (nl_ _)) hb9 (nl_ _)) hb10 (nl_ _))
          | (refine k2_ _ rfl _ _ _ rfl w3.heap.size 158 i0 _ 5 80 Tryz.underlying67 hi0 hz0 hz1 hz2 rfl (by omega) u9 ((ps.take k).filterMap (chD fa fb)).length cs rfl (how10.out.alloc _) (some ⟨w10.heap.size, 0, none⟩) 1 1 [.slice a8 p.length c8, .bool bA, .bool bB, .slice a9 xA.l.length c9, .slice a10 xB.l.length c10] rfl rfl (fun h => by cases h) (fun ad had => by cases had; exact World.news_of_block (cs := #[.slice a8 p.length c8, .bool bA, .bool bB, .slice a9 xA.l.length c9, .slice a10 xB.l.length c10]) (t := 158) (fr := (0, 0)) (ha_ _ _)) (by simp [Value.oneCell']) (by unfold maxLen; omega) (by omega) (by simp; omega) ?_
             intro a11 c11 w11 hown11 hgrow11 hat11))
       have hfm:(ps.take (k + 1)).filterMap (chD fa fb) = (ps.take k).filterMap (chD fa fb) ++ [⟨p,bA,bB,xA.l,xB.l⟩]:=by
        rw [HTK.out,List.filterMap_append];simp [HCH3.out]
       have HFM:=hid hfm
       clear hfm
       have hb78:=hb8'.out
       have hbW:Below W7.heap.size W7 (w10.alloc (.cells #[.slice a8 p.length c8, .bool bA, .bool bB, .slice a9 xA.l.length c9, .slice a10 xB.l.length c10] 158)):=(hb78.trans ((hb9.trans (hb10.mono hb9.size)).mono hb78.size)).alloc (by omega) _
       obtain ⟨g11,cap11,he11,hg11,hlt11⟩:=hown11.form (by omega)
       cases he11
       have st:Step w3.heap.size W7 (w10.alloc (.cells #[.slice a8 p.length c8, .bool bA, .bool bB, .slice a9 xA.l.length c9, .slice a10 xB.l.length c10] 158)) w11 u9 g11:=⟨hbW,⟨hgrow11.os,hgrow11.tape,hgrow11.output,hgrow11.size,hgrow11.block⟩,hl37,fun b hb=>how7.lt b hb,hat11 g11 rfl,hlt11⟩
       have hv':(Value.slice (some ⟨g11,0,none⟩) (((ps.take k).filterMap (chD fa fb)).length + 1) c11).ownBlock = some g11:=rfl
       have n1:=st.keep (Stable.lcs _ _) hv' HLC7.out
       have n2:=st.lift (p:=W7.heap.size) (q:=w8.heap.size) (Stable.pthu _ _) hv' hp8 (nl_ _) (by simp;omega) ((hb9.trans (hb10.mono hb9.size)).alloc (by omega) _)
       have n3:=st.lift (Stable.intu _ _) hv' hi9 (by omega) (by simp;omega) (hb10.alloc (by omega) _)
       have n4:=st.lift (Stable.intu _ _) hv' hi10 (by omega) (by simp) ((Below.refl _ _).alloc (nl_ _) _)
       have n5:=st.out HB7.out
       have n6:Hid (LCs ws_ (Rx w3.heap.size w11.heap.size (.slice (some ⟨g11,0,none⟩) (((ps.take k).filterMap (chD fa fb)).length + 1) c11)) w11 ((ps.take k).filterMap (chD fa fb) ++ [⟨p,bA,bB,xA.l,xB.l⟩]) (cs ++ [.slice a8 p.length c8, .bool bA, .bool bB, .slice a9 xA.l.length c9, .slice a10 xB.l.length c10])):=
        n1.app (LCs.single ⟨a8,c8,a9,c9,a10,c10,rfl,n2,n3,n4⟩)
       clear n1 n2 n3 n4 st hbW hb78 hp8 hb8 hi9 hb9 hi10 hb10
       go_wp2_with fail
       go_roundw
       case rel=>exact ⟨k + 1,_,by omega,by go_num,by rw [HFM.out,List.length_append];exact hown11,by rw [HFM.out];exact n6,n5⟩
       case measure=>simp [intOf];omega
   · obtain rfl:k = ps.length:=by omega
     have hlt':¬ (ps.length:Int) < (ps.length:Int):=by omega
     go_wp2_with fail
     obtain ⟨a9,c9,rfl,_,_⟩:=owns_shape hown
     rw [List.take_length] at hown hlc ⊢
     refine bodyPost_ret (v := .tuple #[.slice a9 (ps.filterMap (chD fa fb)).length c9, .int .i64 0]) (by simp [results,Tryz.results20,go_sem]) rfl ?_
     rw [HL.out,HD.out,HDA.out]
     have h3w:=HB3.out.size
     exact ⟨a9,c9,rfl,⟨cs,SlC.wide (SlC.of_owns_u hown) (US.wide fun b hb=>⟨by have:=hb.1;omega,hb.2⟩),lcs_chU (hlc.out.wide fun b hb=>⟨by have:=hb.1;omega,hb.2.1⟩)⟩,HB3.out.trans (hB.out.mono h3w)⟩
theorem Diff_any (x y:Fo) (ax ay:Option Addr) (cx cy:Nat) (S:Nat→Prop) (w:World) (hx:FSl S w (.slice ax x.len cx) x) (hy:FSl S w (.slice ay y.len cy) y) (hS:∀ b,S b→b < w.heap.size)
 (lx:x.len ≤ 1000) (ly:y.len ≤ 1000) (sx:x.Sm) (sy:y.Sm) (nx:x.cnt ≤ 900) (ny:y.cnt ≤ 900) (ht:Pow w) :
 Calls Tryz.prog 20 #[.slice ax x.len cx, .slice ay y.len cy] w fun e w'=>∃ a c,e = .returned (.tuple #[.slice a (jA_ x y).length c, .int .i64 (w9_ x y)])∧ChSl (Rg w.heap.size w'.heap.size) w' (.slice a (jA_ x y).length c) (jA_ x y)∧Below w.heap.size w w':=
 (Diff_u x y ax ay cx cy S w hx hy hS lx ly sx sy nx ny ht).mono fun _ _ ⟨a,c,he,h1,hb⟩=>⟨a,c,he,h1.wide fun b hb=>hb.1,hb⟩
def rdYs:Rd Fo 1 where
 R S w x cs:=∃ ap cp,cs = [.slice ap x.len cp]∧FSl S w (.slice ap x.len cp) x
 len:=by rintro S w x cs ⟨_,_,rfl,_⟩;rfl
 one:=by rintro S w x cs ⟨_,_,rfl,_⟩ u hu;simp at hu;rcases hu with rfl;rfl
 agree:=by rintro S w w' x cs ⟨a,b,rfl,h1⟩ ha;exact ⟨a,b,rfl,h1.agree ha⟩
 wide:=by rintro S w w' x cs ⟨a,b,rfl,h1⟩ ha;exact ⟨a,b,rfl,h1.wide ha⟩
def cpE:List Fo→Int
 | []=>0
 | y :: r=>if qz_ y ≠ 0 then qz_ y else cpE r
def cpL (ls:List Fo):List (List Fl):=if cpE ls = 0 then ls.map (flsL []) else []
theorem xl_:∀ {k:Nat} {ls:List Fo},(∀ y ∈ ls.take k,qz_ y = 0)→cpE ls = cpE (ls.drop k)
 | 0,_,_=>rfl
 | _ + 1,[],_=>rfl
 | k + 1,y :: r,h=>by
   have h0:=h y (by simp)
   rw [cpE,if_neg (by rw [h0];simp)]
   exact xl_ (k:=k) (ls:=r) (fun z hz=>h z (by simp [hz]))
theorem Tryz.info167:(Tryz.prog.info? 90).map (fun i=>(i.zero,i.size,i.bytes)) = some (some (.slice none 0 0),1,24):=by kernel_rfl
def CopR (ls:List Fo) (w:World) (e:Ending) (w':World):Prop:=
 ∃ a c,e = .returned (.tuple #[.slice a (cpL ls).length c, .int .i64 (cpE ls)])∧LSl rdLs (Rg w.heap.size w'.heap.size) w' (.slice a (cpL ls).length c) (cpL ls)∧Below w.heap.size w w'
theorem wf_ (ls:List Fo) (a:Option Addr) (c:Nat) (S:Nat→Prop) (w:World) (hv:LSl rdYs S w (.slice a ls.length c) ls) (hS:∀ b,S b→b < w.heap.size) (hl:ls.length ≤ 1000)
 (hok:∀ y ∈ ls,y.len ≤ 1000∧y.Sm∧y.cnt ≤ 900):Calls Tryz.prog 28 #[.slice a ls.length c] w (CopR ls w):=by
 obtain ⟨a',c',he,hc,hcm,hat⟩:=hv.at
 obtain ⟨rfl,rfl⟩:a = a'∧c = c':=by cases he;exact ⟨rfl,rfl⟩
 obtain ⟨i0,hi0,hz0,hz1,hz2⟩:=info_parts Tryz.info167
 have HAT:=hid hat
 have HS:=hid hS
 have HOK:=hid hok
 clear hat hS he hv hok
 unfold maxLen at hcm
 go_enter Tryz.func28,Tryz.ntmps28
 go_wp2_with fail
 go_loopw [4,10] (fun v i wr=>∃ (k:Nat) (cs:List Value),k ≤ ls.length∧i = .int .i64 k∧wr.ownsRow w.heap.size 90 1 v k cs∧Hid (LCs rdLs (Rx w.heap.size wr.heap.size v) wr ((ls.take k).map (flsL [])) cs)∧Hid (∀ y ∈ ls.take k,qz_ y = 0)∧Hid (Below w.heap.size w wr)) (fun _ i _=>ls.length - (intOf i).toNat)
 case atStart=>exact ⟨0,[],by omega,rfl,World.ownsRow_nil _ _ _ _,rfl,(fun y hy=>by simp at hy),Below.refl _ _⟩
 case round=>
  obtain ⟨k,cs,hk,rfl,hown,hlc,hz,hB⟩:=hrel
  have hsz:=hB.out.size
  by_cases hlt:k < ls.length
  · have hlt':(k:Int) < (ls.length:Int):=by omega
    obtain ⟨g,o,cs1,rfl,hg,⟨ap,cp,rfl,hF⟩,hcell⟩:=HAT.out k hlt
    have c0:=(q9_ hB.out HS.out).cell hg (hcell 0 _ rfl)
    rw [Nat.mul_one,Nat.add_zero] at c0
    have hok:=HOK.out ls[k] (List.getElem_mem hlt)
    have htk:ls.take (k + 1) = ls.take k ++ [ls[k]]:=List.take_succ_eq_append_getElem hlt
    have hdk:ls.drop k = ls[k] :: ls.drop (k + 1):=List.drop_eq_getElem_cons hlt
    obtain ⟨y,hy⟩:∃ y,ls[k] = y:=⟨_,rfl⟩
    rw [hy] at c0 hF hok htk hdk
    have CK:=hid (za_ y ap cp S wr (hF.agree (q9_ hB.out HS.out)) (fun b hb=>by have:=HS.out b hb;omega) hok.1 hok.2.1 hok.2.2)
    have HF:=hid hF
    have HOKY:=hid hok
    have HTK:=hid htk
    have HDK:=hid hdk
    clear hcell hF hok htk hdk hy
    go_wp2_with fail
    refine CK.out.mono ?_
    rintro e w2 ⟨rfl,hb2⟩
    have hz2':=hb2.size
    have HB2:=hid (hB.out.trans (hb2.mono hsz))
    have how2:=ob_ hown hb2 (nl_ _)
    have hlc2:LCs rdLs (Rx w.heap.size w2.heap.size u4) w2 ((ls.take k).map (flsL [])) cs:=(hlc.out.agree (q9_ hb2 (fun b hb=>hb.2.1))).wide (fun b hb=>⟨hb.1,by have:=hb.2.1;omega,hb.2.2⟩)
    have HLC2:=hid hlc2
    clear hlc2
    clear hb2
    by_cases hcy:qz_ y = 0
    · have hcy':(qz_ y != 0) = false:=by simpa using hcy
      have HCY:=hid hcy
      have FL:=hid (vK_ y ap cp S w2 (HF.out.agree (q9_ HB2.out HS.out)) (fun b hb=>by have:=HS.out b hb;omega) HOKY.out.1 HOKY.out.2.1 HOKY.out.2.2)
      clear hcy
      go_wp2_with fail
      refine FL.out.mono ?_
      rintro e w3 ⟨a3,c3,rfl,hF3,hb3⟩
      have hz3:=hb3.size
      have how3:=ob_ how2 hb3 (by omega)
      have hkk:k ≤ 1000:=by omega
      go_wp2_with (at_builtin;refine (q5_ _ rfl _ _ _ rfl w.heap.size 90 i0 _ 1 24 Tryz.underlying87 hi0 hz0 hz1 hz2 rfl (by omega) u4 k cs rfl (how3.alloc _) (some ⟨w3.heap.size,0,none⟩) 1 1 [.slice a3 (flsL [] y).length c3] rfl rfl (fun h=>by cases h) (fun ad had=>by cases had;exact World.news_of_block (cs:=#[.slice a3 (flsL [] y).length c3]) (t:=90) (fr:=(0,0)) (ha_ _ _)) (by simp [Value.oneCell']) (by unfold maxLen;omega) (by omega) (by simp;omega) ?_);intro a4 c4 w4 hown4 hgrow4 hat4)
      obtain ⟨g4,cap4,he4,hg4,hlt4⟩:=hown4.form (by omega)
      cases he4
      have st:Step w.heap.size w2 (w3.alloc (.cells #[.slice a3 (flsL [] y).length c3] 90)) w4 u4 g4:=⟨hb3.alloc hz3 _,⟨hgrow4.os,hgrow4.tape,hgrow4.output,hgrow4.size,hgrow4.block⟩,by omega,fun b hb=>how2.lt b hb,hat4 g4 rfl,hlt4⟩
      have hv':(Value.slice (some ⟨g4,0,none⟩) (k + 1) c4).ownBlock = some g4:=rfl
      have n1:=st.keep (Stable.lcs _ _) hv' HLC2.out
      have n2:=st.lift (Stable.lsl _ _) hv' hF3 (nl_ _) (by simp) ((Below.refl _ _).alloc (nl_ _) _)
      have n3:=st.out HB2.out
      have n4:Hid (LCs rdLs (Rx w.heap.size w4.heap.size (.slice (some ⟨g4,0,none⟩) (k + 1) c4)) w4 ((ls.take (k + 1)).map (flsL [])) (cs ++ [.slice a3 (flsL [] y).length c3])):=by
       rw [HTK.out,List.map_append]
       exact n1.app (LCs.single ⟨a3,c3,rfl,n2⟩)
      have n5:Hid (∀ z ∈ ls.take (k + 1),qz_ z = 0):=fun z hz'=>by
       rw [HTK.out] at hz'
       rcases List.mem_append.1 hz' with h | h
       · exact hz.out z h
       · simp only [List.mem_singleton] at h;rw [h];exact HCY.out
      clear n1 n2 st
      go_roundw
      case rel=>exact ⟨k + 1,_,by omega,by go_num,hown4,n4,n5,n3⟩
      case measure=>simp [intOf];omega
    · have hcy':(qz_ y != 0) = true:=by simpa using hcy
      have hE:cpE ls = qz_ y:=by rw [xl_ hz.out,HDK.out,cpE,if_pos hcy]
      have hL:cpL ls = []:=by rw [cpL,if_neg (by rw [hE];exact hcy)]
      have HE:=hid hE
      have HL:=hid hL
      clear hE hL hcy
      go_wp2_with fail
      refine bodyPost_ret (v := .tuple #[.slice none 0 0, .int .i64 (qz_ y)]) (by simp [results,Tryz.results28,go_sem]) rfl ?_
      exact ⟨none,0,by rw [HE.out,HL.out];rfl,by rw [HL.out];exact ⟨[],⟨rfl,none,0,rfl,nl_ _,by simp [maxLen],fun _=>rfl, .inl rfl⟩,rfl⟩,HB2.out⟩
  · obtain rfl:k = ls.length:=by omega
    have hlt':¬ (ls.length:Int) < (ls.length:Int):=by omega
    have hE:cpE ls = 0:=by rw [xl_ hz.out,List.drop_length];rfl
    have hL:cpL ls = ls.map (flsL []):=by rw [cpL,if_pos hE]
    have HE:=hid hE
    have HL:=hid hL
    clear hE hL
    go_wp2_with fail
    obtain ⟨a9,c9,rfl,_,_⟩:=owns_shape hown
    refine bodyPost_ret (v := .tuple #[.slice a9 ls.length c9, .int .i64 0]) (by simp [results,Tryz.results28,go_sem]) rfl ?_
    have hlc':=hlc.out
    rw [List.take_length] at hlc'
    refine ⟨a9,c9,by rw [HE.out,HL.out,List.length_map],?_,hB.out⟩
    rw [HL.out]
    exact ⟨cs,by rw [List.length_map];exact SlC.of_owns hown,hlc'.wide fun b hb=>⟨hb.1,hb.2.1⟩⟩
theorem Pth.init {S:Nat→Prop} {w:World} {a:Option Addr} {m c:Nat} {p:List Ky} (h:Pth S w (.slice a (m + 1) c) p) (hm:p.length = m + 1):Pth S w (.slice a m c) p.dropLast:=by
 obtain ⟨h0,a',c',he,h1,h2,h3,h4⟩:=h
 simp only [Value.slice.injEq] at he
 obtain ⟨rfl,_,rfl⟩:=he
 have hd:p.dropLast.length = m:=by simp [hm]
 refine ⟨zm_ _,a,c,by rw [hd],by omega,h2,h3,?_⟩
 rcases h4 with h4 | ⟨g,o,h5,h6,h7⟩
 · omega
 · refine .inr ⟨g,o,h5,h6,fun j u hj=>h7 j u ?_⟩
   have hp:p = p.dropLast ++ [p.getLast (by intro e;rw [e] at hm;simp at hm)]:=(List.dropLast_concat_getLast _).symm
   rw [hp,List.flatMap_append,List.getElem?_append_left (List.getElem?_eq_some_iff.1 hj).1]
   exact hj
theorem jp_:∀ (l kept:List Fl) (out:List (List Ky)),(lsF kept out l).1.length + (lsF kept out l).2.length = kept.length + out.length + l.length
 | [],_,_=>by simp [lsF]
 | f :: r,kept,out=>by
   simp only [lsF]
   split
   · rw [jp_];simp;omega
   · rw [jp_];simp;omega
def LooR (l:List Fl) (S:Nat→Prop) (w:World) (e:Ending) (w':World):Prop:=
 ∃ a c a' c',e = .returned (.tuple #[.slice a (lsF [] [] l).1.length c, .slice a' (lsF [] [] l).2.length c'])∧FlSl (fun b=>S b ∨ Rg w.heap.size w'.heap.size b) w' (.slice a (lsF [] [] l).1.length c) (lsF [] [] l).1 ∧
  PaSl (fun b=>S b ∨ Rg w.heap.size w'.heap.size b) w' (.slice a' (lsF [] [] l).2.length c') (lsF [] [] l).2∧Below w.heap.size w w'
theorem loose_any (l:List Fl) (a:Option Addr) (c:Nat) (S:Nat→Prop) (w:World) (hv:FlSl S w (.slice a l.length c) l) (hS:∀ b,S b→b < w.heap.size) (hl:l.length ≤ 1000) (hsm:SmF l) (hne:∀ x ∈ l,x.p ≠ []) :
 Calls Tryz.prog 33 #[.slice a l.length c] w (LooR l S w):=by
 obtain ⟨a',c',he,hc,hcm,hat⟩:=hv.at
 obtain ⟨rfl,rfl⟩:a = a'∧c = c':=by cases he;exact ⟨rfl,rfl⟩
 obtain ⟨i0,hi0,hz0,hz1,hz2⟩:=info_parts Tryz.info171''
 obtain ⟨j0,hj0,hy0,hy1,hy2⟩:=info_parts Tryz.info65'
 have HAT:=hid hat
 have HS:=hid hS
 have HSM:=hid hsm
 have HNE:=hid hne
 clear hat hS he hv hsm hne
 unfold maxLen at hcm
 go_enter Tryz.func33,Tryz.ntmps33
 go_wp2_with fail
 go_loopw [4,5,13] (fun v v2 i wr=>∃ (k:Nat) (K:List Fl) (O:List (List Ky)) (cs ds:List Value),k ≤ l.length∧i = .int .i64 k∧K.length ≤ k∧O.length ≤ k∧Hid (lsF [] [] l = lsF K O (l.drop k)) ∧
  wr.ownsRow w.heap.size 98 2 v K.length cs∧Hid (LCs xn_ S wr K cs)∧Hid (SmF K)∧wr.ownsRow w.heap.size 92 1 v2 O.length ds∧Hid (LCs vP_ S wr O ds)∧Hid (∀ b,v.ownBlock = some b→v2.ownBlock ≠ some b)∧Hid (Below w.heap.size w wr)) (fun _ _ i _=>l.length - (intOf i).toNat)
 case atStart=>exact ⟨0,[],[],[],[],by omega,rfl,by simp,by simp,rfl,World.ownsRow_nil _ _ _ _,rfl,(fun x hx=>by cases hx),World.ownsRow_nil _ _ _ _,rfl,(fun b hb=>by simp [Value.ownBlock] at hb),Below.refl _ _⟩
 case round=>
  obtain ⟨k,K,O,cs,ds,hk,rfl,hKk,hOk,hD,hown,hlc,hsK,hown2,hlc2,hsep,hB⟩:=hrel
  have hsz:=hB.out.size
  by_cases hlt:k < l.length
  · have hlt':(k:Int) < (l.length:Int):=by omega
    obtain ⟨g,o,cs1,rfl,hg,⟨ap,cp,an,cn,rfl,hP,hI⟩,hcell⟩:=HAT.out k hlt
    have hag:=q9_ hB.out HS.out
    have c0:=hag.cell hg (hcell 0 _ rfl)
    have c1:=hag.cell hg (hcell 1 _ rfl)
    rw [Nat.add_zero] at c0
    rw [← Nat.add_assoc] at c1
    have hm0:=List.getElem_mem hlt
    have hdrop:l.drop k = l[k] :: l.drop (k + 1):=List.drop_eq_getElem_cons hlt
    have hsx:=HSM.out l[k] hm0
    have hnx:=HNE.out l[k] hm0
    obtain ⟨x,hx⟩:∃ x,l[k] = x:=⟨_,rfl⟩
    rw [hx] at c0 c1 hP hI hdrop hsx hnx
    obtain ⟨m,hm⟩:∃ m,x.p.length = m + 1:=⟨x.p.length - 1,by have:=List.length_pos_iff.2 hnx;omega⟩
    rw [hm] at c0 hP
    have hm1:m ≤ 1000:=by have:=hsx.1;omega
    obtain ⟨aK,cK,rfl,hcK,hcKm⟩:=owns_shape hown
    have hb1:Below wr.heap.size wr (wr.alloc (.cells #[.slice ap (m + 1) cp, .slice an x.l.length cn] 98)):=(Below.refl _ _).alloc (nl_ _) _
    have hdl:x.p.dropLast.length = m:=by simp [hm]
    have hPc:=(SlC.caps (show SlC S w 3 (.slice ap (m + 1) cp) (m + 1) _ by have:=hP;unfold Pth at this;rwa [hm] at this))
    have hfind:=zU_ K x.p.dropLast aK ap cK cp (fun b=>S b ∨ Rg w.heap.size wr.heap.size b) S (wr.alloc (.cells #[.slice ap (m + 1) cp, .slice an x.l.length cn] 98)) ⟨cs,((SlC.of_owns hown).wide (fun b hb=>Or.inr hb)).agree (q9_ hb1 (fun b hb=>hb.elim (fun h=>by have:=HS.out b h;omega) (fun h=>h.2))),(hlc.out.wide (fun b hb=>Or.inl hb)).agree (q9_ hb1 (fun b hb=>hb.elim (fun h=>by have:=HS.out b h;omega) (fun h=>h.2)))⟩
     (fun b hb=>by rcases hb with h | h;(have:=HS.out b h;simp;omega);(have:=h.2;simp;omega)) (by rw [hdl];exact (Pth.init (hP.agree hag) hm).agree (q9_ hb1 (fun b hb=>by have:=HS.out b hb;omega))) (fun b hb=>by have:=HS.out b hb;simp;omega) (by omega) hsK.out (by omega)
    rw [hdl] at hfind
    have HFI:=hid hfind
    have HDR:=hid hdrop
    have HSX:=hid hsx
    have HP:=hid (hP.agree hag)
    have HI:=hid (hI.agree hag)
    have HN1:=hid (ha_ wr (.cells #[.slice ap (m + 1) cp, .slice an x.l.length cn] 98))
    have HB1:=hid hb1
    have HM:=hid hm
    have q0:=cg_ HN1.out (k:=0) rfl
    clear hfind hcell hP hI hdrop hsx hnx hx hag hb1 hm0 hm hdl
    go_wp2_with fail
    refine HFI.out.mono ?_
    rintro e w2 ⟨ap2,cp2,an2,cn2,rfl,_,_,hb2⟩
    obtain ⟨xA,hxA⟩:∃ z,(fnd K x.p.dropLast).getD fl0 = z:=⟨_,rfl⟩
    obtain ⟨q,hq⟩:∃ z,(fnd K x.p.dropLast).isSome = z:=⟨_,rfl⟩
    rw [hxA,hq]
    have HQ:=hid hq
    clear hxA hq
    have hzz:=hb2.size
    simp only [World.size_alloc] at hzz
    have hN2:=(hb2.block wr.heap.size (by simp)).trans HN1.out
    have hN3:=(heap_alloc_old w2 (.cells #[.slice ap2 xA.p.length cp2, .slice an2 xA.l.length cn2] 98) (show wr.heap.size < w2.heap.size by omega)).trans hN2
    have p0:(w2.alloc (.cells #[.slice ap2 xA.p.length cp2, .slice an2 xA.l.length cn2] 98)).cell? ⟨wr.heap.size,0,none⟩ = some (.slice ap (m + 1) cp):=cg_ hN3 (k:=0) rfl
    have p1:(w2.alloc (.cells #[.slice ap2 xA.p.length cp2, .slice an2 xA.l.length cn2] 98)).cell? ⟨wr.heap.size,1,none⟩ = some (.slice an x.l.length cn):=cg_ hN3 (k:=1) rfl
    have HB2:=hid (HB1.out.trans (hb2.mono (by simp)))
    clear hN2 hN3 hb2 q0
    have hstep:Hid (∀ W,Below wr.heap.size wr W→wr.heap.size ≤ W.heap.size):=fun W h=>h.size
    by_cases hkp:q = true ∨ m = 0
    · have hls:Hid (lsF [] [] l = lsF (K ++ [x]) O (l.drop (k + 1))):=by
       rw [Hid,hD.out,HDR.out]
       simp only [lsF]
       rw [if_pos (by rw [HQ.out,HM.out];rcases hkp with h | h;exact .inl h;exact .inr (by omega))]
      have hB3:Below wr.heap.size wr ((w2.alloc (.cells #[.slice ap2 xA.p.length cp2, .slice an2 xA.l.length cn2] 98)).alloc (.cells #[.slice ap (m + 1) cp, .slice an x.l.length cn] 98)):=(HB2.out.alloc (by omega) _).alloc (by simp;omega) _
      have HB3:=hid hB3
      have how3:=ob_ hown hB3 (nl_ _)
      have hw2a:((w2.alloc (.cells #[.slice ap2 xA.p.length cp2, .slice an2 xA.l.length cn2] 98)).alloc (.cells #[.slice ap (m + 1) cp, .slice an x.l.length cn] 98)).heap.size = w2.heap.size + 2:=by simp
      have hnb:((w2.alloc (.cells #[.slice ap2 xA.p.length cp2, .slice an2 xA.l.length cn2] 98)).alloc (.cells #[.slice ap (m + 1) cp, .slice an x.l.length cn] 98)).heap[w2.heap.size + 1]? = some (.cells #[.slice ap (m + 1) cp, .slice an x.l.length cn] 98 (0,0)):=by
       have h:=ha_ (w2.alloc (.cells #[.slice ap2 xA.p.length cp2, .slice an2 xA.l.length cn2] 98)) (.cells #[.slice ap (m + 1) cp, .slice an x.l.length cn] 98)
       rwa [World.size_alloc] at h
      have HNB:=hid hnb
      clear hB3 hnb
      have key:∀ (a4:Option Addr) (c4:Nat) (w4:World),w4.ownsRow w.heap.size 98 2 (.slice a4 (K.length + 1) c4) (K.length + 1) (cs ++ [.slice ap (m + 1) cp, .slice an x.l.length cn]) →
       ((w2.alloc (.cells #[.slice ap2 xA.p.length cp2, .slice an2 xA.l.length cn2] 98)).alloc (.cells #[.slice ap (m + 1) cp, .slice an x.l.length cn] 98)).grownBy w4 (Value.slice aK K.length cK).ownBlock →
       (∀ g,(Value.slice a4 (K.length + 1) c4).ownBlock = some g→(Value.slice aK K.length cK).ownBlock = some g ∨ g = ((w2.alloc (.cells #[.slice ap2 xA.p.length cp2, .slice an2 xA.l.length cn2] 98)).alloc (.cells #[.slice ap (m + 1) cp, .slice an x.l.length cn] 98)).heap.size) →
       Hid (w4.ownsRow w.heap.size 98 2 (.slice a4 (K.length + 1) c4) (K ++ [x]).length (cs ++ [.slice ap (m + 1) cp, .slice an x.l.length cn])∧LCs xn_ S w4 (K ++ [x]) (cs ++ [.slice ap (m + 1) cp, .slice an x.l.length cn])∧SmF (K ++ [x])∧w4.ownsRow w.heap.size 92 1 u5 O.length ds∧LCs vP_ S w4 O ds ∧
        (∀ b,(Value.slice a4 (K.length + 1) c4).ownBlock = some b→u5.ownBlock ≠ some b)∧Below w.heap.size w w4):=by
       intro a4 c4 w4 hown4 hgrow4 hat4
       have hkl:∀ b,(Value.slice aK K.length cK).ownBlock = some b→w.heap.size ≤ b∧b < wr.heap.size:=fun b hb=>hown.lt b hb
       have hul:∀ b,u5.ownBlock = some b→w.heap.size ≤ b∧b < wr.heap.size:=fun b hb=>hown2.lt b hb
       have hagS:qd_ S wr w4:=fun b hb=>by
        have h1:=HS.out b hb
        exact (hgrow4.block b (by omega) (fun e=>by have:=(hkl b e.symm).1;omega)).trans (HB3.out.block b (by omega))
       have hlen:(K ++ [x]).length = K.length + 1:=by simp
       refine ⟨by rw [hlen];exact hown4,(hlc.out.agree hagS).app (LCs.single ⟨ap,cp,an,cn,by rw [HM.out],?_,HI.out.agree hagS⟩),?_,?_,hlc2.out.agree hagS,?_,?_⟩
       · rw [HM.out];exact HP.out.agree hagS
       · intro z hz
         rcases List.mem_append.1 hz with h | h
         · exact hsK.out z h
         · simp only [List.mem_singleton] at h;rw [h];exact HSX.out
       · exact owns_agree hown2 fun b hb=>(hgrow4.block b (by have:=(hul b hb).2;omega) (fun e=>hsep.out b e.symm hb)).trans (HB3.out.block b (hul b hb).2)
       · intro b hb hb5
         rcases hat4 b hb with h | h
         · exact hsep.out b h hb5
         · have:=(hul b hb5).2;omega
       · exact (hB.out.trans (HB3.out.mono hsz)).grown hgrow4 (by omega) (fun b hb=>(hkl b hb).1)
      have KEY:=hid key
      clear key
      have hkb:K.length ≤ 1000:=by omega
      cases q with
      | true=>
        clear hkp
        go_wp2_with (at_builtin;refine (q5_ _ rfl _ _ _ rfl w.heap.size 98 i0 _ 2 48 Tryz.underlying90 hi0 hz0 hz1 hz2 rfl (by omega) (Value.slice aK K.length cK) K.length cs rfl how3 (some ⟨w2.heap.size + 1,0,none⟩) 1 1 [.slice ap (m + 1) cp, .slice an x.l.length cn] rfl rfl (fun h=>by cases h) (fun ad had=>by cases had;exact World.news_of_block (cs:=#[.slice ap (m + 1) cp, .slice an x.l.length cn]) (t:=98) (fr:=(0,0)) HNB.out) (by simp [Value.oneCell']) (by unfold maxLen;omega) (by omega) (by omega) ?_);intro a4 c4 w4 hown4 hgrow4 hat4)
        obtain ⟨e1,e2,e3,e4,e5,e6,e7⟩:=(KEY.out a4 c4 w4 hown4 hgrow4 hat4).out
        go_roundw
        case rel=>exact ⟨k + 1,K ++ [x],O,_,ds,by omega,by go_num,by simp;omega,by omega,hls,e1,e2,e3,e4,e5,e6,e7⟩
        case measure=>simp [intOf];omega
      | false=>
        have hmz:m = 0:=by rcases hkp with h | h;cases h;exact h
        have hm0':((m:Int) == 0) = true:=by simp [hmz]
        clear hmz hkp
        go_wp2_with (at_builtin;refine (q5_ _ rfl _ _ _ rfl w.heap.size 98 i0 _ 2 48 Tryz.underlying90 hi0 hz0 hz1 hz2 rfl (by omega) (Value.slice aK K.length cK) K.length cs rfl how3 (some ⟨w2.heap.size + 1,0,none⟩) 1 1 [.slice ap (m + 1) cp, .slice an x.l.length cn] rfl rfl (fun h=>by cases h) (fun ad had=>by cases had;exact World.news_of_block (cs:=#[.slice ap (m + 1) cp, .slice an x.l.length cn]) (t:=98) (fr:=(0,0)) HNB.out) (by simp [Value.oneCell']) (by unfold maxLen;omega) (by omega) (by omega) ?_);intro a4 c4 w4 hown4 hgrow4 hat4)
        obtain ⟨e1,e2,e3,e4,e5,e6,e7⟩:=(KEY.out a4 c4 w4 hown4 hgrow4 hat4).out
        go_roundw
        case rel=>exact ⟨k + 1,K ++ [x],O,_,ds,by omega,by go_num,by simp;omega,by omega,hls,e1,e2,e3,e4,e5,e6,e7⟩
        case measure=>simp [intOf];omega
    · have hq0:q = false:=by cases q;rfl;exact absurd (.inl rfl) hkp
      have hmp:0 < m:=by rcases Nat.eq_zero_or_pos m with h | h;exact absurd (.inr h) hkp;exact h
      subst hq0
      have hm0':((m:Int) == 0) = false:=by simp;omega
      have hls:Hid (lsF [] [] l = lsF K (O ++ [x.p]) (l.drop (k + 1))):=by
       rw [Hid,hD.out,HDR.out]
       simp only [lsF]
       rw [if_neg (by rw [HQ.out,HM.out];rintro (h | h);cases h;omega)]
      have hB3:Below wr.heap.size wr ((w2.alloc (.cells #[.slice ap2 xA.p.length cp2, .slice an2 xA.l.length cn2] 98)).alloc (.cells #[.slice ap (m + 1) cp] 92)):=(HB2.out.alloc (by omega) _).alloc (by simp;omega) _
      have HB3:=hid hB3
      have how3:=ob_ hown2 hB3 (nl_ _)
      have hw2a:((w2.alloc (.cells #[.slice ap2 xA.p.length cp2, .slice an2 xA.l.length cn2] 98)).alloc (.cells #[.slice ap (m + 1) cp] 92)).heap.size = w2.heap.size + 2:=by simp
      have hnb:((w2.alloc (.cells #[.slice ap2 xA.p.length cp2, .slice an2 xA.l.length cn2] 98)).alloc (.cells #[.slice ap (m + 1) cp] 92)).heap[w2.heap.size + 1]? = some (.cells #[.slice ap (m + 1) cp] 92 (0,0)):=by
       have h:=ha_ (w2.alloc (.cells #[.slice ap2 xA.p.length cp2, .slice an2 xA.l.length cn2] 98)) (.cells #[.slice ap (m + 1) cp] 92)
       rwa [World.size_alloc] at h
      have HNB:=hid hnb
      clear hB3 hnb hkp
      have hkb:O.length ≤ 1000:=by omega
      go_wp2_with (at_builtin;refine (q5_ _ rfl _ _ _ rfl w.heap.size 92 j0 _ 1 24 Tryz.underlying39 hj0 hy0 hy1 hy2 rfl (by omega) u5 O.length ds rfl how3 (some ⟨w2.heap.size + 1,0,none⟩) 1 1 [.slice ap (m + 1) cp] rfl rfl (fun h=>by cases h) (fun ad had=>by cases had;exact World.news_of_block (cs:=#[.slice ap (m + 1) cp]) (t:=92) (fr:=(0,0)) HNB.out) (by simp [Value.oneCell']) (by unfold maxLen;omega) (by omega) (by omega) ?_);intro a4 c4 w4 hown4 hgrow4 hat4)
      have hkl:∀ b,u5.ownBlock = some b→w.heap.size ≤ b∧b < wr.heap.size:=fun b hb=>hown2.lt b hb
      have hul:∀ b,(Value.slice aK K.length cK).ownBlock = some b→w.heap.size ≤ b∧b < wr.heap.size:=fun b hb=>hown.lt b hb
      have hagS:qd_ S wr w4:=fun b hb=>by
       have h1:=HS.out b hb
       exact (hgrow4.block b (by omega) (fun e=>by have:=(hkl b e.symm).1;omega)).trans (HB3.out.block b (by omega))
      have e1:w4.ownsRow w.heap.size 98 2 (.slice aK K.length cK) K.length cs:=owns_agree hown fun b hb=>(hgrow4.block b (by have:=(hul b hb).2;omega) (fun e=>hsep.out b hb e.symm)).trans (HB3.out.block b (hul b hb).2)
      have e2:=hid (hlc.out.agree hagS)
      have e4:w4.ownsRow w.heap.size 92 1 (.slice a4 (O.length + 1) c4) (O ++ [x.p]).length (ds ++ [.slice ap (m + 1) cp]):=by
       have hlen:(O ++ [x.p]).length = O.length + 1:=by simp
       rw [hlen];exact hown4
      have e5:Hid (LCs vP_ S w4 (O ++ [x.p]) (ds ++ [.slice ap (m + 1) cp])):=(hlc2.out.agree hagS).app (LCs.single ⟨ap,cp,by rw [HM.out],by rw [HM.out];exact HP.out.agree hagS⟩)
      have e6:Hid (∀ b,(Value.slice aK K.length cK).ownBlock = some b→(Value.slice a4 (O.length + 1) c4).ownBlock ≠ some b):=fun b hb h5=>by
       rcases hat4 b h5 with h | h
       · exact hsep.out b hb h
       · have:=(hul b hb).2;omega
      have e7:Hid (Below w.heap.size w w4):=(hB.out.trans (HB3.out.mono hsz)).grown hgrow4 (by omega) (fun b hb=>(hkl b hb).1)
      clear hkl hul hagS
      go_roundw
      case rel=>exact ⟨k + 1,K,O ++ [x.p],cs,_,by omega,by go_num,by omega,by simp;omega,hls,e1,e2,hsK,e4,e5,e6,e7⟩
      case measure=>simp [intOf];omega
  · obtain rfl:k = l.length:=by omega
    have hlt':¬ (l.length:Int) < (l.length:Int):=by omega
    have hls:lsF [] [] l = (K,O):=by rw [hD.out,List.drop_length];rfl
    have HLS:=hid hls
    clear hls
    go_wp2_with fail
    obtain ⟨a8,c8,rfl,_,_⟩:=owns_shape hown
    obtain ⟨a9,c9,rfl,_,_⟩:=owns_shape hown2
    refine bodyPost_ret (v := .tuple #[.slice a8 K.length c8, .slice a9 O.length c9]) (by simp [results,Tryz.results33,go_sem]) rfl ?_
    refine ⟨a8,c8,a9,c9,by rw [HLS.out],?_,?_,hB.out⟩
    · rw [HLS.out]
      exact ⟨cs,(SlC.of_owns hown).wide fun b hb => .inr hb,hlc.out.wide fun b hb => .inl hb⟩
    · rw [HLS.out]
      exact ⟨ds,(SlC.of_owns hown2).wide fun b hb => .inr hb,hlc2.out.wide fun b hb => .inl hb⟩
end Go.Proofs.LF
namespace Go.Proofs.LF
theorem good_kyOf {n:List UInt8} {l:List Int} (h1:zN_ n = false) (h2:kb_ l = false):jF_ (kyOf n l):=by
 have hn:∀ c ∈ n,qK_ c = true:=fun c hc=>by
  simp only [zN_,Bool.or_eq_false_iff,List.any_eq_false,decide_eq_true_eq,Bool.or_eq_true,not_or] at h1
  have:=h1.1.1 c hc
  simp only [qK_,inB,Bool.and_eq_true,decide_eq_true_eq]
  omega
 cases l with
 | nil=>exact ⟨hn,by simp [kyOf],fun _=>rfl⟩
 | cons v l=>
   refine ⟨hn,?_,fun h=>by cases h⟩
   simp only [kb_,List.any_cons,Bool.or_eq_false_iff,offB] at h2
   have:=h2.1
   simp only [Bool.or_eq_false_iff,decide_eq_false_iff_not] at this
   simp only [kyOf];omega
theorem kH_:∀ (y:Fo) (up:List Ky),(∀ k ∈ up,jF_ k)→(∀ z ∈ qa_ up y,OkN z)→∀ x ∈ qa_ up y,(∀ k ∈ x.up,jF_ k)∧jF_ (kyOf x.n x.l)
 | .nil,_,_,_,x,hx=>by simp [qa_] at hx
 | .cons n l s r,up,hu,hn,x,hx=>by
   simp only [qa_,List.mem_cons,List.mem_append] at hx hn
   have h0:=hn _ (.inl rfl)
   have hk:jF_ (kyOf n l):=good_kyOf h0.1 h0.2.2
   rcases hx with rfl | hx | hx
   · exact ⟨hu,hk⟩
   · refine kH_ s _ (fun k hk'=>?_) (fun z hz=>hn z (.inr (.inl hz))) x hx
     rcases List.mem_append.1 hk' with h | h
     · exact hu k h
     · simp only [List.mem_singleton] at h;rw [h];exact hk
   · exact kH_ r up hu (fun z hz=>hn z (.inr (.inr hz))) x hx
theorem ku_ {y:Fo} (h:qz_ y = 0):∀ x ∈ flsL [] y,vk_ x.p:=by
 intro x hx
 simp only [flsL,List.mem_map] at hx
 obtain ⟨z,hz,rfl⟩:=hx
 obtain ⟨h1,h2⟩:=kH_ y [] (by simp) (kC_ y _ _ [] (xc_ h)) z hz
 intro k hk
 rcases List.mem_append.1 hk with h | h
 · exact h1 k h
 · simp only [List.mem_singleton] at h;rw [h];exact h2
theorem zJ_ {y:Fo} (h:qz_ y = 0):Srt (flsL [] y):=(xq_ y 0 none [] (xc_ h)).1
end Go.Proofs.LF
namespace Go.Proofs.LF
open Go.RowKit Go.Sort
set_option maxHeartbeats 4000000
set_option maxRecDepth 100000
attribute [local go_sem] q1_ q2_ q6_
theorem enters120:z5_ 35:=by intro args W;simp [go_sem]
theorem eqP_any (p q:List Ky) (ap aq:Option Addr) (cp cq F:Nat) (S:Nat→Prop) (w:World) (hp:Pth S w (.slice ap p.length cp) p) (hq:Pth S w (.slice aq q.length cq) q) (hS:∀ b,S b→b < w.heap.size) (lp:p.length ≤ 1000) (lq:q.length ≤ 1000)
 (hc:w.cell? ⟨F,0,none⟩ = some (.slice aq q.length cq)) :
 Calls Tryz.prog 35 #[.slice ap p.length cp, .pointer (some ⟨F,0,none⟩)] w fun e w'=>e = .returned (.bool (decide (cmpP p q = 0)))∧Below w.heap.size w w':=by
 have H:=hid (kE_ p q ap aq cp cq S w hp hq hS lp lq)
 clear hp hq
 go_enter Tryz.func35,Tryz.ntmps35
 go_wp2_with fail
 refine H.out.mono ?_
 rintro e w1 ⟨rfl,hb1⟩
 have HB1:=hid hb1
 clear hb1
 by_cases h:cmpP p q = 0
 · go_wp2_with fail
   go_ret
   exact ⟨qf_ (by simp [h]),HB1.out⟩
 · go_wp2_with fail
   go_ret
   exact ⟨qf_ (by simp [h]),HB1.out⟩
theorem path_elem {S:Nat→Prop} {w:World} {ps:List (List Ky)} {ds:List Value} (h:LCs vP_ S w ps ds) {i:Nat} (hi:i < ps.length):∃ ap cp,qJ_ 1 ds i = .slice ap ps[i].length cp∧Pth S w (.slice ap ps[i].length cp) ps[i]:=by
 have h':=h.drop (i:=i)
 rw [List.drop_eq_getElem_cons hi] at h'
 obtain ⟨cs,es,he,⟨ap,cp,rfl,hp⟩,_⟩:=h'
 refine ⟨ap,cp,?_,hp⟩
 have e0:ds[i]? = some (.slice ap ps[i].length cp):=by
  have:=congrArg (fun l=>l[0]?) he
  simpa [List.getElem?_drop] using this
 simp [qJ_,List.getD_eq_getElem?_getD,e0]
theorem contP_any (ps:List (List Ky)) (q:List Ky) (al aq:Option Addr) (cl cq F:Nat) (S T:Nat→Prop) (w:World) (hv:PaSl S w (.slice al ps.length cl) ps) (hS:∀ b,S b→b < w.heap.size) (hq:Pth T w (.slice aq q.length cq) q) (hT:∀ b,T b→b < w.heap.size)
 (hF:F < w.heap.size) (hc:w.cell? ⟨F,0,none⟩ = some (.slice aq q.length cq)) (hl:ps.length ≤ 1000) (hps:∀ p ∈ ps,p.length ≤ 1000) (lq:q.length ≤ 1000) :
 Calls Tryz.prog 34 #[.slice al ps.length cl, .func (.func 35) #[] #[.pointer (some ⟨F,0,none⟩)]] w fun e w'=>e = .returned (.bool (ps.any (fun p=>decide (cmpP p q = 0))))∧Below w.heap.size w w':=by
 obtain ⟨ds,h1,h2⟩:=hv
 have key:=cont_path 35 enters120 (fun i=>decide (cmpP (ps.getD i []) q = 0)) [.pointer (some ⟨F,0,none⟩)] ps.length al cl ds S w h1 hS (by omega) (fun i hi W hW=>by
  obtain ⟨ap',cp',he,hp'⟩:=path_elem h2 hi
  have hg:ps.getD i [] = ps[i]:=by simp [List.getD_eq_getElem?_getD,hi]
  rw [he,hg]
  exact eqP_any ps[i] q ap' aq cp' cq F (fun b=>S b ∨ T b) W ((hp'.agree (q9_ hW hS)).wide fun b hb => .inl hb) ((hq.agree (q9_ hW hT)).wide fun b hb => .inr hb) (fun b hb=>by have:=hW.size;rcases hb with hb | hb;have:=hS b hb;omega;have:=hT b hb;omega) (hps _ (List.getElem_mem hi)) lq (bc_ hW hF hc))
 rw [vg_ (fun p=>decide (cmpP p q = 0)) _ ps (fun i hi=>by simp [List.getD_eq_getElem?_getD,hi])] at key
 exact key
end Go.Proofs.LF
namespace Go.Proofs.LF
def xR_:Fo→List Ky
 | .nil=>[]
 | .cons n l _ r=>kyOf n l :: xR_ r
theorem y6_:∀ (y z:Fo),xR_ (y.app z) = xR_ y ++ xR_ z
 | .nil,_=>rfl
 | .cons n l s r,z=>by simp only [Fo.app,xR_,y6_ r z,List.cons_append]
end Go.Proofs.LF