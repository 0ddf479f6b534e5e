/- Parts of the proof of a law of layer 11 (file): LfYao. The conditions stand in each theorem. -/
import Derived.Test.YtffjknkcogmnbaaGreatDoorProg
import Derived.Test.YtffjknkcogmnbaaGreatDoorSpac
import Derived.Test.YtffjknkcogmnbaaGreatDoorSpae
import Derived.Test.YtffjknkcogmnbaaGreatDoorSpap
import Derived.Test.YtffjknkcogmnbaaGreatDoorSpaq
set_option linter.all false
set_option linter.unusedVariables false
set_option linter.unusedSimpArgs false
set_option linter.all false
set_option linter.unusedVariables false
set_option linter.unusedSimpArgs false
namespace Go.Proofs.LF
open Go.RowKit Go.Sort
set_option maxHeartbeats 4000000
set_option maxRecDepth 100000
attribute [local go_sem] q1_ q2_ q6_
theorem ret118 {tmps:Array Value} {W:World} {b:Nat} {x y t5:Value} (h:W.heap[b]? = some (.cells #[x,y] 98 (0,0))) (h2:tmps.getD 4 undef = .pointer (some ⟨b,0,none⟩)) (h3:tmps.getD 5 undef = t5) :
 (results Tryz.f32 tmps).run Tryz.prog W = .ok (.tuple #[.agg #[x,y],t5]) W:=by
 have h0:=cg_ h (k:=0) rfl
 have h1:=cg_ h (k:=1) rfl
 rw [results_cell_tmp rfl,h2,h3]
 simp [go_sem,h0,h1]
theorem nil_pth (S:Nat→Prop) (w:World):Pth S w (.slice none 0 0) []:=⟨rfl,none,0,rfl,nl_ _,by simp [maxLen],fun _=>rfl, .inl rfl⟩
theorem nil_ints (S:Nat→Prop) (w:World):qF_ S w (.slice none 0 0) []:=⟨rfl,none,0,rfl,nl_ _,by simp [maxLen],fun _=>rfl, .inl rfl⟩
def FndR (l:List Fl) (p:List Ky) (S:Nat→Prop) (w:World) (e:Ending) (w':World):Prop:=
 ∃ ap cp an cn,e = .returned (.tuple #[.agg #[.slice ap ((fnd l p).getD fl0).p.length cp, .slice an ((fnd l p).getD fl0).l.length cn], .bool (fnd l p).isSome]) ∧
  Pth S w' (.slice ap ((fnd l p).getD fl0).p.length cp) ((fnd l p).getD fl0).p∧qF_ S w' (.slice an ((fnd l p).getD fl0).l.length cn) ((fnd l p).getD fl0).l∧Below w.heap.size w w'
theorem zU_ (l:List Fl) (p:List Ky) (al ap:Option Addr) (cl cp:Nat) (S T:Nat→Prop) (w:World) (hv:FlSl S w (.slice al l.length cl) l) (hS:∀ b,S b→b < w.heap.size) (hp:Pth T w (.slice ap p.length cp) p) (hT:∀ b,T b→b < w.heap.size)
 (hl:l.length ≤ 1000) (hsm:SmF l) (lp:p.length ≤ 1000) :
 Calls Tryz.prog 32 #[.slice al l.length cl, .slice ap p.length cp] w (FndR l p S w):=by
 have hb1:Below w.heap.size w (w.alloc (.cells #[.slice none 0 0, .slice none 0 0] 98)):=(Below.refl _ _).alloc (nl_ _) _
 have H:=hid (jk_ l p al ap cl cp S T (w.alloc (.cells #[.slice none 0 0, .slice none 0 0] 98)) (LSl.agree hv (q9_ hb1 hS)) (fun b hb=>by have:=hS b hb;simp;omega) (hp.agree (q9_ hb1 hT)) (fun b hb=>by have:=hT b hb;simp;omega) hl hsm lp)
 obtain ⟨a',c',he,hc,hcm,hat⟩:=hv.at
 obtain ⟨rfl,rfl⟩:al = a'∧cl = c':=by cases he;exact ⟨rfl,rfl⟩
 have HAT:=hid hat
 have HS:=hid hS
 have HB1:=hid hb1
 clear hat he hv hp hb1 hS
 unfold maxLen at hcm
 go_enter Tryz.func32,Tryz.ntmps32
 go_wp2_with fail
 refine H.out.mono ?_
 rintro e w2 ⟨rfl,hb2⟩
 have hres:=(hb2.block w.heap.size (by simp)).trans (ha_ _ _)
 have HRS:=hid hres
 have r0:=cg_ hres (k:=0) rfl
 have r1:=cg_ hres (k:=1) rfl
 have f0:=cells_frz hres (k:=0)
 have f1:=cells_frz hres (k:=1)
 have HB2:=hid (HB1.out.trans (hb2.mono (by simp)))
 clear hres hb2
 obtain ⟨i,hi⟩:∃ i,fndI l p = i:=⟨_,rfl⟩
 by_cases hf:i < l.length∧cmpP (l.getD i fl0).p p = 0
 · have hfd:(decide (fndI l p < l.length) && decide (cmpP (l.getD (fndI l p) fl0).p p = 0)) = true:=by rw [hi];simp only [hf.1,hf.2,decide_true,Bool.and_self]
   have hil:=hf.1
   have hg:l.getD i fl0 = l[i]:=by simp [List.getD_eq_getElem?_getD,hil]
   have hfn:fnd l p = some l[i]:=by
    unfold fnd
    rw [hi,List.getElem?_eq_getElem hil]
    simp only
    rw [if_pos (by rw [← hg];exact hf.2)]
   have HFN:=hid hfn
   have hil':(i:Int) < (l.length:Int):=by omega
   have hi0:(0:Int) ≤ (i:Int):=by omega
   obtain ⟨g,o,cs1,rfl,hgS,⟨ap2,cp2,an,cn,rfl,hP,hI⟩,hcell⟩:=HAT.out i hil
   have ha:qd_ S w w2:=q9_ HB2.out HS.out
   have c0:=ha.cell hgS (hcell 0 _ rfl)
   have c1:=ha.cell hgS (hcell 1 _ rfl)
   rw [Nat.add_zero] at c0
   rw [← Nat.add_assoc] at c1
   rw [hfd,hi]
   have HA:=hid ha
   have HP:=hid hP
   have HI:=hid hI
   clear hf hfd hg hfn hcell hi ha hP hI
   go_wp2_with fail
   refine bodyPost_ret (v := .tuple #[.agg #[.slice ap2 l[i].p.length cp2, .slice an l[i].l.length cn], .bool true]) (ret118 (kF_ HRS.out) rfl rfl) rfl ?_
   have hfar:qd_ S w2 ((w2.setCell ⟨w.heap.size,0,none⟩ (.slice ap2 l[i].p.length cp2)).setCell ⟨w.heap.size,1,none⟩ (.slice an l[i].l.length cn)):=fun b hb=>by
    have:b ≠ w.heap.size:=by have:=HS.out b hb;omega
    rw [Below.heap_setCell _ _ _ _ this,Below.heap_setCell _ _ _ _ this]
   refine ⟨ap2,cp2,an,cn,by rw [HFN.out];rfl,?_,?_,Below.setCell (Below.setCell HB2.out (p:=⟨w.heap.size,0,none⟩) (nl_ _) _) (p:=⟨w.heap.size,1,none⟩) (nl_ _) _⟩
   · rw [HFN.out];exact (HP.out.agree HA.out).agree hfar
   · rw [HFN.out];exact (HI.out.agree HA.out).agree hfar
 · have hfd:(decide (fndI l p < l.length) && decide (cmpP (l.getD (fndI l p) fl0).p p = 0)) = false:=by rw [hi];simpa using hf
   have hfn:fnd l p = none:=by
    unfold fnd
    rw [hi]
    by_cases hil:i < l.length
    · have hg:l.getD i fl0 = l[i]:=by simp [List.getD_eq_getElem?_getD,hil]
      rw [List.getElem?_eq_getElem hil]
      simp only
      rw [if_neg (fun e=>hf ⟨hil,by rw [hg];exact e⟩)]
    · rw [List.getElem?_eq_none (by omega)]
   have HFN:=hid hfn
   rw [hfd]
   clear hf hfd hfn hi
   go_wp2_with fail
   refine bodyPost_ret (v := .tuple #[.agg #[.slice none 0 0, .slice none 0 0], .bool false]) (ret118 (kF_ HRS.out) rfl rfl) rfl ?_
   refine ⟨none,0,none,0,by rw [HFN.out];rfl,?_,?_,Below.setCell (Below.setCell HB2.out (p:=⟨w.heap.size,0,none⟩) (nl_ _) _) (p:=⟨w.heap.size,1,none⟩) (nl_ _) _⟩
   · rw [HFN.out];exact nil_pth _ _
   · rw [HFN.out];exact nil_ints _ _
theorem set3_row {w:World} {g o:Nat} {cur:Array Value} {t:TypeId} {x y z:Value} (hg:w.heap[g]? = some (.cells cur t (0,0))) :
 (((w.setCell ⟨g,o,none⟩ x).setCell ⟨g,o + 1,none⟩ y).setCell ⟨g,o + 2,none⟩ z).heap[g]? = some (.cells (((cur.setIfInBounds o x).setIfInBounds (o + 1) y).setIfInBounds (o + 2) z) t (0,0)):=by
 simp [World.setCell,Array.getElem?_modify,hg]
theorem kS_ {w:World} {g o b:Nat} {x y z:Value} (h:b ≠ g):(((w.setCell ⟨g,o,none⟩ x).setCell ⟨g,o + 1,none⟩ y).setCell ⟨g,o + 2,none⟩ z).heap[b]? = w.heap[b]?:=by
 rw [Below.heap_setCell _ _ _ _ h,Below.heap_setCell _ _ _ _ h,Below.heap_setCell _ _ _ _ h]
theorem set3_list {cs:List Value} {i:Nat} {x y z:Value} (h:i * 3 + 3 ≤ cs.length):((cs.set (i * 3) x).set (i * 3 + 1) y).set (i * 3 + 2) z = cs.take (i * 3) ++ ([x,y,z] ++ cs.drop ((i + 1) * 3)):=by
 apply List.ext_getElem?
 intro j
 have e:(i + 1) * 3 = i * 3 + 3:=by omega
 rw [e]
 simp only [List.getElem?_set,List.getElem?_append,List.length_take,List.getElem?_take,List.length_set]
 have hm:min (i * 3) cs.length = i * 3:=by omega
 rw [hm]
 by_cases h1:j < i * 3
 · simp only [h1,if_true]
   rw [if_neg (by omega),if_neg (by omega),if_neg (by omega)]
 · simp only [h1,if_false]
   by_cases h2:j < i * 3 + 3
   · obtain h3 | h3 | h3:j = i * 3 ∨ j = i * 3 + 1 ∨ j = i * 3 + 2:=by omega
     all_goals subst h3
     · rw [if_neg (by omega),if_neg (by omega),if_pos rfl,if_pos (by omega)];simp
     · rw [if_neg (by omega),if_pos rfl,if_pos (by omega)];simp
     · rw [if_pos rfl,if_pos (by omega)];simp
   · rw [if_neg (by omega),if_neg (by omega),if_neg (by omega),if_neg (by simp;omega)]
     simp only [List.length_cons,List.length_nil,List.getElem?_drop]
     congr 1;omega
theorem owns_set3 {w:World} {B g n c i:Nat} {cs:List Value} {x y z:Value} (h:w.ownsRow B 109 3 (.slice (some ⟨g,0,none⟩) n c) n cs) (hi:i < n) :
 (((w.setCell ⟨g,i * 3,none⟩ x).setCell ⟨g,i * 3 + 1,none⟩ y).setCell ⟨g,i * 3 + 2,none⟩ z).ownsRow B 109 3 (.slice (some ⟨g,0,none⟩) n c) n (cs.take (i * 3) ++ ([x,y,z] ++ cs.drop ((i + 1) * 3))):=by
 obtain ⟨h1,⟨h0,_⟩ | ⟨g',cap,cur,he,hbg,hg,hnc,hcap,hcs,htk⟩⟩:=h
 · cases h0
 · cases he
   refine ⟨by simp only [List.length_append,List.length_take,List.length_drop,List.length_cons,List.length_nil,h1];omega, .inr ⟨g,c,_,rfl,hbg,set3_row hg,hnc,hcap,by simpa using hcs,?_⟩⟩
   rw [← set3_list (by omega),← htk]
   simp only [Array.toList_setIfInBounds,List.take_set]
theorem qT_.ones {E:TypeId} {S:Nat→Prop} {w:World} {y:Fo} {cs:List Value} (h:qT_ E S w y cs):∀ u ∈ cs,u.oneCell' = true:=by
 have key:∀ {y:Fo} {S:Nat→Prop} {cs:List Value},FCs S w y cs→∀ u ∈ cs,u.oneCell' = true:=by
  intro y
  induction y with
  | nil=>intro S cs h;rw [show cs = [] from h];simp
  | cons n l s r _ ihr=>
    rintro S cs ⟨vn,vs,cs',rfl,hI,⟨ds,hs,_⟩,hr⟩ u hu
    obtain ⟨an,cn,rfl,_⟩:=SlC.shape hI
    obtain ⟨ab,cb,rfl,_⟩:=SlC.shape hs
    simp only [List.mem_cons] at hu
    rcases hu with rfl | rfl | rfl | hu
    · rfl
    · rfl
    · rfl
    · exact ihr hr u hu
 exact key h.fcs
def PutR (v:Value) (n:List UInt8) (l:List Int) (s y:Fo) (S T:Nat→Prop) (w:World) (e:Ending) (w':World):Prop:=
 ∃ a c,e = .returned (.slice a (we_ n l s y).len c)∧FOw 109 (fun b=>S b ∨ T b ∨ Rg w.heap.size w'.heap.size b) w' (.slice a (we_ n l s y).len c) (we_ n l s y)∧w.grownBy w' (Value.ownBlock v)
theorem put_any (y s:Fo) (n:List UInt8) (l:List Int) (an ab av:Option Addr) (cn cb cv:Nat) (S T:Nat→Prop) (w:World) (hv:FOw 109 S w (.slice av y.len cv) y) (hn:qT_ 109 T w (.cons n l s .nil) [.string (bs n), .slice an l.length cn, .slice ab s.len cb])
 (hd:∀ b,S b→¬ T b) (hS:∀ b,S b→b < w.heap.size) (hT:∀ b,T b→b < w.heap.size) (hlen:y.len ≤ 1000) (hll:l.length ≤ 1000) :
 Calls Tryz.prog 124 #[.slice av y.len cv, .agg #[.string (bs n), .slice an l.length cn, .slice ab s.len cb]] w (PutR (.slice av y.len cv) n l s y S T w):=by
 obtain ⟨W,hW⟩:∃ W,W = w.alloc (.cells #[.string (bs n), .slice an l.length cn, .slice ab s.len cb] 109):=⟨_,rfl⟩
 have hb:Below w.heap.size w W:=by rw [hW];exact (Below.refl _ _).alloc (nl_ _) _
 have hWs:W.heap.size = w.heap.size + 1:=by rw [hW];simp
 have hnew:W.heap[w.heap.size]? = some (.cells #[.string (bs n), .slice an l.length cn, .slice ab s.len cb] 109 (0,0)):=by rw [hW];exact ha_ _ _
 have hI:qF_ T w (.slice an l.length cn) l:=by
  obtain ⟨vn,vs,cs',S1,S2,S3,he,hsub,_,_,_,hI,_⟩:=hn
  have he2:Value.slice an l.length cn = vn∧Value.slice ab s.len cb = vs∧cs' = []:=by simpa using he
  obtain ⟨rfl,_,_⟩:=he2
  exact qF_.wide hI fun b h=>hsub b (.inl h.1)
 have HI:=hid hI
 have HV:=hid hv
 have HN:=hid hn
 have HD:=hid hd
 have HS:=hid hS
 have HT:=hid hT
 have HB:=hid hb
 have HNEW:=hid hnew
 clear hI hv hn hd hS hT hnew hb
 obtain ⟨i,hi⟩:∃ i,fndN y (kyOf n l) = i:=⟨_,rfl⟩
 go_enter Tryz.func124,Tryz.ntmps124
 go_wp2_with fail
 rw [← hW]
 refine (zC_ n l an cn (.slice ab s.len cb) T W (HI.out.agree (q9_ HB.out HT.out)) (fun b hb=>by have:=HT.out b hb;omega) ab s.len cb rfl).mono ?_
 rintro e w1 ⟨rfl,hb1⟩
 have HB1:=hid (HB.out.trans (hb1.mono (by omega)))
 have HNEW1:=hid ((hb1.block w.heap.size (by omega)).trans HNEW.out)
 have hz1:=hb1.size
 clear hb1
 go_wp2_with fail
 refine (xT_ y (kyOf n l) av cv S w1 (HV.out.fsl.agree (q9_ HB1.out HS.out)) (fun b hb=>by have:=HS.out b hb;omega) hlen).mono ?_
 rintro e w2 ⟨rfl,hb2⟩
 have hz2:=hb2.size
 have HB2:=hid (HB1.out.trans (hb2.mono (by omega)))
 have HNEW2:=hid ((hb2.block w.heap.size (by omega)).trans HNEW1.out)
 have c0:=cg_ HNEW2.out (k:=0) rfl
 have c1:=cg_ HNEW2.out (k:=1) rfl
 have c2:=cg_ HNEW2.out (k:=2) rfl
 have HV2:=hid (HV.out.agree (q9_ HB2.out HS.out))
 have HN2:=hid (HN.out.agree (q9_ HB2.out HT.out))
 clear hb2 hW HB HNEW HNEW1
 rw [hi]
 by_cases his:i < y.len∧byK (keyD y i) (kyOf n l) = 0
 · obtain ⟨hil,hbk⟩:=his
   have hp:we_ n l s y = y.setN i n l s:=by rw [we_,hi,if_pos ⟨hil,hbk⟩]
   have HP:=hid hp
   have hdec:(decide (i < y.len) && decide (byK (keyD y i) (kyOf n l) = 0)) = true:=by simp [hil,hbk]
   rw [hdec]
   obtain ⟨ds,hown,hvs,hf⟩:=HV2.out
   obtain ⟨h1,⟨h0,h00⟩ | ⟨g,cap,cur,he,hbg,hg,hnc,hcap,hcs,htk⟩⟩:=id hown
   · omega
   cases he
   unfold maxLen at hcap
   have d0:i * 3 < cur.size:=by omega
   have d1:i * 3 + 1 < cur.size:=by omega
   have d2:i * 3 + 2 < cur.size:=by omega
   have e0:=cg_ hg (k:=i * 3) (Array.getElem?_eq_getElem d0)
   have e1:=cg_ hg (k:=i * 3 + 1) (Array.getElem?_eq_getElem d1)
   have e2:=cg_ hg (k:=i * 3 + 2) (Array.getElem?_eq_getElem d2)
   have f0:=cells_frz hg (k:=i * 3)
   have f1:=cells_frz hg (k:=i * 3 + 1)
   have f2:=cells_frz hg (k:=i * 3 + 2)
   have hil':(i:Int) < (y.len:Int):=by omega
   have hi0:(0:Int) ≤ (i:Int):=by omega
   have HF:=hid hf
   have HOWN:=hid hown
   have HVS:=hid hvs
   clear hp hdec hf hown hvs htk hcs h1 hi hbk
   go_wp2_with fail
   go_ret
   have hSg:S g:=HVS.out g rfl
   have hTg:¬ T g:=HD.out g hSg
   have hzB:=HB2.out.size
   refine ⟨some ⟨g,0,none⟩,cv,by rw [HP.out,Fo.len_setN hil];rfl,?_,?_⟩
   · rw [HP.out,Fo.len_setN hil]
     have hF1:=HF.out.agree (w':=((w2.setCell ⟨g,i * 3,none⟩ (.string (bs n))).setCell ⟨g,i * 3 + 1,none⟩ (.slice an l.length cn)).setCell ⟨g,i * 3 + 2,none⟩ (.slice ab s.len cb)) (fun b hb=>kS_ (fun e=>hb.2 (by rw [e];rfl)))
     have hN1:=HN2.out.agree (w':=((w2.setCell ⟨g,i * 3,none⟩ (.string (bs n))).setCell ⟨g,i * 3 + 1,none⟩ (.slice an l.length cn)).setCell ⟨g,i * 3 + 2,none⟩ (.slice ab s.len cb)) (fun b hb=>kS_ (fun e=>hTg (e ▸ hb)))
     refine ⟨_,by rw [Fo.len_setN hil];exact owns_set3 HOWN.out hil,fun g' hg' => .inl (HVS.out g' hg'),(hF1.set hN1 (fun b h1 h2=>HD.out b h1.1 h2)).wide fun b hb=>?_⟩
     rcases hb with hb | hb
     · exact ⟨.inl hb.1,hb.2⟩
     · exact ⟨.inr (.inl hb), fun e => by have : g = b := by simpa [Value.ownBlock] using e
                                          exact hTg (this ▸ hb)⟩
   · exact ⟨HB2.out.os,HB2.out.tape,HB2.out.output,by simpa [World.setCell] using hzB,fun b hb hne=>(kS_ (fun e=>hne (by rw [e];rfl))).trans (HB2.out.block b hb)⟩
 · have hp:we_ n l s y = y.insN i n l s:=by rw [we_,hi,if_neg his]
   have HP:=hid hp
   have hdec:(decide (i < y.len) && decide (byK (keyD y i) (kyOf n l) = 0)) = false:=by
    by_cases h1:i < y.len
    · have:¬ byK (keyD y i) (kyOf n l) = 0:=fun h=>his ⟨h1,h⟩
      simp [this]
    · simp [h1]
   have hil:i ≤ y.len:=by rw [← hi];exact (bsF_le _ _ _ (nl_ _) (Nat.zero_le _)).2
   rw [hdec]
   obtain ⟨ds,hown,hvs,hf⟩:=HV2.out
   have HF:=hid hf
   have HOWN:=hid hown
   have HVS:=hid hvs
   clear hp hdec his hf hown hvs hi
   go_wp2_with fail
   have hb3:Below w2.heap.size w2 (w2.alloc (.cells #[.string (bs n), .slice an l.length cn, .slice ab s.len cb] 109)):=(Below.refl _ _).alloc (nl_ _) _
   have hbl:∀ g,(Value.slice av y.len cv).ownBlock = some g→g < w2.heap.size:=fun g hg=>(HOWN.out.lt g hg).2
   refine (ins_any (.slice av y.len cv) y.len i ds (.string (bs n)) (.slice an l.length cn) (.slice ab s.len cb) w2.heap.size 0 _ (HOWN.out.alloc _) hil (ha_ w2 _) (fun e=>by have:=hbl _ e;omega) HF.out.ones (by intro u hu;simp at hu;rcases hu with rfl | rfl | rfl <;> rfl) hlen (Nat.zero_le _)).mono ?_
   rintro e w3 ⟨a3,c3,rfl,hown3,hgrow,hat⟩
   go_wp2_with fail
   go_ret
   have hzB:=HB2.out.size
   have hz3:=hgrow.size
   simp only [World.size_alloc] at hz3
   have hblk:∀ b,b < w2.heap.size→(Value.slice av y.len cv).ownBlock ≠ some b→w3.heap[b]? = w2.heap[b]?:=fun b hb hne=>(hgrow.block b (by simp;omega) (fun e=>hne e.symm)).trans (hb3.block b hb)
   refine ⟨a3,c3,by rw [HP.out,Fo.len_insN hil];rfl,?_,?_⟩
   · rw [HP.out,Fo.len_insN hil]
     have hF1:=HF.out.agree (w':=w3) (fun b hb=>hblk b (by have:=HS.out b hb.1;omega) hb.2)
     have hN1:=HN2.out.agree (w':=w3) (fun b hb=>hblk b (by have:=HT.out b hb;omega) (fun e=>HD.out b (HVS.out b e) hb))
     have hlt3:=hown3.lt
     refine ⟨_,by rw [Fo.len_insN hil];exact hown3,fun g' hg'=>?_,(hF1.ins hN1 (fun b h1 h2=>HD.out b h1.1 h2)).wide fun b hb=>?_⟩
     · rcases hat g' hg' with h | h
       · exact .inl (HVS.out g' h)
       · have:=(hlt3 g' hg').2
         simp only [World.size_alloc] at h
         exact .inr (.inr ⟨by omega,this⟩)
     · have hne:(Value.slice a3 (y.len + 1) c3).ownBlock ≠ some b:=fun e=>by
        have hbw:b < w.heap.size:=by rcases hb with hb | hb;exact HS.out b hb.1;exact HT.out b hb
        rcases hat b e with h | h
        · rcases hb with hb | hb
          · exact hb.2 h
          · exact HD.out b (HVS.out b h) hb
        · simp only [World.size_alloc] at h;omega
       rcases hb with hb | hb
       · exact ⟨.inl hb.1,hne⟩
       · exact ⟨.inr (.inl hb),hne⟩
   · exact ⟨hgrow.os.trans HB2.out.os,hgrow.tape.trans HB2.out.tape,hgrow.output.trans HB2.out.output,by omega,fun b hb hne=>(hblk b (by omega) (fun e=>hne e.symm)).trans (HB2.out.block b hb)⟩
end Go.Proofs.LF