/- Parts of the proof of a law of layer 11 (file): LfYao. The conditions stand in each theorem. -/
import Derived.Test.YtffjknkcogmnbaaGreatDoorProg
import Derived.Test.YtffjknkcogmnbaaGreatDoorTyac
import Derived.Test.YtffjknkcogmnbaaGreatDoorTyae
import Derived.Test.YtffjknkcogmnbaaGreatDoorTyap
set_option linter.all false
set_option linter.unusedVariables false
set_option linter.unusedSimpArgs false
set_option linter.all false
set_option linter.unusedVariables false
set_option linter.unusedSimpArgs false
namespace Go.Proofs.LF
open Go.RowKit Go.Sort
set_option maxHeartbeats 4000000
set_option maxRecDepth 100000
attribute [local go_sem] q1_ q2_ q8_
theorem ret118 {tmps:Array Value} {W:World} {b:Nat} {x y t5:Value} (h:W.heap[b]? = some (.cells #[x,y] 98 (0,0))) (h2:tmps.getD 4 undef = .pointer (some ⟨b,0,none⟩)) (h3:tmps.getD 5 undef = t5) :
 (results Tryz.f32 tmps).run Tryz.prog W = .ok (.tuple #[.agg #[x,y],t5]) W:=by
 have h0:=cg_ h (k:=0) rfl
 have h1:=cg_ h (k:=1) rfl
 rw [results_cell_tmp rfl,h2,h3]
 simp [go_sem,h0,h1]
theorem nil_pth (S:Nat→Prop) (w:World):Pth S w (.slice none 0 0) []:=⟨rfl,none,0,rfl,nl_ _,by simp [maxLen],fun _=>rfl, .inl rfl⟩
theorem nil_ints (S:Nat→Prop) (w:World):zh_ S w (.slice none 0 0) []:=⟨rfl,none,0,rfl,nl_ _,by simp [maxLen],fun _=>rfl, .inl rfl⟩
def FndR (l:List Fl) (p:List Ky) (S:Nat→Prop) (w:World) (e:Ending) (w':World):Prop:=
 ∃ ap cp an cn,e = .returned (.tuple #[.agg #[.slice ap ((fnd l p).getD fl0).p.length cp, .slice an ((fnd l p).getD fl0).l.length cn], .bool (fnd l p).isSome]) ∧
  Pth S w' (.slice ap ((fnd l p).getD fl0).p.length cp) ((fnd l p).getD fl0).p∧zh_ S w' (.slice an ((fnd l p).getD fl0).l.length cn) ((fnd l p).getD fl0).l∧Below w.heap.size w w'
theorem kL_ (l:List Fl) (p:List Ky) (al ap:Option Addr) (cl cp:Nat) (S T:Nat→Prop) (w:World) (hv:FlSl S w (.slice al l.length cl) l) (hS:∀ b,S b→b < w.heap.size) (hp:Pth T w (.slice ap p.length cp) p) (hT:∀ b,T b→b < w.heap.size)
 (hl:l.length ≤ 1000) (hsm:SmF l) (lp:p.length ≤ 1000) :
 Calls Tryz.prog 32 #[.slice al l.length cl, .slice ap p.length cp] w (FndR l p S w):=by
 have hb1:Below w.heap.size w (w.alloc (.cells #[.slice none 0 0, .slice none 0 0] 98)):=(Below.refl _ _).alloc (nl_ _) _
 have H:=hid (jD_ l p al ap cl cp S T (w.alloc (.cells #[.slice none 0 0, .slice none 0 0] 98)) (LSl.agree hv (qc_ hb1 hS)) (fun b hb=>by have:=hS b hb;simp;omega) (hp.agree (qc_ hb1 hT)) (fun b hb=>by have:=hT b hb;simp;omega) hl hsm lp)
 obtain ⟨a',c',he,hc,hcm,hat⟩:=hv.at
 obtain ⟨rfl,rfl⟩:al = a'∧cl = c':=by cases he;exact ⟨rfl,rfl⟩
 have HAT:=hid hat
 have HS:=hid hS
 have HB1:=hid hb1
 clear hat he hv hp hb1 hS
 unfold maxLen at hcm
 go_enter Tryz.func32,Tryz.ntmps32
 go_wp2_with fail
 refine H.out.mono ?_
 rintro e w2 ⟨rfl,hb2⟩
 have hres:=(hb2.block w.heap.size (by simp)).trans (ha_ _ _)
 have HRS:=hid hres
 have r0:=cg_ hres (k:=0) rfl
 have r1:=cg_ hres (k:=1) rfl
 have f0:=q5_ hres (k:=0)
 have f1:=q5_ hres (k:=1)
 have HB2:=hid (HB1.out.trans (hb2.mono (by simp)))
 clear hres hb2
 obtain ⟨i,hi⟩:∃ i,fndI l p = i:=⟨_,rfl⟩
 by_cases hf:i < l.length∧cmpP (l.getD i fl0).p p = 0
 · have hfd:(decide (fndI l p < l.length) && decide (cmpP (l.getD (fndI l p) fl0).p p = 0)) = true:=by rw [hi];simp only [hf.1,hf.2,decide_true,Bool.and_self]
   have hil:=hf.1
   have hg:l.getD i fl0 = l[i]:=by simp [List.getD_eq_getElem?_getD,hil]
   have hfn:fnd l p = some l[i]:=by
    unfold fnd
    rw [hi,List.getElem?_eq_getElem hil]
    simp only
    rw [if_pos (by rw [← hg];exact hf.2)]
   have HFN:=hid hfn
   have hil':(i:Int) < (l.length:Int):=by omega
   have hi0:(0:Int) ≤ (i:Int):=by omega
   obtain ⟨g,o,cs1,rfl,hgS,⟨ap2,cp2,an,cn,rfl,hP,hI⟩,hcell⟩:=HAT.out i hil
   have ha:qg_ S w w2:=qc_ HB2.out HS.out
   have c0:=ha.cell hgS (hcell 0 _ rfl)
   have c1:=ha.cell hgS (hcell 1 _ rfl)
   rw [Nat.add_zero] at c0
   rw [← Nat.add_assoc] at c1
   rw [hfd,hi]
   have HA:=hid ha
   have HP:=hid hP
   have HI:=hid hI
   clear hf hfd hg hfn hcell hi ha hP hI
   go_wp2_with fail
   refine bodyPost_ret (v := .tuple #[.agg #[.slice ap2 l[i].p.length cp2, .slice an l[i].l.length cn], .bool true]) (ret118 (ko_ HRS.out) rfl rfl) rfl ?_
   have hfar:qg_ S w2 ((w2.setCell ⟨w.heap.size,0,none⟩ (.slice ap2 l[i].p.length cp2)).setCell ⟨w.heap.size,1,none⟩ (.slice an l[i].l.length cn)):=fun b hb=>by
    have:b ≠ w.heap.size:=by have:=HS.out b hb;omega
    rw [Below.heap_setCell _ _ _ _ this,Below.heap_setCell _ _ _ _ this]
   refine ⟨ap2,cp2,an,cn,by rw [HFN.out];rfl,?_,?_,Below.setCell (Below.setCell HB2.out (p:=⟨w.heap.size,0,none⟩) (nl_ _) _) (p:=⟨w.heap.size,1,none⟩) (nl_ _) _⟩
   · rw [HFN.out];exact (HP.out.agree HA.out).agree hfar
   · rw [HFN.out];exact (HI.out.agree HA.out).agree hfar
 · have hfd:(decide (fndI l p < l.length) && decide (cmpP (l.getD (fndI l p) fl0).p p = 0)) = false:=by rw [hi];simpa using hf
   have hfn:fnd l p = none:=by
    unfold fnd
    rw [hi]
    by_cases hil:i < l.length
    · have hg:l.getD i fl0 = l[i]:=by simp [List.getD_eq_getElem?_getD,hil]
      rw [List.getElem?_eq_getElem hil]
      simp only
      rw [if_neg (fun e=>hf ⟨hil,by rw [hg];exact e⟩)]
    · rw [List.getElem?_eq_none (by omega)]
   have HFN:=hid hfn
   rw [hfd]
   clear hf hfd hfn hi
   go_wp2_with fail
   refine bodyPost_ret (v := .tuple #[.agg #[.slice none 0 0, .slice none 0 0], .bool false]) (ret118 (ko_ HRS.out) rfl rfl) rfl ?_
   refine ⟨none,0,none,0,by rw [HFN.out];rfl,?_,?_,Below.setCell (Below.setCell HB2.out (p:=⟨w.heap.size,0,none⟩) (nl_ _) _) (p:=⟨w.heap.size,1,none⟩) (nl_ _) _⟩
   · rw [HFN.out];exact nil_pth _ _
   · rw [HFN.out];exact nil_ints _ _
end Go.Proofs.LF