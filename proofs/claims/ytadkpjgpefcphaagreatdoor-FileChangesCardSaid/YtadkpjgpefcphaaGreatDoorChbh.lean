/- Parts of the proof of a law of layer 11 (file): LfW112. The conditions stand in each theorem. -/
import Derived.Test.YtadkpjgpefcphaaGreatDoorProg
import Derived.Test.YtadkpjgpefcphaaGreatDoorChab
import Derived.Test.YtadkpjgpefcphaaGreatDoorChad
import Derived.Test.YtadkpjgpefcphaaGreatDoorChaq
import Derived.Test.YtadkpjgpefcphaaGreatDoorChas
import Derived.Test.YtadkpjgpefcphaaGreatDoorChbb
import Derived.Test.YtadkpjgpefcphaaGreatDoorChbg
set_option linter.all false
set_option linter.unusedVariables false
set_option linter.unusedSimpArgs false
namespace Go.Proofs.LF
open Go.RowKit Go.Sort
set_option maxHeartbeats 4000000
set_option maxRecDepth 100000
attribute [local go_sem] bs_toList bs_size bs_get
def b6C (x:Ch):Bool:=!(x.p.all fun k=>k.h || decide (k.x = 0))
def b7C (x:Ch):Bool:=(!x.had && decide (0 < x.old.length)) || (!x.has && decide (0 < x.new.length)) || (!x.had && !x.has)
def b8C (x:Ch) (last:Ky):Bool:=(x.had && !begK last x.old) || (x.has && !begK last x.new) || (x.had && x.has && decide (x.old = x.new))
theorem rt_parts (x:Ch) (last:Ky):rtC x last = !(b6C x || b7C x || b8C x last):=by
 unfold rtC b6C b7C b8C
 cases x.had <;> cases x.has <;> cases (x.p.all fun k=>k.h || decide (k.x = 0)) <;> cases decide (0 < x.old.length) <;> cases decide (0 < x.new.length) <;> cases begK last x.old <;> cases begK last x.new <;> cases decide (x.old = x.new) <;> rfl
theorem offB_in (n:Int):offB n 9999 = !inB n 0 9999:=by
 unfold offB inB
 by_cases h1:n < 0
 · have:¬ 0 ≤ n:=by omega
   simp [h1,this]
 · have h0:0 ≤ n:=by omega
   by_cases h2:9999 < n
   · have:¬ n ≤ 9999:=by omega
     simp [h1,h2,this,h0]
   · have:n ≤ 9999:=by omega
     simp [h1,h2,this,h0]
def posN (n:Nat):Bool:=decide (0 < n)
theorem RefCk_any (l:List Ch) (al:Option Addr) (cl:Nat) (S:Nat→Prop) (w:World) (hv:ChSl S w (.slice al l.length cl) l) (hS:∀ b,S b→b < w.heap.size) (hl:l.length ≤ 1000) (hsm:SmCh l) :
 Calls Tryz.prog 66 #[.slice al l.length cl] w fun e w'=>e = .returned (.int .i64 (ckC l))∧Below w.heap.size w w':=by
 obtain ⟨al',cl',ee,_,hcm,hat⟩:=LSl.at hv
 obtain ⟨rfl,rfl⟩:al = al'∧cl = cl':=by cases ee;exact ⟨rfl,rfl⟩
 have HAT:=hid hat
 have HS:=hid hS
 have HSM:=hid hsm
 unfold maxLen at hcm
 clear hv hS hsm ee hat
 by_cases hmany:120 < l.length
 · have hmany':(120:Int) < (l.length:Int):=by omega
   have he:ckC l = 2:=by rw [ckC,if_pos hmany]
   have HE:=hid he
   clear he
   go_enter Tryz.func66,Tryz.ntmps66
   go_wp2_with fail
   go_ret
   exact ⟨by rw [HE.out];rfl,Below.refl _ _⟩
 have hmany':¬ (120:Int) < (l.length:Int):=by omega
 have he:ckC l = ckL none l:=by rw [ckC,if_neg hmany]
 have HE:=hid he
 clear he
 go_enter Tryz.func66,Tryz.ntmps66
 go_wp2_with fail
 go_loopw [3] (fun i wr=>∃ k:Nat,k ≤ l.length∧i = .int .i64 k∧Hid (ckC l = ckL (prevP l k) (l.drop k))∧Hid (Below w.heap.size w wr)) (fun i _=>l.length - (intOf i).toNat)
 case atStart=>exact ⟨0,by omega,rfl,by rw [Hid,HE.out];rfl,Below.refl _ _⟩
 case round=>
  obtain ⟨k,hk,rfl,HK,HB⟩:=hrel
  have hzr:=HB.out.size
  by_cases hlt:k < l.length
  · have hlt':(k:Int) < (l.length:Int):=by omega
    obtain ⟨g,o,cs,rfl,hg,⟨ap,cp,ao,co,an,cn,rfl,hP,hO,hN⟩,hcl⟩:=HAT.out k hlt
    have hag:=Ag_b (S:=S) HB.out HS.out
    have c0:=hag.cell hg (hcl 0 _ rfl)
    have c1:=hag.cell hg (hcl 1 _ rfl)
    have c2:=hag.cell hg (hcl 2 _ rfl)
    have c3:=hag.cell hg (hcl 3 _ rfl)
    have c4:=hag.cell hg (hcl 4 _ rfl)
    rw [Nat.add_zero] at c0
    simp only [← Nat.add_assoc] at c1 c2 c3 c4
    have hsm:=HSM.out l[k] (List.getElem_mem hlt)
    have hdr:l.drop k = l[k] :: l.drop (k + 1):=List.drop_eq_getElem_cons hlt
    have hpv:prevP l (k + 1) = some l[k].p:=by simp [prevP,List.getElem?_eq_getElem hlt]
    have hprev:(k = 0∧prevP l k = none) ∨ ∃ (q:List Ky) (aq:Option Addr) (cq:Nat),0 < k∧prevP l k = some q∧wr.cell? ⟨g,o + (k - 1) * 5,none⟩ = some (.slice aq q.length cq)∧Pth S wr (.slice aq q.length cq) q∧q.length ≤ 1000:=by
     rcases Nat.eq_zero_or_pos k with h | h
     · left;subst h;exact ⟨rfl,rfl⟩
     · right
       obtain ⟨k',rfl⟩:∃ k',k = k' + 1:=⟨k - 1,by omega⟩
       obtain ⟨g2,o2,cs2,e2,_,⟨aq,cq,ao2,co2,an2,cn2,rfl,hP2,_,_⟩,hcl2⟩:=HAT.out k' (by omega)
       cases e2
       refine ⟨l[k'].p,aq,cq,by omega,by simp [prevP,List.getElem?_eq_getElem (show k' < l.length by omega)],?_,hP2.agree hag,(HSM.out _ (List.getElem_mem _)).1⟩
       have:=hag.cell hg (hcl2 0 _ rfl)
       rw [Nat.add_zero] at this
       exact this
    obtain ⟨x,hx⟩:∃ x,l[k] = x:=⟨_,rfl⟩
    rw [hx] at hP hO hN c0 c1 c2 c3 c4 hsm hdr hpv
    have hone:ckC l = if ckOne (prevP l k) x = 0 then ckL (prevP l (k + 1)) (l.drop (k + 1)) else ckOne (prevP l k) x:=by
     rw [HK.out,hdr,ckL,hpv]
    obtain ⟨pq,hpq⟩:∃ pq,prevP l k = pq:=⟨_,rfl⟩
    rw [hpq] at hone hprev
    have ONE:=hid hone
    have PREV:=hid hprev
    have PX:=hid (hP.agree hag)
    have OX:=hid (hO.agree hag)
    have NX:=hid (hN.agree hag)
    have HSW:=hid (fun b (hb:S b)=>show b < wr.heap.size from by have:=HS.out b hb;omega)
    obtain ⟨s1,s2,s3,s4⟩:=hsm
    have S2:=hid s2
    have NBK:=hid (heap_alloc_new wr (.cells #[.slice ap x.p.length cp, .bool x.had, .bool x.has, .slice ao x.old.length co, .slice an x.new.length cn] 120))
    have BA:=hid ((Below.refl wr.heap.size wr).alloc (nl_ _) (.cells #[.slice ap x.p.length cp, .bool x.had, .bool x.has, .slice ao x.old.length co, .slice an x.new.length cn] 120))
    obtain ⟨w0,hw0⟩:∃ w0,w0 = wr:=⟨_,rfl⟩
    subst hw0
    obtain ⟨gp,op,hpc⟩:∃ gp op,∀ j (hj:j < x.p.length),ap = some ⟨gp,op,none⟩∧S gp∧w0.cell? ⟨gp,op + j * 3,none⟩ = some (.string (bs x.p[j].n))∧w0.cell? ⟨gp,op + j * 3 + 1,none⟩ = some (.bool x.p[j].h)∧w0.cell? ⟨gp,op + j * 3 + 2,none⟩ = some (.int .i64 x.p[j].x):=by
     by_cases h0:x.p.length = 0
     · exact ⟨0,0,fun j hj=>by omega⟩
     · obtain ⟨gp,op,e,hg',_,_,hpc⟩:=SlC.cells PX.out (by omega)
       refine ⟨gp,op,fun j hj=>⟨e,hg',?_⟩⟩
       obtain ⟨k0,k1,k2⟩:=key_cells hj
       have q0:=hpc _ _ k0
       have q1:=hpc _ _ k1
       have q2:=hpc _ _ k2
       rw [← Nat.add_assoc] at q1 q2
       exact ⟨q0,q1,q2⟩
    have HPC:=hid hpc
    clear hcl hP hO hN hx hdr hpv hprev hpq hone s2 hag HK hpc
    obtain ⟨wa,hwa⟩:∃ wa,w0.alloc (.cells #[.slice ap x.p.length cp, .bool x.had, .bool x.has, .slice ao x.old.length co, .slice an x.new.length cn] 120) = wa:=⟨_,rfl⟩
    have hza:w0.heap.size < wa.heap.size:=by rw [← hwa];simp
    have HWA:=hid hwa
    rw [hwa] at NBK BA
    have e0:=cg_ NBK.out (k:=0) (v := .slice ap x.p.length cp) rfl
    have e1:=cg_ NBK.out (k:=1) (v := .bool x.had) rfl
    have e2:=cg_ NBK.out (k:=2) (v := .bool x.has) rfl
    have e3:=cg_ NBK.out (k:=3) (v := .slice ao x.old.length co) rfl
    have e4:=cg_ NBK.out (k:=4) (v := .slice an x.new.length cn) rfl
    clear hwa
    have BA0:=hid (HB.out.trans (BA.out.mono hzr))
    have PA:=hid (PX.out.agree (fun b hb=>BA.out.block b (HSW.out b hb)))
    have OA:=hid (OX.out.agree (fun b hb=>BA.out.block b (HSW.out b hb)))
    have NA:=hid (NX.out.agree (fun b hb=>BA.out.block b (HSW.out b hb)))
    have HSA:=hid (show ∀ b,S b→b < wa.heap.size from fun b hb=>by have:=HSW.out b hb;omega)
    have HPA:=hid (fun (j:Nat) (hj:j < x.p.length)=>show ap = some ⟨gp,op,none⟩∧wa.cell? ⟨gp,op + j * 3,none⟩ = some (.string (bs x.p[j].n))∧wa.cell? ⟨gp,op + j * 3 + 1,none⟩ = some (.bool x.p[j].h)∧wa.cell? ⟨gp,op + j * 3 + 2,none⟩ = some (.int .i64 x.p[j].x) from by
     obtain ⟨r0,r1,r2,r3,r4⟩:=HPC.out j hj
     have hb:=HSW.out gp r1
     exact ⟨r0,bc_ BA.out hb r2,bc_ BA.out hb r3,bc_ BA.out hb r4⟩)
    have NMS:=hid (show ∀ j (hj:j < x.p.length),x.p[j].n.length ≤ 1000 from fun j hj=>S2.out _ (List.getElem_mem hj))
    by_cases hp1:x.p.length < 1
    · have hp1':(x.p.length:Int) < 1:=by omega
      have hc1:ckOne pq x = 10:=by
       unfold ckOne
       rw [if_pos (by simp only [inB,Bool.and_eq_false_iff,decide_eq_false_iff_not];omega)]
      have he:ckC l = 10:=by rw [ONE.out,hc1,if_neg (by omega)]
      have HEE:=hid he
      clear he hp1
      go_wp2_with (rw [HWA.out])
      go_ret
      exact ⟨by rw [HEE.out];rfl,BA0.out⟩
    have hp1':¬ (x.p.length:Int) < 1:=by omega
    by_cases hp4:4 < x.p.length
    · have hp4':(4:Int) < (x.p.length:Int):=by omega
      have hc1:ckOne pq x = 10:=by
       unfold ckOne
       rw [if_pos (by simp only [inB,Bool.and_eq_false_iff,decide_eq_false_iff_not];omega)]
      have he:ckC l = 10:=by rw [ONE.out,hc1,if_neg (by omega)]
      have HEE:=hid he
      clear he hp4
      go_wp2_with (rw [HWA.out])
      go_ret
      exact ⟨by rw [HEE.out];rfl,BA0.out⟩
    have hp4':¬ (4:Int) < (x.p.length:Int):=by omega
    have hin:inB (x.p.length:Int) 1 4 = true:=by simp only [inB,Bool.and_eq_true,decide_eq_true_eq];omega
    have HIN:=hid hin
    have hpl:x.p.length ≤ 4:=by omega
    clear hin
    go_upto_block 2 with (rw [HWA.out])
    try rw [HWA.out]
    clear c0 c1 c2 c3 c4
    go_cut [5] from 32 to 45 (fun _ wx=>okNm x.p = true∧wx = wa)
    case first=>
     go_wp2_with fail
     go_loopw [5] (fun i wx=>∃ j:Nat,j ≤ x.p.length∧i = .int .i64 j∧Hid ((x.p.take j).all (fun k=>!badNm k.n) = true)∧wx = wa) (fun i _=>x.p.length - (intOf i).toNat)
     case atStart=>exact ⟨0,by omega,rfl,by simp [Hid],rfl⟩
     case round=>
      obtain ⟨j,hj,rfl,hall,rfl⟩:=hrel
      by_cases hlj:j < x.p.length
      · have hlj':(j:Int) < (x.p.length:Int):=by omega
        obtain ⟨r0,r1,r2,r3⟩:=HPA.out j hlj
        subst r0
        have hnl:=NMS.out j hlj
        have htk:x.p.take (j + 1) = x.p.take j ++ [x.p[j]]:=List.take_succ_eq_append_getElem hlj
        have hme:=List.getElem_mem hlj
        obtain ⟨k',hk'⟩:∃ k',x.p[j] = k':=⟨_,rfl⟩
        rw [hk'] at r1 r2 r3 hnl htk hme
        have BN:=hid (badName_any k'.n wr (by omega))
        have HTK:=hid htk
        have HME:=hid hme
        clear hk' htk hme
        go_wp2_with fail
        refine BN.out.mono ?_
        rintro e w1 ⟨rfl,rfl⟩
        cases hbd:badNm k'.n
        · have HBD:=hid hbd
          apply_assumption
          go_wp2_with fail
          go_roundw
          case rel=>exact ⟨j + 1,by omega,by go_num,by rw [Hid,HTK.out,List.all_append,hall.out];simp [HBD.out],by first | rfl | trivial⟩
          case measure=>simp [intOf];omega
        · have hc1:ckOne pq x = 11:=by
           unfold ckOne
           rw [if_neg (by rw [HIN.out];simp),if_pos (by
            rw [okNm,List.all_eq_false]
            exact ⟨k',HME.out,by rw [hbd];simp⟩)]
          have he:ckC l = 11:=by rw [ONE.out,hc1,if_neg (by omega)]
          have HEE:=hid he
          clear he hbd
          apply_assumption
          go_wp2_with fail
          go_ret
          exact ⟨by rw [HEE.out];rfl,BA0.out⟩
      · obtain rfl:j = x.p.length:=by omega
        have hlj':¬ (x.p.length:Int) < (x.p.length:Int):=by omega
        go_wp2_with fail
        go_meet
        case rel=>
         have:=hall.out
         rw [List.take_length] at this
         exact ⟨this,rfl⟩
    case rest=>
     obtain ⟨hnm,hwc⟩:=hcut
     have hwc':=hwc.symm
     subst hwc'
     have HNM:=hid hnm
     clear hnm hwc
     have base:∀ v,ckOne pq x = v→v ≠ 0→ckC l = v:=fun v h h0=>by rw [ONE.out,h,if_neg h0]
     have BASE:=hid base
     clear base
     by_cases ho4:4 < x.old.length
     · have ho4':(4:Int) < (x.old.length:Int):=by omega
       have he:=BASE.out 2 (by unfold ckOne;rw [if_neg (by rw [HIN.out];simp),if_neg (by rw [HNM.out];simp),if_pos (by simp [ho4])]) (by omega)
       have HEE:=hid he
       clear he ho4
       go_wp2_with fail
       go_ret
       exact ⟨by rw [HEE.out];rfl,BA0.out⟩
     have ho4':¬ (4:Int) < (x.old.length:Int):=by omega
     by_cases hn4:4 < x.new.length
     · have hn4':(4:Int) < (x.new.length:Int):=by omega
       have he:=BASE.out 2 (by unfold ckOne;rw [if_neg (by rw [HIN.out];simp),if_neg (by rw [HNM.out];simp),if_pos (by simp [hn4])]) (by omega)
       have HEE:=hid he
       clear he hn4
       go_wp2_with fail
       go_ret
       exact ⟨by rw [HEE.out];rfl,BA0.out⟩
     have hn4':¬ (4:Int) < (x.new.length:Int):=by omega
     have base3:∀ v,(if (!(okNu x.p) || badNs x.old || badNs x.new) = true then 3 else if rtC x (lstK x.p) = false then 8 else if behB pq x.p = true then 4 else 0) = v→v ≠ 0→ckC l = v:=fun v h h0=>BASE.out v (by
      unfold ckOne
      rw [if_neg (by rw [HIN.out];simp),if_neg (by rw [HNM.out];simp),if_neg (by simp;omega)]
      exact h) h0
     have BASE3:=hid base3
     clear base3 ho4 hn4
     go_upto_block 4 with fail
     go_cut [6] from 56 to 69 (fun _ wx=>okNu x.p = true∧wx = wa)
     case first=>
      go_wp2_with fail
      go_loopw [6] (fun i wx=>∃ j:Nat,j ≤ x.p.length∧i = .int .i64 j∧Hid ((x.p.take j).all (fun k=>inB k.x 0 9999) = true)∧wx = wa) (fun i _=>x.p.length - (intOf i).toNat)
      case atStart=>exact ⟨0,by omega,rfl,by simp [Hid],rfl⟩
      case round=>
       obtain ⟨j,hj,rfl,hall,rfl⟩:=hrel
       by_cases hlj:j < x.p.length
       · have hlj':(j:Int) < (x.p.length:Int):=by omega
         obtain ⟨r0,r1,r2,r3⟩:=HPA.out j hlj
         subst r0
         have htk:x.p.take (j + 1) = x.p.take j ++ [x.p[j]]:=List.take_succ_eq_append_getElem hlj
         have hme:=List.getElem_mem hlj
         obtain ⟨k',hk'⟩:∃ k',x.p[j] = k':=⟨_,rfl⟩
         rw [hk'] at r1 r2 r3 htk hme
         have BN:=hid (off_any k'.x 9999 wr)
         have HTK:=hid htk
         have HME:=hid hme
         clear hk' htk hme
         go_wp2_with fail
         refine BN.out.mono ?_
         rintro e w1 ⟨rfl,rfl⟩
         rw [offB_in]
         cases hbd:inB k'.x 0 9999
         · have he:=BASE3.out 3 (by
            rw [if_pos (by
             have:okNu x.p = false:=by rw [okNu,List.all_eq_false];exact ⟨k',HME.out,by rw [hbd];simp⟩
             rw [this];simp)]) (by omega)
           have HEE:=hid he
           clear he hbd
           apply_assumption
           go_wp2_with fail
           go_ret
           exact ⟨by rw [HEE.out];rfl,BA0.out⟩
         · have HBD:=hid hbd
           apply_assumption
           go_wp2_with fail
           go_roundw
           case rel=>exact ⟨j + 1,by omega,by go_num,by rw [Hid,HTK.out,List.all_append,hall.out];simp [HBD.out],by first | rfl | trivial⟩
           case measure=>simp [intOf];omega
       · obtain rfl:j = x.p.length:=by omega
         have hlj':¬ (x.p.length:Int) < (x.p.length:Int):=by omega
         go_wp2_with fail
         go_meet
         case rel=>
          have:=hall.out
          rw [List.take_length] at this
          exact ⟨this,rfl⟩
     case rest=>
      obtain ⟨hnu,hwc⟩:=hcut
      have hwc':=hwc.symm
      subst hwc'
      have HNU:=hid hnu
      clear hnu hwc
      have N1:=hid (badNumbers_any x.old ao co S wa OA.out (by omega))
      have N2:=hid (badNumbers_any x.new an cn S wa NA.out (by omega))
      go_wp2_with fail
      refine N1.out.mono ?_
      rintro e w1 ⟨rfl,hw1⟩
      have hw1':=hw1
      subst hw1'
      clear hw1
      cases hb1:badNs x.old
      rotate_left
      · have he:=BASE3.out 3 (by rw [if_pos (by rw [hb1];simp)]) (by omega)
        have HEE:=hid he
        clear he hb1
        apply_assumption
        go_wp2_with fail
        go_ret
        exact ⟨by rw [HEE.out];rfl,BA0.out⟩
      have HB1:=hid hb1
      clear hb1
      apply_assumption
      go_wp2_with fail
      refine N2.out.mono ?_
      rintro e w1 ⟨rfl,hw1⟩
      have hw1':=hw1
      subst hw1'
      clear hw1
      cases hb2:badNs x.new
      rotate_left
      · have he:=BASE3.out 3 (by rw [if_pos (by rw [hb2];simp)]) (by omega)
        have HEE:=hid he
        clear he hb2
        apply_assumption
        go_wp2_with fail
        go_ret
        exact ⟨by rw [HEE.out];rfl,BA0.out⟩
      have base8:∀ v,(if rtC x (lstK x.p) = false then 8 else if behB pq x.p = true then 4 else 0) = v→v ≠ 0→ckC l = v:=fun v h h0=>BASE3.out v (by
       rw [if_neg (by rw [HNU.out,HB1.out,hb2];simp)]
       exact h) h0
      have ok0:rtC x (lstK x.p) = true→behB pq x.p = false→ckOne pq x = 0:=fun h1 h2=>by
       unfold ckOne
       rw [if_neg (by rw [HIN.out];simp),if_neg (by rw [HNM.out];simp),if_neg (by simp;omega),if_neg (by rw [HNU.out,HB1.out,hb2];simp),if_neg (by rw [h1];simp),if_neg (by rw [h2];simp)]
      have BASE8:=hid base8
      have OK0:=hid ok0
      clear base8 ok0 hb2 N1 N2
      apply_assumption
      go_upto_block 6 with fail
      go_cut [7] from 78 to 100 (fun _ wx=>b6C x = false∧wx = wa)
      case first=>
       go_wp2_with fail
       go_loopw [7] (fun i wx=>∃ j:Nat,j ≤ x.p.length∧i = .int .i64 j∧Hid ((x.p.take j).all (fun k=>k.h || decide (k.x = 0)) = true)∧wx = wa) (fun i _=>x.p.length - (intOf i).toNat)
       case atStart=>exact ⟨0,by omega,rfl,by simp [Hid],rfl⟩
       case round=>
        obtain ⟨j,hj,rfl,hall,rfl⟩:=hrel
        by_cases hlj:j < x.p.length
        · have hlj':(j:Int) < (x.p.length:Int):=by omega
          obtain ⟨r0,r1,r2,r3⟩:=HPA.out j hlj
          subst r0
          have htk:x.p.take (j + 1) = x.p.take j ++ [x.p[j]]:=List.take_succ_eq_append_getElem hlj
          have hme:=List.getElem_mem hlj
          obtain ⟨k',hk'⟩:∃ k',x.p[j] = k':=⟨_,rfl⟩
          rw [hk'] at r1 r2 r3 htk hme
          have HTK:=hid htk
          have HME:=hid hme
          clear hk' htk hme
          by_cases hkh:k'.h = true
          · rw [hkh] at r2
            have HKH:=hid hkh
            clear hkh
            go_wp2_with fail
            go_roundw
            case rel=>exact ⟨j + 1,by omega,by go_num,by rw [Hid,HTK.out,List.all_append,hall.out];simp [HKH.out],by first | rfl | trivial⟩
            case measure=>simp [intOf];omega
          · have hkh':k'.h = false:=by simpa using hkh
            rw [hkh'] at r2
            have HKH:=hid hkh'
            clear hkh hkh'
            by_cases hx0:k'.x = 0
            · have hx0':(k'.x != 0) = false:=by simp [hx0]
              have HX0:=hid hx0
              clear hx0
              go_wp2_with fail
              go_roundw
              case rel=>exact ⟨j + 1,by omega,by go_num,by rw [Hid,HTK.out,List.all_append,hall.out];simp [HX0.out],by first | rfl | trivial⟩
              case measure=>simp [intOf];omega
            · have hx0':(k'.x != 0) = true:=by simp [hx0]
              have he:=BASE8.out 8 (by
               rw [if_pos (by
                have:b6C x = true:=by
                 unfold b6C
                 rw [Bool.not_eq_true',List.all_eq_false]
                 exact ⟨k',HME.out,by simp [HKH.out,hx0]⟩
                rw [rt_parts,this];simp)]) (by omega)
              have HEE:=hid he
              clear he hx0
              go_wp2_with fail
              go_ret
              exact ⟨by rw [HEE.out];rfl,BA0.out⟩
        · obtain rfl:j = x.p.length:=by omega
          have hlj':¬ (x.p.length:Int) < (x.p.length:Int):=by omega
          go_wp2_with fail
          go_meet
          case rel=>
           have:=hall.out
           rw [List.take_length] at this
           exact ⟨by unfold b6C;rw [this];rfl,rfl⟩
      case rest=>
       obtain ⟨hb6,hwc⟩:=hcut
       have hwc':=hwc.symm
       subst hwc'
       have HB6:=hid hb6
       clear hb6 hwc
       obtain ⟨m,hm⟩:∃ m,x.p.length = m + 1:=⟨x.p.length - 1,by omega⟩
       obtain ⟨r0,r1,r2,r3⟩:=HPA.out m (by omega)
       subst r0
       have hlast:lstK x.p = x.p[m]'(by omega):=by
        unfold lstK
        rw [List.getLastD_eq_getLast?,List.getLast?_eq_getElem?,show x.p.length - 1 = m by omega,List.getElem?_eq_getElem (by omega)];rfl
       obtain ⟨kl,hkl⟩:∃ kl,x.p[m]'(by omega) = kl:=⟨_,rfl⟩
       rw [hkl] at r1 r2 r3 hlast
       have HLA:=hid hlast
       have hsub:((x.p.length:Int) - 1) = (m:Int):=by omega
       have hmx:(m:Int) < (x.p.length:Int):=by omega
       have hm0:(0:Int) ≤ (m:Int):=by omega
       have hmw:IntKind.i64.wrap (m:Int) = (m:Int):=IntWalk.i64_in _ (by omega)
       have HMM:=hid hm
       clear hkl hlast hm
       obtain ⟨wb,hwb⟩:∃ wb,wa.alloc (.cells #[.string (bs kl.n), .bool kl.h, .int .i64 kl.x] 160) = wb:=⟨_,rfl⟩
       have hzb:wa.heap.size < wb.heap.size:=by rw [← hwb];simp
       have BB:=hid (show Below wa.heap.size wa wb by rw [← hwb];exact (Below.refl _ _).alloc (nl_ _) _)
       have NB2:=hid (show wb.heap[wa.heap.size]? = some (.cells #[.string (bs kl.n), .bool kl.h, .int .i64 kl.x] 160 (0,0)) by rw [← hwb];exact heap_alloc_new _ _)
       have HWB:=hid hwb
       clear hwb
       go_upto_region 29 with (rw [HWB.out])
       try rw [HWB.out]
       have f0:=bc_ BB.out (by omega) e0
       have f1:=bc_ BB.out (by omega) e1
       have f2:=bc_ BB.out (by omega) e2
       have f3:=bc_ BB.out (by omega) e3
       have f4:=bc_ BB.out (by omega) e4
       clear r1 r2 r3 e0 e1 e2 e3 e4
       have HF:=hid (show wb.cell? ⟨w0.heap.size,0,none⟩ = some (.slice (some ⟨gp,op,none⟩) x.p.length cp)∧wb.cell? ⟨w0.heap.size,1,none⟩ = some (.bool x.had)∧wb.cell? ⟨w0.heap.size,2,none⟩ = some (.bool x.has)∧wb.cell? ⟨w0.heap.size,3,none⟩ = some (.slice ao x.old.length co)∧wb.cell? ⟨w0.heap.size,4,none⟩ = some (.slice an x.new.length cn) from ⟨f0,f1,f2,f3,f4⟩)
       obtain ⟨Lo,hLo⟩:∃ n,x.old.length = n:=⟨_,rfl⟩
       obtain ⟨Ln,hLn⟩:∃ n,x.new.length = n:=⟨_,rfl⟩
       rw [hLo] at f3
       rw [hLn] at f4
       simp only [hLo,hLn]
       have HLO:=hid hLo
       have HLN:=hid hLn
       have hps1:∀ n:Nat,decide ((0:Int) < (n:Int)) = posN n:=fun n=>by simp [posN]
       have hps2:∀ n:Nat,decide (0 < n) = posN n:=fun n=>rfl
       clear hLo hLn
       go_cut [138] from 109 to 137 (fun q wx=>q = .bool (b7C x)∧wx = wb)
       case first=>
        obtain ⟨hh,hhh⟩:∃ b,x.had = b:=⟨_,rfl⟩
        obtain ⟨hg2,hhg⟩:∃ b,x.has = b:=⟨_,rfl⟩
        have hb7:b7C x = ((!hh && decide (0 < x.old.length)) || (!hg2 && decide (0 < x.new.length)) || (!hh && !hg2)):=by unfold b7C;rw [hhh,hhg]
        rw [hhh] at f1
        rw [hhg] at f2
        have HB7:=hid hb7
        clear hhh hhg hb7
        obtain ⟨bo,hbo⟩:∃ b,posN Lo = b:=⟨_,rfl⟩
        obtain ⟨bn,hbn⟩:∃ b,posN Ln = b:=⟨_,rfl⟩
        have H7:=hid (show b7C x = ((!hh && bo) || (!hg2 && bn) || (!hh && !hg2)) by
         rw [HB7.out,HLO.out,HLN.out,← hbo,← hbn];rfl)
        clear HB7
        cases hh <;> cases hg2 <;> cases bo <;> cases bn
        all_goals
         go_wp2_with fail
         go_meet
         case rel=>exact ⟨by rw [H7.out];rfl,rfl⟩
       case rest=>
        obtain ⟨hq7,hwc⟩:=hcut
        have hLo:=HLO.out
        have hLn:=HLN.out
        subst hLo hLn
        clear hps1 hps2 HLO HLN
        have hwc':=hwc.symm
        subst hwc'
        clear hwc f0 f1 f2 f3 f4
        obtain ⟨q7,hq7'⟩:∃ q,b7C x = q:=⟨_,rfl⟩
        rw [hq7'] at hq7
        subst hq7
        have HQ7:=hid hq7'
        clear hq7'
        cases q7
        rotate_left
        · have he:=BASE8.out 8 (by rw [if_pos (by rw [rt_parts,HQ7.out];simp)]) (by omega)
          have HEE:=hid he
          clear he
          go_wp2_with fail
          go_ret
          exact ⟨by rw [HEE.out];rfl,BA0.out.trans (BB.out.mono (by have:=BA0.out.size;omega))⟩
        have OB:=hid (OA.out.agree (fun b hb=>BB.out.block b (HSA.out b hb)))
        have NB:=hid (NA.out.agree (fun b hb=>BB.out.block b (HSA.out b hb)))
        have HSB:=hid (show ∀ b,S b→b < wb.heap.size from fun b hb=>by have:=HSA.out b hb;omega)
        go_upto_region 31 with fail
        go_cut [173] from 139 to 172 (fun q wx=>q = .bool (b8C x kl)∧Below wb.heap.size wb wx)
        case first=>
         have n0:=cg_ NB2.out (k:=0) (v := .string (bs kl.n)) rfl
         have n1:=cg_ NB2.out (k:=1) (v := .bool kl.h) rfl
         have n2:=cg_ NB2.out (k:=2) (v := .int .i64 kl.x) rfl
         obtain ⟨f0,f1,f2,f3,f4⟩:=HF.out
         obtain ⟨hh,hhh⟩:∃ b,x.had = b:=⟨_,rfl⟩
         obtain ⟨hg2,hhg⟩:∃ b,x.has = b:=⟨_,rfl⟩
         obtain ⟨s1,hs1⟩:∃ s,begK kl x.old = s:=⟨_,rfl⟩
         obtain ⟨s2,hs2⟩:∃ s,begK kl x.new = s:=⟨_,rfl⟩
         obtain ⟨s3,hs3⟩:∃ s,decide (x.old = x.new) = s:=⟨_,rfl⟩
         have H8:=hid (show b8C x kl = ((hh && !s1) || (hg2 && !s2) || (hh && hg2 && s3)) by unfold b8C;rw [hhh,hhg,hs1,hs2,hs3])
         have st1:=starts_any kl x.old ao co S wb OB.out HSB.out
         rw [hs1] at st1
         have ST1:=hid st1
         have st2:∀ wy,Below wb.heap.size wb wy→Calls Tryz.prog 148 #[.agg #[.string (bs kl.n), .bool kl.h, .int .i64 kl.x], .slice an x.new.length cn] wy fun e w'=>e = .returned (.bool s2)∧Below wy.heap.size wy w':=fun wy hy=>by
          rw [← hs2]
          exact starts_any kl x.new an cn S wy (NB.out.agree (fun b hb=>hy.block b (HSB.out b hb))) (fun b hb=>by have:=HSB.out b hb;have:=hy.size;omega)
         have ST2:=hid st2
         have al3:∀ wy,Below wb.heap.size wb wy→Calls Tryz.prog 149 #[.slice ao x.old.length co, .slice an x.new.length cn] wy fun e w'=>e = .returned (.bool s3)∧Below wy.heap.size wy w':=fun wy hy=>by
          rw [← hs3]
          exact alikeI_any x.old x.new ao an co cn S wy (OB.out.agree (fun b hb=>hy.block b (HSB.out b hb))) (NB.out.agree (fun b hb=>hy.block b (HSB.out b hb))) (by omega) (by omega)
         have AL3:=hid al3
         rw [hhh] at f1
         rw [hhg] at f2
         clear hhh hhg hs1 hs2 hs3 st1 st2 al3
         cases hh
         · cases hg2
           · go_wp2_with fail
             go_meet
             case rel=>exact ⟨by rw [H8.out];rfl,Below.refl _ _⟩
           · go_wp2_with fail
             refine (ST2.out wb (Below.refl _ _)).mono ?_
             rintro e w1 ⟨rfl,hb1⟩
             have hz1:=hb1.size
             have f0q:=bc_ hb1 (by omega) f0
             have f1q:=bc_ hb1 (by omega) f1
             have f2q:=bc_ hb1 (by omega) f2
             have f3q:=bc_ hb1 (by omega) f3
             have f4q:=bc_ hb1 (by omega) f4
             have n0q:=bc_ hb1 (by omega) n0
             have n1q:=bc_ hb1 (by omega) n1
             have n2q:=bc_ hb1 (by omega) n2
             clear f0 f1 f2 f3 f4 n0 n1 n2
             cases s2
             all_goals
              apply_assumption
              go_wp2_with fail
              go_meet
              case rel=>exact ⟨by rw [H8.out];rfl,hb1⟩
         · cases hg2
           · go_wp2_with fail
             refine (ST1.out).mono ?_
             rintro e w1 ⟨rfl,hb1⟩
             have hz1:=hb1.size
             have f0q:=bc_ hb1 (by omega) f0
             have f1q:=bc_ hb1 (by omega) f1
             have f2q:=bc_ hb1 (by omega) f2
             have f3q:=bc_ hb1 (by omega) f3
             have f4q:=bc_ hb1 (by omega) f4
             have n0q:=bc_ hb1 (by omega) n0
             have n1q:=bc_ hb1 (by omega) n1
             have n2q:=bc_ hb1 (by omega) n2
             clear f0 f1 f2 f3 f4 n0 n1 n2
             cases s1
             all_goals
              apply_assumption
              go_wp2_with fail
              go_meet
              case rel=>exact ⟨by rw [H8.out];rfl,hb1⟩
           · go_wp2_with fail
             refine (ST1.out).mono ?_
             rintro e w1 ⟨rfl,hb1⟩
             have hz1:=hb1.size
             have f0q:=bc_ hb1 (by omega) f0
             have f1q:=bc_ hb1 (by omega) f1
             have f2q:=bc_ hb1 (by omega) f2
             have f3q:=bc_ hb1 (by omega) f3
             have f4q:=bc_ hb1 (by omega) f4
             have n0q:=bc_ hb1 (by omega) n0
             have n1q:=bc_ hb1 (by omega) n1
             have n2q:=bc_ hb1 (by omega) n2
             clear f0 f1 f2 f3 f4 n0 n1 n2
             cases s1
             · apply_assumption
               go_wp2_with fail
               go_meet
               case rel=>exact ⟨by rw [H8.out];rfl,hb1⟩
             · apply_assumption
               go_wp2_with fail
               refine (ST2.out w1 hb1).mono ?_
               rintro e w2 ⟨rfl,hb2⟩
               have hz2:=hb2.size
               have hb12:=hb1.trans (hb2.mono hz1)
               have f0r:=bc_ hb2 (by omega) f0q
               have f1r:=bc_ hb2 (by omega) f1q
               have f2r:=bc_ hb2 (by omega) f2q
               have f3r:=bc_ hb2 (by omega) f3q
               have f4r:=bc_ hb2 (by omega) f4q
               clear f0q f1q f2q f3q f4q n0q n1q n2q
               cases s2
               · apply_assumption
                 go_wp2_with fail
                 go_meet
                 case rel=>exact ⟨by rw [H8.out];rfl,hb12⟩
               · apply_assumption
                 go_wp2_with fail
                 refine (AL3.out w2 hb12).mono ?_
                 rintro e w3 ⟨rfl,hb3⟩
                 cases s3
                 all_goals
                  apply_assumption
                  go_wp2_with fail
                  go_meet
                  case rel=>exact ⟨by rw [H8.out];rfl,hb12.trans (hb3.mono (by omega))⟩
        case rest=>
         obtain ⟨hq8,hbx⟩:=hcut
         obtain ⟨q8,hq8'⟩:∃ q,b8C x kl = q:=⟨_,rfl⟩
         rw [hq8'] at hq8
         subst hq8
         have HQ8:=hid hq8'
         clear hq8'
         obtain ⟨w8,hw8⟩:∃ w8,w8 = wc:=⟨_,rfl⟩
         subst hw8
         have hz8:=hbx.size
         have BB8:=hid (BB.out.trans (hbx.mono (by omega)))
         have B08:=hid (BA.out.trans (BB8.out.mono (by omega)))
         have BACK:=hid (BA0.out.trans (BB8.out.mono (by have:=BA0.out.size;omega)))
         have hbx2:=hid hbx
         clear hbx
         cases q8
         rotate_left
         · have he:=BASE8.out 8 (by rw [if_pos (by rw [HLA.out,rt_parts,HQ8.out];simp)]) (by omega)
           have HEE:=hid he
           clear he
           go_wp2_with fail
           go_ret
           exact ⟨by rw [HEE.out];rfl,BACK.out⟩
         have HRT:=hid (show rtC x (lstK x.p) = true by rw [HLA.out,rt_parts,HB6.out,HQ7.out,HQ8.out];rfl)
         rcases PREV.out with ⟨hk0,hpq⟩ | ⟨q,aq,cq,hk0,hpq,hcq,hpp,hql⟩
         · have hki:¬ (0:Int) < (k:Int):=by omega
           have hz:ckC l = ckL (prevP l (k + 1)) (l.drop (k + 1)):=by
            rw [ONE.out,OK0.out HRT.out (by rw [hpq];rfl)];simp
           have HZ:=hid hz
           clear hz hpq
           go_upto_region 33 with fail
           refine (wpIn_wide (n:=9)).1 ?_
           refine region_held (fun w':World=>True) (by kernel_rfl) ?_
           have hS1:True:=trivial
           refine tkY 0 174 (.int .i64 k) rfl rfl hS1 (fun w' hs=>?_) ?_
           · go_simp
           refine tkY 1 175 (.bool false) rfl rfl hS1 (fun w' hs=>?_) ?_
           · go_simp
           refine tkY 2 176 (.bool false) rfl rfl hS1 (fun w' hs=>?_) ?_
           · go_simp
           refine tkN 3 177 rfl rfl hS1 ?_
           refine tkN 4 178 rfl rfl hS1 ?_
           refine tkN 5 179 rfl rfl hS1 ?_
           refine tkN 6 180 rfl rfl hS1 ?_
           refine tkN 7 181 rfl rfl hS1 ?_
           refine tkN 8 182 rfl rfl hS1 ?_
           refine tkN 9 183 rfl rfl hS1 ?_
           refine tkN 10 184 rfl rfl hS1 ?_
           refine tkN 11 185 rfl rfl hS1 ?_
           refine tkN 12 186 rfl rfl hS1 ?_
           refine tkY 13 187 (.bool false) rfl rfl hS1 (fun w' hs=>?_) ?_
           · go_simp
           refine AnyH_done (by kernel_rfl) ?_
           go_simp
           clear hS1
           go_wp2_with fail
           go_roundw
           case rel=>exact ⟨k + 1,by omega,by go_num,HZ,hid (HB.out.trans (B08.out.drew.mono hzr))⟩
           case measure=>simp [intOf];omega
         · obtain ⟨k',hkk⟩:∃ k',k = k' + 1:=⟨k - 1,by omega⟩
           have hsub:(k:Int) - 1 = (k':Int):=by omega
           have hki:(0:Int) < (k:Int):=by omega
           have hk'l:(k':Int) < (l.length:Int):=by omega
           have hk'0:(0:Int) ≤ (k':Int):=by omega
           rw [show k - 1 = k' by omega] at hcq
           have hgl:=HSW.out g hg
           have hS0:w8.drew.cell? ⟨g,o + k' * 5,none⟩ = some (.slice aq q.length cq)∧w8.drew.cell? ⟨w0.heap.size,0,none⟩ = some (.slice (some ⟨gp,op,none⟩) x.p.length cp):=⟨bc_ B08.out.drew hgl hcq,bc_ hbx2.out.drew (by omega) HF.out.1⟩
           have HS0:=hid hS0
           have CALL:=hid (Ahead_any q x.p aq (some ⟨gp,op,none⟩) cq cp (fun b=>b < w8.heap.size) w8.drew ((hpp.agree (Ag_b B08.out HSW.out)).wide (fun b hb=>by have:=HSW.out b hb;have:=B08.out.size;omega)) ((PX.out.agree (Ag_b B08.out HSW.out)).wide (fun b hb=>by have:=HSW.out b hb;have:=B08.out.size;omega)) (fun b hb=>by simpa using hb) (by omega) (by omega))
           have hq9:behB pq x.p = decide (0 ≤ cmpP q x.p):=by rw [hpq];rfl
           obtain ⟨zz,hzz⟩:∃ zz,cmpP q x.p = zz:=⟨_,rfl⟩
           rw [hzz] at CALL hq9
           have HQZ:=hid hq9
           clear hS0 hpq hcq hpp hzz hkk hq9
           go_upto_region 33 with fail
           refine (wpIn_wide (n:=9)).1 ?_
           refine region_held (fun w':World=>w'.cell? ⟨g,o + k' * 5,none⟩ = some (.slice aq q.length cq)∧w'.cell? ⟨w0.heap.size,0,none⟩ = some (.slice (some ⟨gp,op,none⟩) x.p.length cp)) (by kernel_rfl) ?_
           have hS1:=HS0.out
           refine tkY 0 174 (.int .i64 k) rfl rfl hS1 (fun w' hs=>?_) ?_
           · go_simp
           refine tkY 1 175 (.bool true) rfl rfl hS1 (fun w' hs=>?_) ?_
           · go_simp
           refine tkY 2 176 (.bool true) rfl rfl hS1 (fun w' hs=>?_) ?_
           · go_simp
           refine tkY 3 177 (.slice (some ⟨g,o,none⟩) l.length cl) rfl rfl hS1 (fun w' hs=>?_) ?_
           · go_simp
           refine tkY 4 178 (.int .i64 k) rfl rfl hS1 (fun w' hs=>?_) ?_
           · go_simp
           refine tkY 5 179 (.int .i64 k') rfl rfl hS1 (fun w' hs=>?_) ?_
           · go_simp
             exact IntWalk.i64_in _ (by omega)
           refine tkY 6 180 (.pointer (some ⟨g,o + k' * 5,none⟩)) rfl rfl hS1 (fun w' hs=>?_) ?_
           · go_simp
           refine tkY 7 181 (.pointer (some ⟨g,o + k' * 5,none⟩)) rfl rfl hS1 (fun w' hs=>?_) ?_
           · go_simp
           refine tkY 8 182 (.slice aq q.length cq) rfl rfl hS1 (fun w' hs=>?_) ?_
           · obtain ⟨y0,y1⟩:=hs
             go_simp
           refine tkY 9 183 (.pointer (some ⟨w0.heap.size,0,none⟩)) rfl rfl hS1 (fun w' hs=>?_) ?_
           · go_simp
           refine tkY 10 184 (.slice (some ⟨gp,op,none⟩) x.p.length cp) rfl rfl hS1 (fun w' hs=>?_) ?_
           · obtain ⟨y0,y1⟩:=hs
             go_simp
           refine AnyH_one (i:=11) (by kernel_rfl) rfl (by kernel_rfl) (fun K hK=>?_)
           go_simp
           refine ⟨trivial,(callsIn_wide.2 CALL.out).mono ?_⟩
           rintro e w9 ⟨he9,hb9⟩
           subst he9
           have hS7:w9.cell? ⟨g,o + k' * 5,none⟩ = some (.slice aq q.length cq)∧w9.cell? ⟨w0.heap.size,0,none⟩ = some (.slice (some ⟨gp,op,none⟩) x.p.length cp):=⟨bc_ hb9 (by have:=B08.out.size;simp;omega) HS0.out.1,bc_ hb9 (by simp;omega) HS0.out.2⟩
           refine hK _ _ ⟨hS7,?_⟩
           clear hK
           have B9:=hid (BACK.out.drew.trans (hb9.mono (by have:=BACK.out.size;simp;omega)))
           by_cases hz0:0 ≤ zz
           · have hzd:¬ zz < 0:=by omega
             refine tkY 12 186 (.bool true) rfl rfl hS7 (fun w' hs=>?_) ?_
             · go_simp
             refine tkY 13 187 (.bool true) rfl rfl hS7 (fun w' hs=>?_) ?_
             · go_simp
             refine AnyH_done (by kernel_rfl) ?_
             go_simp
             clear hS1 hS7 hb9
             have hval:=BASE8.out 4 (by rw [HRT.out,HQZ.out,decide_eq_true hz0];rfl) (by omega)
             have HV:=hid hval
             clear hval
             go_wp2_with fail
             go_ret
             exact ⟨by rw [HV.out];rfl,B9.out⟩
           · have hzd:zz < 0:=by omega
             refine tkY 12 186 (.bool false) rfl rfl hS7 (fun w' hs=>?_) ?_
             · go_simp
             refine tkY 13 187 (.bool false) rfl rfl hS7 (fun w' hs=>?_) ?_
             · go_simp
             refine AnyH_done (by kernel_rfl) ?_
             go_simp
             clear hS1 hS7 hb9
             have hz:ckC l = ckL (prevP l (k + 1)) (l.drop (k + 1)):=by rw [ONE.out,OK0.out HRT.out (by rw [HQZ.out];exact decide_eq_false (by omega))];simp
             have HZ:=hid hz
             clear hz
             go_wp2_with fail
             go_roundw
             case rel=>exact ⟨k + 1,by omega,by go_num,HZ,B9⟩
             case measure=>simp [intOf];omega
  · obtain rfl:k = l.length:=by omega
    have hlt':¬ (l.length:Int) < (l.length:Int):=by omega
    have hd:=HK.out
    rw [List.drop_length] at hd
    have HDD:=hid hd
    clear hd HK
    go_wp2_with fail
    go_ret
    exact ⟨by rw [HDD.out];rfl,HB.out⟩
end Go.Proofs.LF
