/- Parts of the proof of a law of layer 11 (file): LfW100. The conditions stand in each theorem. -/
import Derived.Test.YtadkpjgpefcphaaGreatDoorProg
import Derived.WalkMore
import Derived.Test.YtadkpjgpefcphaaGreatDoorChab
import Derived.Test.YtadkpjgpefcphaaGreatDoorChad
import Derived.Test.YtadkpjgpefcphaaGreatDoorChae
import Derived.Test.YtadkpjgpefcphaaGreatDoorChak
import Derived.Test.YtadkpjgpefcphaaGreatDoorChal
import Derived.Test.YtadkpjgpefcphaaGreatDoorChas
import Derived.Test.YtadkpjgpefcphaaGreatDoorChay
import Derived.Test.YtadkpjgpefcphaaGreatDoorChbb
import Derived.Test.YtadkpjgpefcphaaGreatDoorChbe
set_option linter.all false
set_option linter.unusedVariables false
set_option linter.unusedSimpArgs false
namespace Go.Proofs.LF
open Go.RowKit Go.Sort
set_option maxHeartbeats 4000000
set_option maxRecDepth 100000
attribute [local go_sem] bs_toList bs_size bs_get
theorem mk_bad {y:Fo} {l:List Ch} {S:Nat→Prop} {w w':World} {E:Int} (h:mkE y l = E) (h0:E ≠ 0) (hb:Below w.heap.size w w') :
 ∃ a c,Ending.returned (.tuple #[.slice none 0 0, .int .i64 E]) = .returned (.tuple #[.slice a (mkY y l).len c, .int .i64 (mkE y l)])∧FSlU S w' (.slice a (mkY y l).len c) (mkY y l)∧Below w.heap.size w w':=by
 subst h
 have h1:mkY y l = .nil:=by rw [mkY,if_neg h0]
 rw [h1]
 exact ⟨none,0,rfl,⟨[],⟨rfl,none,0,rfl,nl_ _,by simp [maxLen],fun _=>rfl, .inl rfl⟩,rfl⟩,hb⟩
theorem Make_u (y:Fo) (l:List Ch) (ay al:Option Addr) (cy cl:Nat) (S T:Nat→Prop) (w:World) (hy:FSl S w (.slice ay y.len cy) y) (hS:∀ b,S b→b < w.heap.size) (hv:ChSl T w (.slice al l.length cl) l) (hT:∀ b,T b→b < w.heap.size) (hlen:y.len ≤ 1000) (hsy:y.Sm) (hcnt:y.cnt ≤ 900) (hl:l.length ≤ 1000) (hsm:SmCh l) :
 Calls Tryz.prog 71 #[.slice ay y.len cy, .slice al l.length cl] w fun e w'=>∃ a c,e = .returned (.tuple #[.slice a (mkY y l).len c, .int .i64 (mkE y l)])∧FSlU (Rg w.heap.size w'.heap.size) w' (.slice a (mkY y l).len c) (mkY y l)∧Below w.heap.size w w':=by
 obtain ⟨i0,hi0,hz0,hz1,hz2⟩:=info_parts Tryz.info171''
 have HC:=hid (Check_any y ay cy S w hy hS hlen hsy hcnt)
 have HY:=hid hy
 have HV:=hid hv
 have HS:=hid hS
 have HT:=hid hT
 have HSY:=hid hsy
 have HSM:=hid hsm
 clear hy hv hS hT hsy hsm
 go_enter Tryz.func71,Tryz.ntmps71
 go_wp2_with fail
 go_step3
 go_wp2_with fail
 refine HC.out.mono ?_
 rintro e w1 ⟨rfl,hb1⟩
 have hz1':=hb1.size
 have CK:=hid (CheckChanges_any l al cl T w1 (HV.out.agree (Ag_b hb1 HT.out)) (fun b hb=>by have:=HT.out b hb;omega) hl HSM.out)
 have HB1:=hid hb1
 clear HC hb1
 by_cases hc:chkY y = 0
 rotate_left
 · have he:mkE y l = chkY y:=by rw [mkE,if_pos hc]
   obtain ⟨E,hE⟩:∃ E,chkY y = E:=⟨_,rfl⟩
   rw [hE] at he hc ⊢
   have he1:(E == 0) = false:=by simpa using hc
   have he2:(E != 0) = true:=by simpa using hc
   have HE:=hid he
   have HC0:=hid hc
   clear he hE hc
   go_wp2_with fail
   (try rw [Exit.noGoto_ret])
   refine bodyPost_ret (v := .tuple #[.slice none 0 0, .int .i64 E]) (by simp [results,Tryz.results71,go_sem]) rfl ?_
   exact mk_bad HE.out HC0.out HB1.out
 rw [hc]
 have HCK:=hid hc
 clear hc
 go_wp2_with fail
 refine CK.out.mono ?_
 rintro e w2 ⟨rfl,hb2⟩
 have hz2':=hb2.size
 have HB2:=hid (HB1.out.trans (hb2.mono hz1'))
 clear hb2 CK HB1
 by_cases hk:ckC l = 0
 rotate_left
 · have he:mkE y l = ckC l:=by rw [mkE,if_neg (by simpa using HCK.out),if_pos hk]
   obtain ⟨E,hE⟩:∃ E,ckC l = E:=⟨_,rfl⟩
   rw [hE] at he hk ⊢
   have he2:(E != 0) = true:=by simpa using hk
   have HE:=hid he
   have HC0:=hid hk
   clear he hE hk
   go_wp2_with fail
   (try rw [Exit.noGoto_ret])
   refine bodyPost_ret (v := .tuple #[.slice none 0 0, .int .i64 E]) (by simp [results,Tryz.results71,go_sem]) rfl ?_
   exact mk_bad HE.out HC0.out HB2.out
 rw [hk]
 have HKC:=hid hk
 have HFL:=hid (flats_any y ay cy S w2 (HY.out.agree (Ag_b HB2.out HS.out)) (fun b hb=>by have:=HS.out b hb;omega) hlen HSY.out hcnt)
 have hl120:=(ckC_zero hk).1
 clear hk
 go_wp2_with fail
 refine HFL.out.mono ?_
 rintro e w3 ⟨af,cf,rfl,hF,hb3⟩
 have hz3':=hb3.size
 have HB3:=hid (HB2.out.trans (hb3.mono (by omega)))
 have okf:=fls_ok HCK.out
 have SFS:=hid okf.1
 have hfl60:=okf.2.2
 obtain ⟨fs,hfs⟩:∃ fs,flsL [] y = fs:=⟨_,rfl⟩
 have hbd:=mk_bd HCK.out HKC.out HSM.out
 have hme:mkE y l = if (l.all (fitC fs)) = false then 7 else if 0 < (lsF [] [] (mkO y l)).2.length then 1 else if 60 < (mkO y l).length then 2 else 0:=by
  rw [mkE,if_neg (by simpa using HCK.out),if_neg (by simpa using HKC.out),hfs]
 have hpm:=fun ls'=>mk_perm (y:=y) (l:=l) (ls':=ls') HCK.out HKC.out
 rw [hfs] at hF hfl60 SFS hbd ⊢
 simp only [hfs] at hpm
 have HME:=hid hme
 have HBD:=hid hbd
 have HPM:=hid hpm
 have hV3:=HV.out.agree (Ag_b HB3.out HT.out)
 have hT3:∀ b,T b→b < w3.heap.size:=fun b hb=>by have:=HT.out b hb;omega
 obtain ⟨al',cl',ee,_,hclm,hatC⟩:=LSl.at hV3
 obtain ⟨rfl,rfl⟩:al = al'∧cl = cl':=by cases ee;exact ⟨rfl,rfl⟩
 obtain ⟨af',cf',ee,_,hcfm,hatF⟩:=LSl.at hF
 obtain ⟨rfl,rfl⟩:af = af'∧cf = cf':=by cases ee;exact ⟨rfl,rfl⟩
 have HATC:=hid hatC
 have HATF:=hid hatF
 have HV3:=hid hV3
 have HF3:=hid hF
 have HT3:=hid hT3
 obtain ⟨M,hM⟩:∃ M:Nat→Prop,M = fun b=>T b ∨ Rg w2.heap.size w3.heap.size b:=⟨_,rfl⟩
 have HM:=hid (show ∀ b,M b→b < w3.heap.size from fun b hb=>by rw [hM] at hb;rcases hb with h | h;exact hT3 b h;exact h.2)
 have HMT:=hid (show ∀ b,T b→M b from fun b hb=>by rw [hM];exact .inl hb)
 have HMF:=hid (show ∀ b,Rg w2.heap.size w3.heap.size b→M b from fun b hb=>by rw [hM];exact .inr hb)
 unfold maxLen at hclm hcfm
 clear hb3 HFL okf hbd hme hpm hfs hV3 hT3 hF hatC hatF ee hM HV HT HY HS HSY HB2
 go_wp2_with fail
 go_step3
 go_upto_block 0 with fail
 go_cut [8] from 9 (fun v wx=>v = .bool (l.all (fitC fs))∧Hid (Below w3.heap.size w3 wx))
 case first=>
  as_aux_lemma=>
  go_wp2_with fail
  go_loopw [8,33] (fun v i wr=>∃ k:Nat,k ≤ l.length∧v = .bool true∧i = .int .i64 k∧Hid ((l.take k).all (fitC fs) = true)∧Hid (Below w3.heap.size w3 wr)) (fun _ i _=>l.length - (intOf i).toNat)
  case atStart=>exact ⟨0,by omega,rfl,rfl,by simp [Hid],Below.refl _ _⟩
  case round=>
   obtain ⟨k,hk,rfl,rfl,hall,HB⟩:=hrel
   have hzr:=HB.out.size
   by_cases hlt:k < l.length
   · have hlt':(k:Int) < (l.length:Int):=by omega
     obtain ⟨g,o,cs1,rfl,hg,⟨ap,cp,ao,co,an,cn,rfl,hP,hO,hN⟩,hcl⟩:=HATC.out k hlt
     have hag:=Ag_b (S:=T) HB.out HT3.out
     have c0:=hag.cell hg (hcl 0 _ rfl)
     have c1:=hag.cell hg (hcl 1 _ rfl)
     have c2:=hag.cell hg (hcl 2 _ rfl)
     have c3:=hag.cell hg (hcl 3 _ rfl)
     have c4:=hag.cell hg (hcl 4 _ rfl)
     rw [Nat.add_zero] at c0
     simp only [← Nat.add_assoc] at c1 c2 c3 c4
     have hsm:=HSM.out l[k] (List.getElem_mem hlt)
     have htk:l.take (k + 1) = l.take k ++ [l[k]]:=List.take_succ_eq_append_getElem hlt
     have hmem:=List.getElem_mem hlt
     obtain ⟨x,hx⟩:∃ x,l[k] = x:=⟨_,rfl⟩
     rw [hx] at hP hO hN c0 c1 c2 c3 c4 hsm htk hmem
     obtain ⟨W4,hW4⟩:∃ W4,wr.alloc (.cells #[.slice ap x.p.length cp, .bool x.had, .bool x.has, .slice ao x.old.length co, .slice an x.new.length cn] 68) = W4:=⟨_,rfl⟩
     have hz4:W4.heap.size = wr.heap.size + 1:=by rw [← hW4];simp
     have hb4:Below wr.heap.size wr W4:=by rw [← hW4];exact (Below.refl _ _).alloc (nl_ _) _
     have hnb:W4.heap[wr.heap.size]? = some (.cells #[.slice ap x.p.length cp, .bool x.had, .bool x.has, .slice ao x.old.length co, .slice an x.new.length cn] 68 (0,0)):=by rw [← hW4];exact heap_alloc_new _ _
     have d0:=cg_ hnb (k:=0) rfl
     have hB4:=HB.out.trans (hb4.mono hzr)
     have FI:=hid (find_any fs x.p af ap cf cp _ T W4 (LSl.agree HF3.out (Ag_b hB4 fun b hb=>hb.2)) (fun b hb=>by have:=hb.2;omega) (hP.agree (Ag_b hB4 HT3.out)) (fun b hb=>by have:=HT3.out b hb;omega) (by omega) SFS.out hsm.1)
     have hfn:=fnd_len (p:=x.p) SFS.out
     have hfit:fitC fs x = (((fnd fs x.p).isSome == x.had) && decide (((fnd fs x.p).getD fl0).l = x.old)):=rfl
     have HO:=hid hO
     have HFIT:=hid hfit
     have HTK:=hid htk
     have HW4:=hid hW4
     have HB4:=hid hB4
     have HNB:=hid hnb
     have hold:=hsm.2.2.1
     have HMEM:=hid hmem
     clear hcl hP hO hN hx hag hnb hb4 hW4 htk hsm hB4 hfit hmem
     go_wp2_with (rw [HW4.out])
     clear c0 c1 c2 c3 c4 d0
     refine FI.out.mono ?_
     rintro e w5 ⟨ap5,cp5,an5,cn5,rfl,_,hi5,hb5⟩
     obtain ⟨z,hz⟩:∃ z,(fnd fs x.p).getD fl0 = z:=⟨_,rfl⟩
     obtain ⟨q,hq⟩:∃ q,(fnd fs x.p).isSome = q:=⟨_,rfl⟩
     have hfit:=HFIT.out
     rw [hz] at hi5 hfn hfit ⊢
     rw [hq] at hfit ⊢
     have hz5:=hb5.size
     have hb5':=HB4.out.trans (hb5.mono (by omega))
     obtain ⟨W6,hW6⟩:∃ W6,w5.alloc (.cells #[.slice ap5 z.p.length cp5, .slice an5 z.l.length cn5] 171) = W6:=⟨_,rfl⟩
     have hz6:W6.heap.size = w5.heap.size + 1:=by rw [← hW6];simp
     have hb6:Below w5.heap.size w5 W6:=by rw [← hW6];exact (Below.refl _ _).alloc (nl_ _) _
     have hnb6:W6.heap[w5.heap.size]? = some (.cells #[.slice ap5 z.p.length cp5, .slice an5 z.l.length cn5] 171 (0,0)):=by rw [← hW6];exact heap_alloc_new _ _
     have hnbc:W6.heap[wr.heap.size]? = some (.cells #[.slice ap x.p.length cp, .bool x.had, .bool x.has, .slice ao x.old.length co, .slice an x.new.length cn] 68 (0,0)):=(hb6.block _ (by omega)).trans ((hb5.block _ (by omega)).trans HNB.out)
     have q1:=cg_ hnb6 (k:=1) rfl
     have p1:=cg_ hnbc (k:=1) rfl
     have p3:=cg_ hnbc (k:=3) rfl
     have hB6:=hb5'.trans (hb6.mono (by omega))
     have EQ:=hid (eqInts_any z.l x.old an5 ao cn5 co (fun b=>T b ∨ Rg w2.heap.size w3.heap.size b) W6 ((hi5.agree (Ag_b hb6 (fun b hb=>by have:=hb.2;omega))).wide fun b hb => .inr hb) ((HO.out.agree (Ag_b hB6 HT3.out)).wide fun b hb => .inl hb) (by omega) (by omega))
     have HW6:=hid hW6
     have HB6:=hid hB6
     have HFI2:=hid hfit
     clear hz hq hi5 hb5 hb5' hnb6 hnbc hb6 hB6 hW6 hfit HFIT FI HNB HO HW4
     have hl37:wr.heap.size < W6.heap.size:=by omega
     have hl57:w5.heap.size < W6.heap.size:=by omega
     have hne:wr.heap.size ≠ w5.heap.size:=by omega
     by_cases hh:q = x.had
     · have hh1:(q == x.had) = true:=by simp [hh]
       have hfi:=HFI2.out
       rw [hh1,Bool.true_and] at hfi
       obtain ⟨r,hr⟩:∃ r,decide (z.l = x.old) = r:=⟨_,rfl⟩
       rw [hr] at hfi
       have HFI3:=hid hfi
       obtain ⟨b0,hb0⟩:∃ b0,x.had = b0:=⟨_,rfl⟩
       subst hh
       clear hfi hh1
       cases hqq:x.had
       all_goals
        rw [hqq] at p1
        go_wp2_with (rw [HW6.out])
        refine EQ.out.mono ?_
        rintro e w7 ⟨rfl,hb7⟩
        rw [hr]
        have hB7:=HB6.out.trans (hb7.mono (by omega))
        have HB7:=hid hB7
        clear hb7 hB7 hr
        cases r
        · go_wp2_with fail
          go_meet
          case rel=>
           refine ⟨?_,HB7.out⟩
           congr 1
           symm
           rw [List.all_eq_false]
           exact ⟨x,HMEM.out,by rw [HFI3.out];simp⟩
        · go_wp2_with fail
          go_roundw
          case rel=>exact ⟨k + 1,by omega,rfl,by go_num,by rw [Hid,HTK.out,List.all_append,hall.out];simp [HFI3.out],HB7.out⟩
          case measure=>simp [intOf];omega
     · have hfi:=HFI2.out
       rw [show (q == x.had) = false by simpa using hh,Bool.false_and] at hfi
       have HFI3:=hid hfi
       clear hfi
       have hB7:=HB6.out
       have fin:Value.bool false = Value.bool (l.all (fitC fs)):=by
        congr 1
        symm
        rw [List.all_eq_false]
        exact ⟨x,HMEM.out,by rw [HFI3.out];simp⟩
       have FIN:=hid fin
       clear fin hB7
       cases hqq:x.had
       all_goals
        rw [hqq] at p1 hh
        cases q
        all_goals
         first
          | exact absurd rfl hh
          | (go_wp2_with (rw [HW6.out])
             go_meet
             case rel=>exact ⟨FIN.out,HB6.out⟩)
   · obtain rfl:k = l.length:=by omega
     have hlt':¬ (l.length:Int) < (l.length:Int):=by omega
     go_wp2_with fail
     go_meet
     case rel=>
      have:=hall.out
      rw [List.take_length] at this
      exact ⟨by rw [this],HB.out⟩
 case rest=>
  obtain ⟨hfv,HBc⟩:=hcut
  have hzc:=HBc.out.size
  obtain ⟨fit,hfit⟩:∃ fit,l.all (fitC fs) = fit:=⟨_,rfl⟩
  have hme:=HME.out
  rw [hfit] at hme hfv
  subst hfv
  have HME2:=hid hme
  clear hme hfit HME
  obtain ⟨w4,hw4⟩:∃ w4,w4 = wc:=⟨_,rfl⟩
  subst hw4
  cases fit
  · go_wp2_with fail
    (try rw [Exit.noGoto_ret])
    refine bodyPost_ret (v := .tuple #[.slice none 0 0, .int .i64 7]) (by simp [results,Tryz.results71,go_sem]) rfl ?_
    exact mk_bad (by rw [HME2.out];simp) (by omega) (HB3.out.trans (HBc.out.mono (by omega)))
  have hme:=HME2.out
  rw [if_neg (by simp)] at hme
  have HME:=hid hme
  clear hme HME2
  go_wp2_with fail
  go_loopw [13,61] (fun v i wr=>∃ k:Nat,k ≤ fs.length∧i = .int .i64 k∧Hid (RowS rdFl 171 M w3.heap.size wr v (keptF (fs.take k) l))∧Hid (Below w3.heap.size w3 wr)) (fun _ i _=>fs.length - (intOf i).toNat)
  case atStart=>exact ⟨0,by omega,rfl,RowS.nil _,HBc⟩
  case round=>
   obtain ⟨k,hk,rfl,HR,HB⟩:=hrel
   have hzr:=HB.out.size
   by_cases hlt:k < fs.length
   · as_aux_lemma=>
     have hlt':(k:Int) < (fs.length:Int):=by omega
     obtain ⟨g,o,cs1,rfl,hg,⟨ap,cp,an,cn,rfl,hP,hN⟩,hcl⟩:=HATF.out k hlt
     have hag:=Ag_b (S:=Rg w2.heap.size w3.heap.size) HB.out (fun b hb=>hb.2)
     have c0:=hag.cell hg (hcl 0 _ rfl)
     have c1:=hag.cell hg (hcl 1 _ rfl)
     rw [Nat.add_zero] at c0
     simp only [← Nat.add_assoc] at c1
     have htk:fs.take (k + 1) = fs.take k ++ [fs[k]]:=List.take_succ_eq_append_getElem hlt
     have hsx:=SFS.out fs[k] (List.getElem_mem hlt)
     obtain ⟨x,hx⟩:∃ x,fs[k] = x:=⟨_,rfl⟩
     rw [hx] at hP hN c0 c1 htk hsx
     have hkp:keptF (fs.take (k + 1)) l = keptF (fs.take k) l ++ if (l.any fun c=>decide (cmpP c.p x.p = 0)) then [] else [x]:=by
      rw [htk,keptF,keptF,List.filter_append,List.filter_cons]
      cases (l.any fun c=>decide (cmpP c.p x.p = 0)) <;> simp
     obtain ⟨K,hK⟩:∃ K,keptF (fs.take k) l = K:=⟨_,rfl⟩
     have hKl:K.length ≤ 60:=by rw [← hK];exact Nat.le_trans (List.length_filter_le _ _) (by rw [List.length_take];omega)
     rw [hK] at hkp HR
     obtain ⟨W4,hW4⟩:∃ W4,wr.alloc (.cells #[.slice ap x.p.length cp, .slice an x.l.length cn] 171) = W4:=⟨_,rfl⟩
     have hz4:W4.heap.size = wr.heap.size + 1:=by rw [← hW4];simp
     have hb4:Below wr.heap.size wr W4:=by rw [← hW4];exact (Below.refl _ _).alloc (nl_ _) _
     have hnb:W4.heap[wr.heap.size]? = some (.cells #[.slice ap x.p.length cp, .slice an x.l.length cn] 171 (0,0)):=by rw [← hW4];exact heap_alloc_new _ _
     have d0:=cg_ hnb (k:=0) rfl
     have hB4:=HB.out.trans (hb4.mono hzr)
     have CO:=hid (contC_any l x.p al ap cl cp wr.heap.size T (Rg w2.heap.size w3.heap.size) W4 (LSl.agree HV3.out (Ag_b hB4 HT3.out)) (fun b hb=>by have:=HT3.out b hb;omega) (hP.agree (Ag_b hB4 fun b hb=>hb.2)) (fun b hb=>by have:=hb.2;omega) (by omega) d0 hl (fun c hc=>(HSM.out c hc).1) hsx.1)
     have HKP:=hid hkp
     have HP:=hid hP
     have HN:=hid hN
     have HNB:=hid hnb
     have HB4:=hid hB4
     have HW4:=hid hW4
     have HB41:=hid hb4
     clear hcl hx htk hsx hkp hK hb4 hnb hB4 hW4 hag hP hN
     go_wp2_with (rw [HW4.out])
     refine CO.out.mono ?_
     rintro e w5 ⟨rfl,hb5⟩
     have hz5:=hb5.size
     obtain ⟨an2,han⟩:∃ an2,(l.any fun c=>decide (cmpP c.p x.p = 0)) = an2:=⟨_,rfl⟩
     have hkp:=HKP.out
     rw [han] at hkp ⊢
     have HKP2:=hid hkp
     have HB5:=hid (HB4.out.trans (hb5.mono (by omega)))
     have HB51:=hid (HB41.out.trans (hb5.mono (by omega)))
     have hnb5:=(hb5.block _ (by omega)).trans HNB.out
     have e0:=cg_ hnb5 (k:=0) rfl
     have e1:=cg_ hnb5 (k:=1) rfl
     have HR5:=hid (HR.out.below (fun b hb=>by have:=HM.out b hb;omega) HB51.out)
     clear c0 c1 d0 han hkp hb5 hnb5 HKP HNB CO
     have hw5:wr.heap.size < w5.heap.size:=by omega
     cases an2
     · have hkp:=HKP2.out
       rw [if_neg (by simp)] at hkp
       have HKP:=hid hkp
       clear hkp HKP2
       go_wp2_with (at_builtin;(refine (wpList_push (r:=rdFl) (e:=171) (S:=M) (lo:=w3.heap.size) rfl _ _ _ rfl i0 _ 48 Tryz.underlying167 hi0 hz0 hz1 hz2 rfl (by omega) rfl (HR5.out.below (fun b hb=>by have:=HM.out b hb;omega) ((Below.refl _ _).alloc (nl_ _) _)) HM.out ?_ x [.slice ap x.p.length cp, .slice an x.l.length cn] w5.heap.size rfl ?_ ⟨ap,cp,an,cn,rfl,(HP.out.agree (Ag_b (HB5.out.alloc (by omega) _) fun b hb=>hb.2)).wide HMF.out,(HN.out.agree (Ag_b (HB5.out.alloc (by omega) _) fun b hb=>hb.2)).wide HMF.out⟩ ?_ ?_ ?_);(first | omega | (simp;omega));exact heap_alloc_new _ _;(unfold maxLen;omega);omega;intro V1 W1 HR1 HG1 HT1 HL1))
       go_roundw
       case rel=>exact ⟨k + 1,by omega,by go_num,by rw [HKP.out];exact HR1,HL1 w3 (HB5.out.alloc (by omega) _)⟩
       case measure=>simp [intOf];omega
     · have hkp:=HKP2.out
       rw [if_pos rfl,List.append_nil] at hkp
       have HKP:=hid hkp
       clear hkp HKP2
       go_wp2_with fail
       go_roundw
       case rel=>exact ⟨k + 1,by omega,by go_num,by rw [HKP.out];exact HR5,HB5⟩
       case measure=>simp [intOf];omega
   · obtain rfl:k = fs.length:=by omega
     have hlt':¬ (fs.length:Int) < (fs.length:Int):=by omega
     rw [List.take_length] at HR
     clear hlt hk
     obtain ⟨w6,hw6⟩:∃ w6,w6 = wr:=⟨_,rfl⟩
     subst hw6
     obtain ⟨KF,hKF⟩:∃ KF,keptF fs l = KF:=⟨_,rfl⟩
     rw [hKF] at HR
     have hbd:=HBD.out
     have hpm:=HPM.out
     rw [hKF] at hbd
     simp only [hKF] at hpm
     have HBD:=hid hbd
     have HPM:=hid hpm
     have hkl:=hbd.1
     clear hbd hpm hKF
     have HB6:=hid HB.out
     have HR6:=hid HR.out
     clear HB HR
     have hzr6:=HB6.out.size
     go_wp2_with fail
     go_loopw [13,76] (fun v i wr=>∃ k:Nat,k ≤ l.length∧i = .int .i64 k∧Hid (RowS rdFl 171 M w3.heap.size wr v (KF ++ newsF (l.take k)))∧Hid (Below w3.heap.size w3 wr)) (fun _ i _=>l.length - (intOf i).toNat)
     case atStart=>exact ⟨0,by omega,rfl,by simpa [newsF,Hid] using HR6.out,HB6⟩
     case round=>
      obtain ⟨k,hk,rfl,HR,HB⟩:=hrel
      have hzr:=HB.out.size
      by_cases hlt:k < l.length
      · as_aux_lemma=>
        have hlt':(k:Int) < (l.length:Int):=by omega
        obtain ⟨g,o,cs1,rfl,hg,⟨ap,cp,ao,co,an,cn,rfl,hP,hO,hN⟩,hcl⟩:=HATC.out k hlt
        have hag:=Ag_b (S:=T) HB.out HT3.out
        have c0:=hag.cell hg (hcl 0 _ rfl)
        have c1:=hag.cell hg (hcl 1 _ rfl)
        have c2:=hag.cell hg (hcl 2 _ rfl)
        have c3:=hag.cell hg (hcl 3 _ rfl)
        have c4:=hag.cell hg (hcl 4 _ rfl)
        rw [Nat.add_zero] at c0
        simp only [← Nat.add_assoc] at c1 c2 c3 c4
        have htk:l.take (k + 1) = l.take k ++ [l[k]]:=List.take_succ_eq_append_getElem hlt
        obtain ⟨x,hx⟩:∃ x,l[k] = x:=⟨_,rfl⟩
        rw [hx] at hP hO hN c0 c1 c2 c3 c4 htk
        have hns:newsF (l.take (k + 1)) = newsF (l.take k) ++ if x.has then [⟨x.p,x.new⟩] else []:=by
         rw [htk,newsF,newsF,List.filterMap_append]
         cases hq:x.has <;> simp [newC,hq]
        obtain ⟨bh,hbh⟩:∃ bh,x.has = bh:=⟨_,rfl⟩
        rw [hbh] at c2 hns
        obtain ⟨N,hN'⟩:∃ N,newsF (l.take k) = N:=⟨_,rfl⟩
        have hNl:N.length ≤ 120:=by rw [← hN'];exact Nat.le_trans (List.length_filterMap_le _ _) (by rw [List.length_take];omega)
        rw [hN'] at hns HR
        obtain ⟨W4,hW4⟩:∃ W4,wr.alloc (.cells #[.slice ap x.p.length cp, .bool x.had, .bool bh, .slice ao x.old.length co, .slice an x.new.length cn] 68) = W4:=⟨_,rfl⟩
        have hz4:W4.heap.size = wr.heap.size + 1:=by rw [← hW4];simp
        have hb4:Below wr.heap.size wr W4:=by rw [← hW4];exact (Below.refl _ _).alloc (nl_ _) _
        have hnb:W4.heap[wr.heap.size]? = some (.cells #[.slice ap x.p.length cp, .bool x.had, .bool bh, .slice ao x.old.length co, .slice an x.new.length cn] 68 (0,0)):=by rw [← hW4];exact heap_alloc_new _ _
        have d0:=cg_ hnb (k:=0) rfl
        have d2:=cg_ hnb (k:=2) rfl
        have d4:=cg_ hnb (k:=4) rfl
        have hB4:=HB.out.trans (hb4.mono hzr)
        have HR4:=hid (HR.out.below (fun b hb=>by have:=HM.out b hb;omega) hb4)
        have HNS:=hid hns
        have HP:=hid hP
        have HN:=hid hN
        have HB4:=hid hB4
        have HW4:=hid hW4
        have hlen:(KF ++ N).length ≤ 180:=by rw [List.length_append];omega
        obtain ⟨KN,hKN⟩:∃ KN,KF ++ N = KN:=⟨_,rfl⟩
        rw [hKN] at hlen HR4
        have HKN:=hid hKN
        clear hcl hx hbh htk hns hb4 hnb hB4 hW4 hag hP hO hN hN' HR hKN
        have hw4:wr.heap.size < W4.heap.size:=by omega
        clear hz4
        cases bh
        · have hns:=HNS.out
          rw [if_neg (by simp),List.append_nil] at hns
          have HNS2:=hid hns
          clear hns HNS
          go_wp2_with (rw [HW4.out])
          go_roundw
          case rel=>exact ⟨k + 1,by omega,by go_num,by rw [HNS2.out,HKN.out];exact HR4,HB4⟩
          case measure=>simp [intOf];omega
        · have hns:=HNS.out
          rw [if_pos rfl] at hns
          have HNS2:=hid hns
          clear hns HNS
          go_wp2_with (first | rw [HW4.out] | (at_builtin;(refine (wpList_push (r:=rdFl) (e:=171) (S:=M) (lo:=w3.heap.size) rfl _ _ _ rfl i0 _ 48 Tryz.underlying167 hi0 hz0 hz1 hz2 rfl (by omega) rfl (HR4.out.below (fun b hb=>by have:=HM.out b hb;omega) ((Below.refl _ _).alloc (nl_ _) _)) HM.out ?_ ⟨x.p,x.new⟩ [.slice ap x.p.length cp, .slice an x.new.length cn] W4.heap.size rfl ?_ ⟨ap,cp,an,cn,rfl,(HP.out.agree (Ag_b (HB4.out.alloc (by omega) _) HT3.out)).wide HMT.out,(HN.out.agree (Ag_b (HB4.out.alloc (by omega) _) HT3.out)).wide HMT.out⟩ ?_ ?_ ?_);(first | omega | (simp;omega));exact heap_alloc_new _ _;(unfold maxLen;omega);omega;intro V1 W1 HR1 HG1 HT1 HL1)))
          go_roundw
          case rel=>exact ⟨k + 1,by omega,by go_num,by rw [HNS2.out,← List.append_assoc,HKN.out];exact HR1,HL1 w3 (HB4.out.alloc (by omega) _)⟩
          case measure=>simp [intOf];omega
      · as_aux_lemma=>
        obtain rfl:k = l.length:=by omega
        have hlt':¬ (l.length:Int) < (l.length:Int):=by omega
        rw [List.take_length] at HR
        clear hlt hk
        obtain ⟨w7,hw7⟩:∃ w7,w7 = wr:=⟨_,rfl⟩
        subst hw7
        obtain ⟨NF,hNF⟩:∃ NF,newsF l = NF:=⟨_,rfl⟩
        have hbd:=HBD.out
        have hpm:=HPM.out
        rw [hNF] at hbd HR
        simp only [hNF] at hpm
        obtain ⟨hb1,hb2,hb3,hb4⟩:=hbd
        have hlen:(KF ++ NF).length ≤ 180:=by rw [List.length_append];omega
        obtain ⟨L0,hL0⟩:∃ L0,KF ++ NF = L0:=⟨_,rfl⟩
        rw [hL0] at hlen hb3 hb4 HR
        simp only [hL0] at hpm
        obtain ⟨aO,cO,rfl,hcO,hcOm⟩:=HR.out.shape
        obtain ⟨cs0,hown,hlc⟩:=HR.out.row
        have SO:=hid (sortF_any L0 _ w3.heap.size cs0 M w7 hown hlc (fun b hb=>⟨by have:=HM.out b hb;omega,fun e=>by have:=(hown.lt b e).1;have:=HM.out b hb;omega⟩) (fun f hf=>(hb3 f hf).1) (by omega))
        have HPM:=hid hpm
        have HSF:=hid hb3
        have HNE:=hid hb4
        have HLT:=hid (fun b hb=>hown.lt b hb)
        have HB7:=hid HB.out
        clear hpm hb3 hb4 hNF hL0 hown hlc HR HB
        go_wp2_with fail
        refine SO.out.mono ?_
        rintro e w8 ⟨rfl,L1,cs1,hp1,hs1,how1,hlc1,hgr⟩
        have hLL:=HPM.out L1 hp1 hs1
        have hl1:L1.length = L0.length:=hp1.length_eq
        have hz8:=hgr.size
        have hSF1:SmF L1:=fun x hx=>HSF.out x (hp1.mem_iff.1 hx)
        have hNE1:∀ x ∈ L1,x.p ≠ []:=fun x hx=>HNE.out x (hp1.mem_iff.1 hx)
        have hB8:Below w3.heap.size w3 w8:=HB7.out.grown hgr (by have:=HB7.out.size;omega) (fun b hb=>(HLT.out b hb).1)
        rw [← hl1] at how1 hcO ⊢
        have hFL:FlSl (fun b=>M b ∨ Rg w3.heap.size w8.heap.size b) w8 (.slice aO L1.length cO) L1:=⟨cs1,(SlC.of_owns how1).wide fun b hb => .inr hb,hlc1.wide fun b hb => .inl hb⟩
        have hlt8:∀ b,(M b ∨ Rg w3.heap.size w8.heap.size b)→b < w8.heap.size:=fun b hb=>by rcases hb with h | h;(have:=HM.out b h;have:=hB8.size;omega);exact h.2
        have LO:=hid (loose_any L1 aO cO _ w8 hFL hlt8 (by omega) hSF1 hNE1)
        have HLL:=hid hLL
        have HB8:=hid hB8
        have HFL:=hid hFL
        have HLT8:=hid hlt8
        have HSF1:=hid hSF1
        have hl180:L1.length ≤ 180:=by omega
        clear hp1 hs1 how1 hlc1 hgr hLL hl1 hSF1 hNE1 hB8 hFL hlt8 SO HLT HPM HSF HNE
        go_wp2_with fail
        refine LO.out.mono ?_
        rintro e w9 ⟨ak,ck,ab,cb,rfl,_,_,hb9⟩
        have hme:=HME.out
        rw [← HLL.out] at hme
        obtain ⟨B,hB⟩:∃ B,(lsF [] [] L1).2 = B:=⟨_,rfl⟩
        rw [hB] at hme ⊢
        have hz9:=hb9.size
        have HB9:=hid (HB8.out.trans (hb9.mono HB8.out.size))
        have TR:=hid (tree_u L1 aO cO _ w9 (LSl.agree HFL.out (Ag_b hb9 HLT8.out)) (fun b hb=>by have:=HLT8.out b hb;omega) (by omega) HSF1.out)
        have HBB:=hid (HB3.out.trans (HB9.out.mono (by omega)))
        have HME2:=hid hme
        clear hme hB hb9 LO HFL
        by_cases h1:0 < B.length
        · have hme:=HME2.out
          rw [if_pos h1] at hme
          have HME3:=hid hme
          have h1':(0:Int) < (B.length:Int):=by omega
          clear hme HME2 h1
          go_wp2_with fail
          (try rw [Exit.noGoto_ret])
          refine bodyPost_ret (v := .tuple #[.slice none 0 0, .int .i64 1]) (by simp [results,Tryz.results71,go_sem]) rfl ?_
          exact mk_bad HME3.out (by omega) HBB.out
        have hme:=HME2.out
        rw [if_neg h1] at hme
        have h1':¬ (0:Int) < (B.length:Int):=by omega
        by_cases h2:60 < L1.length
        · rw [if_pos h2] at hme
          have HME3:=hid hme
          have h2':(60:Int) < (L1.length:Int):=by omega
          clear hme HME2 h1 h2
          go_wp2_with fail
          (try rw [Exit.noGoto_ret])
          refine bodyPost_ret (v := .tuple #[.slice none 0 0, .int .i64 2]) (by simp [results,Tryz.results71,go_sem]) rfl ?_
          exact mk_bad HME3.out (by omega) HBB.out
        rw [if_neg h2] at hme
        have h2':¬ (60:Int) < (L1.length:Int):=by omega
        have hmy:mkY y l = (treF 0 L1).1:=by rw [mkY,if_pos hme,← HLL.out]
        have HMY:=hid hmy
        have HME3:=hid hme
        clear hme HME2 h1 h2 hmy
        go_wp2_with fail
        refine TR.out.mono ?_
        rintro e w10 ⟨a10,c10,rfl,hU,hb10⟩
        have hz10:=hb10.size
        have HU:=hid hU
        have HB10:=hid (HBB.out.trans (hb10.mono HBB.out.size))
        clear hU hb10
        go_wp2_with fail
        (try rw [Exit.noGoto_ret])
        refine bodyPost_ret (v := .tuple #[.slice a10 (treF 0 L1).1.len c10, .int .i64 0]) (by simp [results,Tryz.results71,go_sem]) rfl ?_
        rw [HMY.out,HME3.out]
        exact ⟨a10,c10,rfl,FSlU.wide HU.out fun b hb=>⟨by have:=hb.1;have:=HBB.out.size;omega,hb.2⟩,HB10.out⟩
end Go.Proofs.LF
