/- Parts of the proof of a law of layer 11 (file): LfW93. The conditions stand in each theorem. -/
import Derived.Test.YtadkpjgpefcphaaGreatDoorProg
import Derived.Test.YtadkpjgpefcphaaGreatDoorChab
import Derived.Test.YtadkpjgpefcphaaGreatDoorChac
import Derived.Test.YtadkpjgpefcphaaGreatDoorCham
import Derived.Test.YtadkpjgpefcphaaGreatDoorChao
set_option linter.all false
set_option linter.unusedVariables false
set_option linter.unusedSimpArgs false
namespace Go.Proofs.LF
open Go.RowKit Go.Sort
set_option maxHeartbeats 4000000
set_option maxRecDepth 100000
attribute [local go_sem] bs_toList bs_size bs_get
def okNm (p:List Ky):Bool:=p.all fun k=>!badNm k.n
def okNu (p:List Ky):Bool:=p.all fun k=>inB k.x 0 9999
def lstK (p:List Ky):Ky:=p.getLastD ⟨[],false,0⟩
def behB (q:Option (List Ky)) (p:List Ky):Bool:=match q with | none=>false | some q=>decide (0 ≤ cmpP q p)
def ckOne (q:Option (List Ky)) (c:Ch):Int:=
 if inB (c.p.length:Int) 1 4 = false then 10 else if okNm c.p = false then 11 else if (decide (4 < c.old.length) || decide (4 < c.new.length)) = true then 2
 else if (!(okNu c.p) || badNs c.old || badNs c.new) = true then 3 else if rtC c (lstK c.p) = false then 8 else if behB q c.p = true then 4 else 0
def ckL:Option (List Ky)→List Ch→Int
 | _,[]=>0
 | q,c :: r=>if ckOne q c = 0 then ckL (some c.p) r else ckOne q c
def ckC (l:List Ch):Int:=if 120 < l.length then 2 else ckL none l
def prevP (l:List Ch):Nat→Option (List Ky)
 | 0=>none
 | k + 1=>(l[k]?).map Ch.p
def SmCh (l:List Ch):Prop:=∀ c ∈ l,c.p.length ≤ 1000∧(∀ k ∈ c.p,k.n.length ≤ 1000)∧c.old.length ≤ 1000∧c.new.length ≤ 1000
theorem CheckChanges_any (l:List Ch) (al:Option Addr) (cl:Nat) (S:Nat→Prop) (w:World) (hv:ChSl S w (.slice al l.length cl) l) (hS:∀ b,S b→b < w.heap.size) (hl:l.length ≤ 1000) (hsm:SmCh l) :
 Calls Tryz.prog 67 #[.slice al l.length cl] w fun e w'=>e = .returned (.int .i64 (ckC l))∧Below w.heap.size w w':=by
 obtain ⟨al',cl',ee,_,hcm,hat⟩:=LSl.at hv
 obtain ⟨rfl,rfl⟩:al = al'∧cl = cl':=by cases ee;exact ⟨rfl,rfl⟩
 have HAT:=hid hat
 have HS:=hid hS
 have HSM:=hid hsm
 unfold maxLen at hcm
 clear hv hS hsm ee hat
 by_cases hmany:120 < l.length
 · have hmany':(120:Int) < (l.length:Int):=by omega
   have he:ckC l = 2:=by rw [ckC,if_pos hmany]
   have HE:=hid he
   clear he
   go_enter Tryz.func67,Tryz.ntmps67
   go_wp2_with fail
   go_ret
   exact ⟨by rw [HE.out];rfl,Below.refl _ _⟩
 have hmany':¬ (120:Int) < (l.length:Int):=by omega
 have he:ckC l = ckL none l:=by rw [ckC,if_neg hmany]
 have HE:=hid he
 clear he
 go_enter Tryz.func67,Tryz.ntmps67
 go_wp2_with fail
 go_loopw [10] (fun i wr=>∃ k:Nat,k ≤ l.length∧i = .int .i64 k∧Hid (ckC l = ckL (prevP l k) (l.drop k))∧Hid (Below w.heap.size w wr)) (fun i _=>l.length - (intOf i).toNat)
 case atStart=>exact ⟨0,by omega,rfl,by rw [Hid,HE.out];rfl,Below.refl _ _⟩
 case round=>
  obtain ⟨k,hk,rfl,HK,HB⟩:=hrel
  have hzr:=HB.out.size
  by_cases hlt:k < l.length
  · have hlt':(k:Int) < (l.length:Int):=by omega
    obtain ⟨g,o,cs,rfl,hg,⟨ap,cp,ao,co,an,cn,rfl,hP,hO,hN⟩,hcl⟩:=HAT.out k hlt
    have hag:=Ag_b (S:=S) HB.out HS.out
    have c0:=hag.cell hg (hcl 0 _ rfl)
    have c1:=hag.cell hg (hcl 1 _ rfl)
    have c2:=hag.cell hg (hcl 2 _ rfl)
    have c3:=hag.cell hg (hcl 3 _ rfl)
    have c4:=hag.cell hg (hcl 4 _ rfl)
    rw [Nat.add_zero] at c0
    simp only [← Nat.add_assoc] at c1 c2 c3 c4
    have hsm:=HSM.out l[k] (List.getElem_mem hlt)
    have hdr:l.drop k = l[k] :: l.drop (k + 1):=List.drop_eq_getElem_cons hlt
    have hpv:prevP l (k + 1) = some l[k].p:=by simp [prevP,List.getElem?_eq_getElem hlt]
    have hprev:(k = 0∧prevP l k = none) ∨ ∃ (q:List Ky) (aq:Option Addr) (cq:Nat),0 < k∧prevP l k = some q∧wr.cell? ⟨g,o + (k - 1) * 5,none⟩ = some (.slice aq q.length cq)∧Pth S wr (.slice aq q.length cq) q∧q.length ≤ 1000:=by
     rcases Nat.eq_zero_or_pos k with h | h
     · left;subst h;exact ⟨rfl,rfl⟩
     · right
       obtain ⟨k',rfl⟩:∃ k',k = k' + 1:=⟨k - 1,by omega⟩
       obtain ⟨g2,o2,cs2,e2,_,⟨aq,cq,ao2,co2,an2,cn2,rfl,hP2,_,_⟩,hcl2⟩:=HAT.out k' (by omega)
       cases e2
       refine ⟨l[k'].p,aq,cq,by omega,by simp [prevP,List.getElem?_eq_getElem (show k' < l.length by omega)],?_,hP2.agree hag,(HSM.out _ (List.getElem_mem _)).1⟩
       have:=hag.cell hg (hcl2 0 _ rfl)
       rw [Nat.add_zero] at this
       exact this
    obtain ⟨x,hx⟩:∃ x,l[k] = x:=⟨_,rfl⟩
    rw [hx] at hP hO hN c0 c1 c2 c3 c4 hsm hdr hpv
    have hone:ckC l = if ckOne (prevP l k) x = 0 then ckL (prevP l (k + 1)) (l.drop (k + 1)) else ckOne (prevP l k) x:=by
     rw [HK.out,hdr,ckL,hpv]
    obtain ⟨pq,hpq⟩:∃ pq,prevP l k = pq:=⟨_,rfl⟩
    rw [hpq] at hone hprev
    have ONE:=hid hone
    have PREV:=hid hprev
    have PX:=hid (hP.agree hag)
    have OX:=hid (hO.agree hag)
    have NX:=hid (hN.agree hag)
    have HSW:=hid (fun b (hb:S b)=>show b < wr.heap.size from by have:=HS.out b hb;omega)
    obtain ⟨s1,s2,s3,s4⟩:=hsm
    have S2:=hid s2
    have NBK:=hid (heap_alloc_new wr (.cells #[.slice ap x.p.length cp, .bool x.had, .bool x.has, .slice ao x.old.length co, .slice an x.new.length cn] 68))
    have BA:=hid ((Below.refl wr.heap.size wr).alloc (nl_ _) (.cells #[.slice ap x.p.length cp, .bool x.had, .bool x.has, .slice ao x.old.length co, .slice an x.new.length cn] 68))
    obtain ⟨w0,hw0⟩:∃ w0,w0 = wr:=⟨_,rfl⟩
    subst hw0
    clear hcl hP hO hN hx hdr hpv hprev hpq hone s2 hag HK
    go_upto_block 2 with fail
    obtain ⟨wa,hwa⟩:∃ wa,w0.alloc (.cells #[.slice ap x.p.length cp, .bool x.had, .bool x.has, .slice ao x.old.length co, .slice an x.new.length cn] 68) = wa:=⟨_,rfl⟩
    have hza:w0.heap.size < wa.heap.size:=by rw [← hwa];simp
    rw [hwa] at NBK BA ⊢
    clear hwa c0 c1 c2 c3 c4
    have BZ:=hid (Below.refl wa.heap.size wa)
    have AG:=hid (fun (W:World) (h:Below wa.heap.size wa W)=>show Agree S w0 W from fun b hb=>(h.block b (by have:=HSW.out b hb;omega)).trans (BA.out.block b (HSW.out b hb)))
    have HSA:=hid (fun (W:World) (h:Below wa.heap.size wa W) b (hb:S b)=>show b < W.heap.size from by have:=HSW.out b hb;have:=h.size;omega)
    have BACK:=hid (fun (W:World) (h:Below wa.heap.size wa W)=>show Below w.heap.size w W from HB.out.trans ((BA.out.trans (h.mono (by omega))).mono hzr))
    obtain ⟨q1,hq1⟩:∃ q,inB (x.p.length:Int) 1 4 = q:=⟨_,rfl⟩
    obtain ⟨q2,hq2⟩:∃ q,okNm x.p = q:=⟨_,rfl⟩
    obtain ⟨q4,hq4⟩:∃ q,okNu x.p = q:=⟨_,rfl⟩
    obtain ⟨q5,hq5⟩:∃ q,badNs x.old = q:=⟨_,rfl⟩
    obtain ⟨q6,hq6⟩:∃ q,badNs x.new = q:=⟨_,rfl⟩
    obtain ⟨q7,hq7⟩:∃ q,rtC x (lstK x.p) = q:=⟨_,rfl⟩
    obtain ⟨q8,hq8⟩:∃ q,behB pq x.p = q:=⟨_,rfl⟩
    have HCK:=hid (show ckOne pq x = if q1 = false then 10 else if q2 = false then 11 else if (decide (4 < x.old.length) || decide (4 < x.new.length)) = true then 2 else if (!q4 || q5 || q6) = true then 3 else if q7 = false then 8 else if q8 = true then 4 else 0 from by rw [ckOne,hq1,hq2,hq4,hq5,hq6,hq7,hq8])
    have K1:=hid (fun W=>in_any (x.p.length:Int) 1 4 W)
    rw [hq1] at K1
    have K2:=hid (fun W (h:Below wa.heap.size wa W)=>show Calls Tryz.prog 152 #[.slice ap x.p.length cp, .func (.func 153) #[] #[]] W fun e w'=>e = .returned (.bool q2)∧Below W.heap.size W w' from by rw [← hq2];exact namesK_any x.p ap cp S W (PX.out.agree (AG.out W h)) (HSA.out W h) s1 S2.out)
    have K4:=hid (fun W (h:Below wa.heap.size wa W)=>show Calls Tryz.prog 152 #[.slice ap x.p.length cp, .func (.func 155) #[] #[]] W fun e w'=>e = .returned (.bool q4)∧Below W.heap.size W w' from by rw [← hq4];exact numsK_any x.p ap cp S W (PX.out.agree (AG.out W h)) (HSA.out W h) s1 S2.out)
    have K5:=hid (fun W (h:Below wa.heap.size wa W)=>show Calls Tryz.prog 157 #[.slice ao x.old.length co, .func (.func 156) #[] #[]] W fun e w'=>e = .returned (.bool (!q5))∧Below W.heap.size W w' from by rw [← hq5];exact numbers_any x.old ao co S W (OX.out.agree (AG.out W h)) (HSA.out W h) s3)
    have K6:=hid (fun W (h:Below wa.heap.size wa W)=>show Calls Tryz.prog 157 #[.slice an x.new.length cn, .func (.func 156) #[] #[]] W fun e w'=>e = .returned (.bool (!q6))∧Below W.heap.size W w' from by rw [← hq6];exact numbers_any x.new an cn S W (NX.out.agree (AG.out W h)) (HSA.out W h) s4)
    have K7:=hid (fun (h1:1 ≤ x.p.length) W (h:Below wa.heap.size wa W)=>show Calls Tryz.prog 158 #[.agg #[.slice ap x.p.length cp, .bool x.had, .bool x.has, .slice ao x.old.length co, .slice an x.new.length cn]] W fun e w'=>e = .returned (.bool q7)∧Below W.heap.size W w' from by
     rw [← hq7]
     exact right_any x (x.p.length - 1) ap ao an cp co cn S W (PX.out.agree (AG.out W h)) (OX.out.agree (AG.out W h)) (NX.out.agree (AG.out W h)) (HSA.out W h) (by omega) s1 s3 s4 (lstK x.p) (by
      unfold lstK
      rw [List.getLastD_eq_getLast?,List.getLast?_eq_getElem?,List.getElem?_eq_getElem (by omega)];rfl))
    have HQ1:=hid hq1
    have HQ8:=hid hq8
    clear hq1 hq2 hq4 hq5 hq6 hq7 hq8
    have f1:=blk_on9 NBK.out BZ.out
    have d0:=cg_ f1 (k:=0) (v := .slice ap x.p.length cp) rfl
    have d1:=cg_ f1 (k:=1) (v := .bool x.had) rfl
    have d2:=cg_ f1 (k:=2) (v := .bool x.has) rfl
    have d3:=cg_ f1 (k:=3) (v := .slice ao x.old.length co) rfl
    have d4:=cg_ f1 (k:=4) (v := .slice an x.new.length cn) rfl
    clear f1
    go_wp2_with fail
    refine (K1.out wa).mono ?_
    rintro e w1 ⟨rfl,hw⟩
    subst hw
    clear d0 d1 d2 d3 d4
    cases q1
    · have f1:=blk_on9 NBK.out BZ.out
      have d0:=cg_ f1 (k:=0) (v := .slice ap x.p.length cp) rfl
      have d1:=cg_ f1 (k:=1) (v := .bool x.had) rfl
      have d2:=cg_ f1 (k:=2) (v := .bool x.has) rfl
      have d3:=cg_ f1 (k:=3) (v := .slice ao x.old.length co) rfl
      have d4:=cg_ f1 (k:=4) (v := .slice an x.new.length cn) rfl
      clear f1
      have hval:ckC l = 10:=by rw [ONE.out,HCK.out];simp
      have HV:=hid hval
      clear hval
      go_wp2_with fail
      go_ret
      exact ⟨by rw [HV.out];rfl,BACK.out _ BZ.out⟩
    · have hlen:1 ≤ x.p.length:=by
       have:=HQ1.out
       simp only [inB,Bool.and_eq_true,decide_eq_true_eq] at this
       omega
      have f1:=blk_on9 NBK.out BZ.out
      have d0:=cg_ f1 (k:=0) (v := .slice ap x.p.length cp) rfl
      have d1:=cg_ f1 (k:=1) (v := .bool x.had) rfl
      have d2:=cg_ f1 (k:=2) (v := .bool x.has) rfl
      have d3:=cg_ f1 (k:=3) (v := .slice ao x.old.length co) rfl
      have d4:=cg_ f1 (k:=4) (v := .slice an x.new.length cn) rfl
      clear f1
      go_wp2_with fail
      refine (K2.out wa BZ.out).mono ?_
      rintro e w2 ⟨rfl,hb⟩
      clear d0 d1 d2 d3 d4
      replace BZ:=hid (BZ.out.trans (hb.mono BZ.out.size))
      clear hb
      cases q2
      · have f1:=blk_on9 NBK.out BZ.out
        have d0:=cg_ f1 (k:=0) (v := .slice ap x.p.length cp) rfl
        have d1:=cg_ f1 (k:=1) (v := .bool x.had) rfl
        have d2:=cg_ f1 (k:=2) (v := .bool x.has) rfl
        have d3:=cg_ f1 (k:=3) (v := .slice ao x.old.length co) rfl
        have d4:=cg_ f1 (k:=4) (v := .slice an x.new.length cn) rfl
        clear f1
        have hval:ckC l = 11:=by rw [ONE.out,HCK.out];simp
        have HV:=hid hval
        clear hval
        go_wp2_with fail
        go_ret
        exact ⟨by rw [HV.out];rfl,BACK.out _ BZ.out⟩
      · by_cases o4:4 < x.old.length
        · have o4i:(4:Int) < (x.old.length:Int):=by omega
          have f1:=blk_on9 NBK.out BZ.out
          have d0:=cg_ f1 (k:=0) (v := .slice ap x.p.length cp) rfl
          have d1:=cg_ f1 (k:=1) (v := .bool x.had) rfl
          have d2:=cg_ f1 (k:=2) (v := .bool x.has) rfl
          have d3:=cg_ f1 (k:=3) (v := .slice ao x.old.length co) rfl
          have d4:=cg_ f1 (k:=4) (v := .slice an x.new.length cn) rfl
          clear f1
          have hval:ckC l = 2:=by rw [ONE.out,HCK.out];simp [o4]
          have HV:=hid hval
          clear hval
          go_wp2_with fail
          go_ret
          exact ⟨by rw [HV.out];rfl,BACK.out _ BZ.out⟩
        have o4i:¬ (4:Int) < (x.old.length:Int):=by omega
        by_cases n4:4 < x.new.length
        · have n4i:(4:Int) < (x.new.length:Int):=by omega
          have f1:=blk_on9 NBK.out BZ.out
          have d0:=cg_ f1 (k:=0) (v := .slice ap x.p.length cp) rfl
          have d1:=cg_ f1 (k:=1) (v := .bool x.had) rfl
          have d2:=cg_ f1 (k:=2) (v := .bool x.has) rfl
          have d3:=cg_ f1 (k:=3) (v := .slice ao x.old.length co) rfl
          have d4:=cg_ f1 (k:=4) (v := .slice an x.new.length cn) rfl
          clear f1
          have hval:ckC l = 2:=by rw [ONE.out,HCK.out];simp [n4]
          have HV:=hid hval
          clear hval
          go_wp2_with fail
          go_ret
          exact ⟨by rw [HV.out];rfl,BACK.out _ BZ.out⟩
        have n4i:¬ (4:Int) < (x.new.length:Int):=by omega
        have f1:=blk_on9 NBK.out BZ.out
        have d0:=cg_ f1 (k:=0) (v := .slice ap x.p.length cp) rfl
        have d1:=cg_ f1 (k:=1) (v := .bool x.had) rfl
        have d2:=cg_ f1 (k:=2) (v := .bool x.has) rfl
        have d3:=cg_ f1 (k:=3) (v := .slice ao x.old.length co) rfl
        have d4:=cg_ f1 (k:=4) (v := .slice an x.new.length cn) rfl
        clear f1
        go_wp2_with fail
        refine (K4.out w2 BZ.out).mono ?_
        rintro e w3 ⟨rfl,hb⟩
        clear d0 d1 d2 d3 d4
        replace BZ:=hid (BZ.out.trans (hb.mono BZ.out.size))
        clear hb
        cases q4
        · have f1:=blk_on9 NBK.out BZ.out
          have d0:=cg_ f1 (k:=0) (v := .slice ap x.p.length cp) rfl
          have d1:=cg_ f1 (k:=1) (v := .bool x.had) rfl
          have d2:=cg_ f1 (k:=2) (v := .bool x.has) rfl
          have d3:=cg_ f1 (k:=3) (v := .slice ao x.old.length co) rfl
          have d4:=cg_ f1 (k:=4) (v := .slice an x.new.length cn) rfl
          clear f1
          have hval:ckC l = 3:=by rw [ONE.out,HCK.out];simp [o4,n4]
          have HV:=hid hval
          clear hval
          go_wp2_with fail
          go_ret
          exact ⟨by rw [HV.out];rfl,BACK.out _ BZ.out⟩
        · have f1:=blk_on9 NBK.out BZ.out
          have d0:=cg_ f1 (k:=0) (v := .slice ap x.p.length cp) rfl
          have d1:=cg_ f1 (k:=1) (v := .bool x.had) rfl
          have d2:=cg_ f1 (k:=2) (v := .bool x.has) rfl
          have d3:=cg_ f1 (k:=3) (v := .slice ao x.old.length co) rfl
          have d4:=cg_ f1 (k:=4) (v := .slice an x.new.length cn) rfl
          clear f1
          go_wp2_with fail
          refine (K5.out w3 BZ.out).mono ?_
          rintro e w4 ⟨rfl,hb⟩
          clear d0 d1 d2 d3 d4
          replace BZ:=hid (BZ.out.trans (hb.mono BZ.out.size))
          clear hb
          cases q5
          rotate_left
          · have f1:=blk_on9 NBK.out BZ.out
            have d0:=cg_ f1 (k:=0) (v := .slice ap x.p.length cp) rfl
            have d1:=cg_ f1 (k:=1) (v := .bool x.had) rfl
            have d2:=cg_ f1 (k:=2) (v := .bool x.has) rfl
            have d3:=cg_ f1 (k:=3) (v := .slice ao x.old.length co) rfl
            have d4:=cg_ f1 (k:=4) (v := .slice an x.new.length cn) rfl
            clear f1
            have hval:ckC l = 3:=by rw [ONE.out,HCK.out];simp [o4,n4]
            have HV:=hid hval
            clear hval
            go_wp2_with fail
            go_ret
            exact ⟨by rw [HV.out];rfl,BACK.out _ BZ.out⟩
          have f1:=blk_on9 NBK.out BZ.out
          have d0:=cg_ f1 (k:=0) (v := .slice ap x.p.length cp) rfl
          have d1:=cg_ f1 (k:=1) (v := .bool x.had) rfl
          have d2:=cg_ f1 (k:=2) (v := .bool x.has) rfl
          have d3:=cg_ f1 (k:=3) (v := .slice ao x.old.length co) rfl
          have d4:=cg_ f1 (k:=4) (v := .slice an x.new.length cn) rfl
          clear f1
          go_wp2_with fail
          refine (K6.out w4 BZ.out).mono ?_
          rintro e w5 ⟨rfl,hb⟩
          clear d0 d1 d2 d3 d4
          replace BZ:=hid (BZ.out.trans (hb.mono BZ.out.size))
          clear hb
          cases q6
          rotate_left
          · have f1:=blk_on9 NBK.out BZ.out
            have d0:=cg_ f1 (k:=0) (v := .slice ap x.p.length cp) rfl
            have d1:=cg_ f1 (k:=1) (v := .bool x.had) rfl
            have d2:=cg_ f1 (k:=2) (v := .bool x.has) rfl
            have d3:=cg_ f1 (k:=3) (v := .slice ao x.old.length co) rfl
            have d4:=cg_ f1 (k:=4) (v := .slice an x.new.length cn) rfl
            clear f1
            have hval:ckC l = 3:=by rw [ONE.out,HCK.out];simp [o4,n4]
            have HV:=hid hval
            clear hval
            go_wp2_with fail
            go_ret
            exact ⟨by rw [HV.out];rfl,BACK.out _ BZ.out⟩
          have f1:=blk_on9 NBK.out BZ.out
          have d0:=cg_ f1 (k:=0) (v := .slice ap x.p.length cp) rfl
          have d1:=cg_ f1 (k:=1) (v := .bool x.had) rfl
          have d2:=cg_ f1 (k:=2) (v := .bool x.has) rfl
          have d3:=cg_ f1 (k:=3) (v := .slice ao x.old.length co) rfl
          have d4:=cg_ f1 (k:=4) (v := .slice an x.new.length cn) rfl
          clear f1
          go_wp2_with fail
          refine (K7.out hlen w5 BZ.out).mono ?_
          rintro e w6 ⟨rfl,hb⟩
          clear d0 d1 d2 d3 d4
          replace BZ:=hid (BZ.out.trans (hb.mono BZ.out.size))
          clear hb
          cases q7
          · have f1:=blk_on9 NBK.out BZ.out
            have d0:=cg_ f1 (k:=0) (v := .slice ap x.p.length cp) rfl
            have d1:=cg_ f1 (k:=1) (v := .bool x.had) rfl
            have d2:=cg_ f1 (k:=2) (v := .bool x.has) rfl
            have d3:=cg_ f1 (k:=3) (v := .slice ao x.old.length co) rfl
            have d4:=cg_ f1 (k:=4) (v := .slice an x.new.length cn) rfl
            clear f1
            have hval:ckC l = 8:=by rw [ONE.out,HCK.out];simp [o4,n4]
            have HV:=hid hval
            clear hval
            go_wp2_with fail
            go_ret
            exact ⟨by rw [HV.out];rfl,BACK.out _ BZ.out⟩
          have B06:=BA.out.trans (BZ.out.mono (by omega))
          have f1:=blk_on9 NBK.out BZ.out
          have dB:=cg_ f1 (k:=0) (v := .slice ap x.p.length cp) rfl
          have hbl:=(Array.getElem?_eq_some_iff.1 f1).1
          clear f1
          rcases PREV.out with ⟨hk0,hpq⟩ | ⟨q,aq,cq,hk0,hpq,hcq,hpp,hql⟩
          · have hki:¬ (0:Int) < (k:Int):=by omega
            have hz:ckC l = ckL (prevP l (k + 1)) (l.drop (k + 1)):=by
             rw [ONE.out,HCK.out,← HQ8.out,hpq];simp [behB,o4,n4]
            have HZ:=hid hz
            clear hz hpq
            go_upto_region 16 with fail
            refine (wpIn_wide (n:=9)).1 ?_
            refine region_held (fun w':World=>True) (by kernel_rfl) ?_
            have hS1:True:=trivial
            refine tkY 0 59 (.int .i64 k) rfl rfl hS1 (fun w' hs=>?_) ?_
            · go_simp
            refine tkY 1 60 (.bool false) rfl rfl hS1 (fun w' hs=>?_) ?_
            · go_simp
            refine tkY 2 61 (.bool false) rfl rfl hS1 (fun w' hs=>?_) ?_
            · go_simp
            refine tkN 3 62 rfl rfl hS1 ?_
            refine tkN 4 63 rfl rfl hS1 ?_
            refine tkN 5 64 rfl rfl hS1 ?_
            refine tkN 6 65 rfl rfl hS1 ?_
            refine tkN 7 66 rfl rfl hS1 ?_
            refine tkN 8 67 rfl rfl hS1 ?_
            refine tkN 9 68 rfl rfl hS1 ?_
            refine tkN 10 69 rfl rfl hS1 ?_
            refine tkN 11 70 rfl rfl hS1 ?_
            refine tkN 12 71 rfl rfl hS1 ?_
            refine tkY 13 72 (.bool false) rfl rfl hS1 (fun w' hs=>?_) ?_
            · go_simp
            refine tkY 14 58 (.bool false) rfl rfl hS1 (fun w' hs=>?_) ?_
            · go_simp
            refine AnyH_done (by kernel_rfl) ?_
            go_simp
            clear hS1 dB
            go_wp2_with fail
            go_roundw
            case rel=>exact ⟨k + 1,by omega,by go_num,HZ,hid (BACK.out _ BZ.out.drew)⟩
            case measure=>simp [intOf];omega
          · obtain ⟨k',hkk⟩:∃ k',k = k' + 1:=⟨k - 1,by omega⟩
            have hsub:(k:Int) - 1 = (k':Int):=by omega
            have hki:(0:Int) < (k:Int):=by omega
            have hk'l:(k':Int) < (l.length:Int):=by omega
            have hk'0:(0:Int) ≤ (k':Int):=by omega
            rw [show k - 1 = k' by omega] at hcq
            have hgl:=HSW.out g hg
            have hS0:w6.drew.cell? ⟨g,o + k' * 5,none⟩ = some (.slice aq q.length cq)∧w6.drew.cell? ⟨w0.heap.size,0,none⟩ = some (.slice ap x.p.length cp):=⟨bc_ B06.drew hgl hcq,dB⟩
            have HS0:=hid hS0
            have CALL:=hid (byPath_any q x.p aq ap cq cp (fun b=>b < w6.heap.size) w6.drew ((hpp.agree (Ag_b B06 HSW.out)).wide (fun b hb=>by have:=HSW.out b hb;have:=B06.size;omega)) ((PX.out.agree (Ag_b B06 HSW.out)).wide (fun b hb=>by have:=HSW.out b hb;have:=B06.size;omega)) (fun b hb=>by simpa using hb) hql s1)
            have hq8:decide (0 ≤ cmpP q x.p) = q8:=by have:=HQ8.out;rw [hpq] at this;exact this
            obtain ⟨zz,hzz⟩:∃ zz,cmpP q x.p = zz:=⟨_,rfl⟩
            rw [hzz] at CALL hq8
            have HQZ:=hid hq8
            have B06':=hid B06
            clear hS0 dB hpq hcq hpp hzz hkk hq8 B06
            go_upto_region 16 with fail
            refine (wpIn_wide (n:=9)).1 ?_
            refine region_held (fun w':World=>w'.cell? ⟨g,o + k' * 5,none⟩ = some (.slice aq q.length cq)∧w'.cell? ⟨w0.heap.size,0,none⟩ = some (.slice ap x.p.length cp)) (by kernel_rfl) ?_
            have hS1:=HS0.out
            refine tkY 0 59 (.int .i64 k) rfl rfl hS1 (fun w' hs=>?_) ?_
            · go_simp
            refine tkY 1 60 (.bool true) rfl rfl hS1 (fun w' hs=>?_) ?_
            · go_simp
            refine tkY 2 61 (.bool true) rfl rfl hS1 (fun w' hs=>?_) ?_
            · go_simp
            refine tkY 3 62 (.slice (some ⟨g,o,none⟩) l.length cl) rfl rfl hS1 (fun w' hs=>?_) ?_
            · go_simp
            refine tkY 4 63 (.int .i64 k) rfl rfl hS1 (fun w' hs=>?_) ?_
            · go_simp
            refine tkY 5 64 (.int .i64 k') rfl rfl hS1 (fun w' hs=>?_) ?_
            · go_simp
              exact IntWalk.i64_in _ (by omega)
            refine tkY 6 65 (.pointer (some ⟨g,o + k' * 5,none⟩)) rfl rfl hS1 (fun w' hs=>?_) ?_
            · go_simp
            refine tkY 7 66 (.pointer (some ⟨g,o + k' * 5,none⟩)) rfl rfl hS1 (fun w' hs=>?_) ?_
            · go_simp
            refine tkY 8 67 (.slice aq q.length cq) rfl rfl hS1 (fun w' hs=>?_) ?_
            · obtain ⟨y0,y1⟩:=hs
              go_simp
            refine tkY 9 68 (.pointer (some ⟨w0.heap.size,0,none⟩)) rfl rfl hS1 (fun w' hs=>?_) ?_
            · go_simp
            refine tkY 10 69 (.slice ap x.p.length cp) rfl rfl hS1 (fun w' hs=>?_) ?_
            · obtain ⟨y0,y1⟩:=hs
              go_simp
            refine AnyH_one (i:=11) (by kernel_rfl) rfl (by kernel_rfl) (fun K hK=>?_)
            go_simp
            refine ⟨trivial,(callsIn_wide.2 CALL.out).mono ?_⟩
            rintro e w7 ⟨he7,hb7⟩
            subst he7
            have hS7:w7.cell? ⟨g,o + k' * 5,none⟩ = some (.slice aq q.length cq)∧w7.cell? ⟨w0.heap.size,0,none⟩ = some (.slice ap x.p.length cp):=⟨bc_ hb7 (by have:=B06'.out.size;simp;omega) HS0.out.1,bc_ hb7 (by simp;omega) HS0.out.2⟩
            refine hK _ _ ⟨hS7,?_⟩
            clear hK
            have B7:=hid (BZ.out.drew.trans (hb7.mono (by have:=BZ.out.size;simp;omega)))
            by_cases hz0:0 ≤ zz
            · refine tkY 12 71 (.bool true) rfl rfl hS7 (fun w' hs=>?_) ?_
              · go_simp
              refine tkY 13 72 (.bool true) rfl rfl hS7 (fun w' hs=>?_) ?_
              · go_simp
              refine tkY 14 58 (.bool true) rfl rfl hS7 (fun w' hs=>?_) ?_
              · go_simp
              refine AnyH_done (by kernel_rfl) ?_
              go_simp
              clear hS1 hS7 hb7
              have hval:ckC l = 4:=by rw [ONE.out,HCK.out,← HQZ.out];simp [o4,n4,hz0]
              have HV:=hid hval
              clear hval
              go_wp2_with fail
              go_ret
              exact ⟨by rw [HV.out];rfl,BACK.out _ B7.out⟩
            · refine tkY 12 71 (.bool false) rfl rfl hS7 (fun w' hs=>?_) ?_
              · go_simp
              refine tkY 13 72 (.bool false) rfl rfl hS7 (fun w' hs=>?_) ?_
              · go_simp
              refine tkY 14 58 (.bool false) rfl rfl hS7 (fun w' hs=>?_) ?_
              · go_simp
              refine AnyH_done (by kernel_rfl) ?_
              go_simp
              clear hS1 hS7 hb7
              have hz:ckC l = ckL (prevP l (k + 1)) (l.drop (k + 1)):=by rw [ONE.out,HCK.out,← HQZ.out];simp [o4,n4,hz0]
              have HZ:=hid hz
              clear hz
              go_wp2_with fail
              go_roundw
              case rel=>exact ⟨k + 1,by omega,by go_num,HZ,hid (BACK.out _ B7.out)⟩
              case measure=>simp [intOf];omega
  · obtain rfl:k = l.length:=by omega
    have hlt':¬ (l.length:Int) < (l.length:Int):=by omega
    go_wp2_with fail
    go_ret
    refine ⟨?_,HB.out⟩
    rw [HK.out,List.drop_length]
    rfl
end Go.Proofs.LF
