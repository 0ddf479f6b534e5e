/- Parts of the proof of a law of layer 11 (file): LfW117. The conditions stand in each theorem. -/
import Derived.Test.YtadkpjgpefcphaaGreatDoorProg
import Derived.Test.YtadkpjgpefcphaaGreatDoorChac
import Derived.Test.YtadkpjgpefcphaaGreatDoorChag
import Derived.Test.YtadkpjgpefcphaaGreatDoorChan
import Derived.Test.YtadkpjgpefcphaaGreatDoorChaw
import Derived.Test.YtadkpjgpefcphaaGreatDoorChax
import Derived.Test.YtadkpjgpefcphaaGreatDoorChbc
import Derived.Test.YtadkpjgpefcphaaGreatDoorChbd
import Derived.Test.YtadkpjgpefcphaaGreatDoorChbe
import Derived.Test.YtadkpjgpefcphaaGreatDoorChbh
import Derived.Test.YtadkpjgpefcphaaGreatDoorChbi
import Derived.Test.YtadkpjgpefcphaaGreatDoorChbl
set_option linter.all false
set_option linter.unusedVariables false
set_option linter.unusedSimpArgs false
namespace Go.Proofs.LF
open Go.RowKit Go.Sort
set_option maxHeartbeats 4000000
set_option maxRecDepth 100000
attribute [local go_sem] bs_toList bs_size bs_get
theorem mkY_sm {y:Fo} {l:List Ch} (hsm:SmCh l):(mkY y l).Sm∧(mkY y l).len ≤ 60:=by
 unfold mkY
 split
 · rename_i h
   have hy:chkY y = 0:=by
    unfold mkE at h
    split at h
    · omega
    · omega
   have hl:ckC l = 0:=by
    unfold mkE at h
    rw [if_neg (by omega)] at h
    split at h
    · omega
    · omega
   have hlen:(mkO y l).length ≤ 60:=by
    unfold mkE at h
    repeat' split at h
    all_goals omega
   obtain ⟨_,_,h3,_⟩:=mk_bd hy hl hsm
   obtain ⟨a,b⟩:=treF_smc (mkO y l).length 0 (mkO y l) (nl_ _) (by omega) fun x hx=>by
    unfold mkO at hx
    rw [srtFl_mem] at hx
    have:=h3 x hx
    exact ⟨this.2.2,this.2.1⟩
   exact ⟨a,by omega⟩
 · exact ⟨trivial,by simp [Fo.len]⟩
theorem back_at {l:List Ch} {k:Nat} (hk:k < (backL l).length):∃ h:k < l.length,(backL l)[k] = turnC l[k]:=by
 unfold backL at hk ⊢
 split at hk
 · rename_i h
   refine ⟨by simpa using hk,?_⟩
   simp only [h,if_true]
   simp
 · simp at hk
theorem FileChanges_any (x y:Fo) (l:List Ch) (ax ay al:Option Addr) (cx cy cl:Nat) (w:World) (hx:FSl (fun q=>q < w.heap.size) w (.slice ax x.len cx) x) (hy:FSl (fun q=>q < w.heap.size) w (.slice ay y.len cy) y) (hl:ChSl (fun q=>q < w.heap.size) w (.slice al l.length cl) l) (ht:Pow w) :
 Calls Tryz.prog 10 #[.slice ax x.len cx, .slice ay y.len cy, .slice al l.length cl] w fun e w'=>e = .returned (.bool true)∧Below w.heap.size w w':=by
 have HT:=hid ht
 have HX:Hid (In w _ x):=hid hx
 have HY:Hid (In w _ y):=hid hy
 have HL:Hid (ChIn w _ l):=hid hl
 have BW:=hid (Below.refl w.heap.size w)
 clear ht hx hy hl
 go_enter Tryz.func10,Tryz.ntmps10
 go_wp2_with fail
 refine (deep_any x ax cx _ w HX.out (fun _ h=>h)).mono ?_
 rintro e w1 ⟨rfl,hb⟩
 replace HX:=hid (HX.out.on hb)
 replace HY:=hid (HY.out.on hb)
 replace HL:=hid (HL.out.on hb)
 replace BW:=hid (BW.out.trans (hb.mono BW.out.size))
 obtain ⟨bx,hbx⟩:∃ b,decide (80 < cntG 0 0 x) = b:=⟨_,rfl⟩
 rw [hbx]
 clear hb
 cases bx
 rotate_left
 · go_wp2_with fail
   refine (awake_any w1 (HT.out.below BW.out)).mono ?_
   rintro e z_ ⟨rfl,hb⟩
   replace HX:=hid (HX.out.on hb)
   replace HY:=hid (HY.out.on hb)
   replace HL:=hid (HL.out.on hb)
   replace BW:=hid (BW.out.trans (hb.mono BW.out.size))
   clear hb
   go_wp2_with fail
   go_ret
   exact ⟨rfl,BW.out⟩
 go_wp2_with fail
 refine (deep_any y ay cy _ w1 HY.out (fun _ h=>h)).mono ?_
 rintro e w2 ⟨rfl,hb⟩
 replace HX:=hid (HX.out.on hb)
 replace HY:=hid (HY.out.on hb)
 replace HL:=hid (HL.out.on hb)
 replace BW:=hid (BW.out.trans (hb.mono BW.out.size))
 obtain ⟨by_,hby⟩:∃ b,decide (80 < cntG 0 0 y) = b:=⟨_,rfl⟩
 rw [hby]
 clear hb
 cases by_
 rotate_left
 · go_wp2_with fail
   refine (awake_any w2 (HT.out.below BW.out)).mono ?_
   rintro e z_ ⟨rfl,hb⟩
   replace HX:=hid (HX.out.on hb)
   replace HY:=hid (HY.out.on hb)
   replace HL:=hid (HL.out.on hb)
   replace BW:=hid (BW.out.trans (hb.mono BW.out.size))
   clear hb
   go_wp2_with fail
   go_ret
   exact ⟨rfl,BW.out⟩
 go_wp2_with fail
 refine (wild_any l al cl _ w2 HL.out (fun _ h=>h)).mono ?_
 rintro e w3 ⟨rfl,hb⟩
 replace HX:=hid (HX.out.on hb)
 replace HY:=hid (HY.out.on hb)
 replace HL:=hid (HL.out.on hb)
 replace BW:=hid (BW.out.trans (hb.mono BW.out.size))
 clear hb
 cases hwl:wildB l
 rotate_left
 · go_wp2_with fail
   refine (awake_any w3 (HT.out.below BW.out)).mono ?_
   rintro e z_ ⟨rfl,hb⟩
   replace HX:=hid (HX.out.on hb)
   replace HY:=hid (HY.out.on hb)
   replace HL:=hid (HL.out.on hb)
   replace BW:=hid (BW.out.trans (hb.mono BW.out.size))
   clear hb
   go_wp2_with fail
   go_ret
   exact ⟨rfl,BW.out⟩
 obtain ⟨nx,smx,lenx⟩:=deep_no (by simpa using hbx)
 obtain ⟨ny,smy,leny⟩:=deep_no (by simpa using hby)
 have l130:=(wild_no hwl).1
 obtain ⟨ll,sl,s3l⟩:=wild_sm hwl
 have SMX:=hid smx
 have SMY:=hid smy
 have SL:=hid sl
 have SL3:=hid s3l
 clear hbx hby hwl smx smy sl s3l
 go_wp2_with fail
 refine (Own_any (x.cnt + 1) x ax cx _ w3 (Nat.lt_succ_self _) HX.out (fun _ h=>h) (by omega) SMX.out).mono ?_
 rintro e w4 ⟨ox,kox,rfl,hF,hb⟩
 replace HX:=hid (HX.out.on hb)
 replace HY:=hid (HY.out.on hb)
 replace HL:=hid (HL.out.on hb)
 replace BW:=hid (BW.out.trans (hb.mono BW.out.size))
 have HOX:=hid (show In w4 _ x from FSl.wide hF fun b hb=>hb.2)
 clear hF
 clear hb
 go_wp2_with fail
 refine (Own_any (y.cnt + 1) y ay cy _ w4 (Nat.lt_succ_self _) HY.out (fun _ h=>h) (by omega) SMY.out).mono ?_
 rintro e w5 ⟨oy,koy,rfl,hF,hb⟩
 replace HX:=hid (HX.out.on hb)
 replace HY:=hid (HY.out.on hb)
 replace HL:=hid (HL.out.on hb)
 replace HOX:=hid (HOX.out.on hb)
 replace BW:=hid (BW.out.trans (hb.mono BW.out.size))
 have HOY:=hid (show In w5 _ y from FSl.wide hF fun b hb=>hb.2)
 clear hF
 clear hb
 go_wp2_with fail
 refine (copied_any l al cl _ w5 HL.out (fun _ h=>h) ll SL3.out).mono ?_
 rintro e w6 ⟨ml,kml,rfl,hL,hb⟩
 replace HX:=hid (HX.out.on hb)
 replace HY:=hid (HY.out.on hb)
 replace HL:=hid (HL.out.on hb)
 replace HOX:=hid (HOX.out.on hb)
 replace HOY:=hid (HOY.out.on hb)
 replace BW:=hid (BW.out.trans (hb.mono BW.out.size))
 have HC:Hid (ChIn w6 _ l):=hid (hL.wide fun b hb=>hb.2)
 clear hL
 clear hb
 go_wp2_with fail
 refine (changes_any l al cl _ w6 HL.out (fun _ h=>h) ll SL3.out).mono ?_
 rintro e w7 ⟨rl,krl,rfl,hL,hb⟩
 replace HX:=hid (HX.out.on hb)
 replace HY:=hid (HY.out.on hb)
 replace HL:=hid (HL.out.on hb)
 replace HOX:=hid (HOX.out.on hb)
 replace HOY:=hid (HOY.out.on hb)
 replace HC:=hid (HC.out.on hb)
 replace BW:=hid (BW.out.trans (hb.mono BW.out.size))
 have HM:Hid (ChIn w7 _ l):=hid (hL.wide fun b hb=>hb.2)
 clear hL
 clear hb
 go_wp2_with fail
 refine (theirs_any (x.cnt + 1) x ax cx _ w7 (Nat.lt_succ_self _) HX.out (fun _ h=>h) (by omega) SMX.out).mono ?_
 rintro e tx_ ⟨tx,ktx,rfl,hF,hb⟩
 replace HX:=hid (HX.out.on hb)
 replace HY:=hid (HY.out.on hb)
 replace HL:=hid (HL.out.on hb)
 replace HOX:=hid (HOX.out.on hb)
 replace HOY:=hid (HOY.out.on hb)
 replace HC:=hid (HC.out.on hb)
 replace HM:=hid (HM.out.on hb)
 replace BW:=hid (BW.out.trans (hb.mono BW.out.size))
 have Htx:=hid (show In tx_ _ x from FSl.wide hF fun b hb=>hb.2)
 clear hF
 clear hb
 go_wp2_with fail
 refine (refCheck_any x tx ktx _ tx_ Htx.out (fun _ h=>h) (by omega) SMX.out).mono ?_
 rintro e rx_ ⟨rfl,hb⟩
 replace HX:=hid (HX.out.on hb)
 replace HY:=hid (HY.out.on hb)
 replace HL:=hid (HL.out.on hb)
 replace HOX:=hid (HOX.out.on hb)
 replace HOY:=hid (HOY.out.on hb)
 replace HC:=hid (HC.out.on hb)
 replace HM:=hid (HM.out.on hb)
 replace Htx:=hid (Htx.out.on hb)
 replace BW:=hid (BW.out.trans (hb.mono BW.out.size))
 clear hb
 clear Htx
 go_wp2_with fail
 refine (theirs_any (y.cnt + 1) y ay cy _ rx_ (Nat.lt_succ_self _) HY.out (fun _ h=>h) (by omega) SMY.out).mono ?_
 rintro e ty_ ⟨ty,kty,rfl,hF,hb⟩
 replace HX:=hid (HX.out.on hb)
 replace HY:=hid (HY.out.on hb)
 replace HL:=hid (HL.out.on hb)
 replace HOX:=hid (HOX.out.on hb)
 replace HOY:=hid (HOY.out.on hb)
 replace HC:=hid (HC.out.on hb)
 replace HM:=hid (HM.out.on hb)
 replace BW:=hid (BW.out.trans (hb.mono BW.out.size))
 have Hty:=hid (show In ty_ _ y from FSl.wide hF fun b hb=>hb.2)
 clear hF
 clear hb
 go_wp2_with fail
 refine (refCheck_any y ty kty _ ty_ Hty.out (fun _ h=>h) (by omega) SMY.out).mono ?_
 rintro e ry_ ⟨rfl,hb⟩
 replace HX:=hid (HX.out.on hb)
 replace HY:=hid (HY.out.on hb)
 replace HL:=hid (HL.out.on hb)
 replace HOX:=hid (HOX.out.on hb)
 replace HOY:=hid (HOY.out.on hb)
 replace HC:=hid (HC.out.on hb)
 replace HM:=hid (HM.out.on hb)
 replace Hty:=hid (Hty.out.on hb)
 replace BW:=hid (BW.out.trans (hb.mono BW.out.size))
 clear hb
 clear Hty
 go_wp2_with fail
 refine (RefCk_any l rl krl _ ry_ HM.out (fun _ h=>h) ll SL.out).mono ?_
 rintro e w8 ⟨rfl,hb⟩
 replace HX:=hid (HX.out.on hb)
 replace HY:=hid (HY.out.on hb)
 replace HL:=hid (HL.out.on hb)
 replace HOX:=hid (HOX.out.on hb)
 replace HOY:=hid (HOY.out.on hb)
 replace HC:=hid (HC.out.on hb)
 replace HM:=hid (HM.out.on hb)
 replace BW:=hid (BW.out.trans (hb.mono BW.out.size))
 clear hb
 go_wp2_with fail
 refine (CheckChanges_any l ml kml _ w8 HC.out (fun _ h=>h) ll SL.out).mono ?_
 rintro e w9 ⟨rfl,hb⟩
 replace HX:=hid (HX.out.on hb)
 replace HY:=hid (HY.out.on hb)
 replace HL:=hid (HL.out.on hb)
 replace HOX:=hid (HOX.out.on hb)
 replace HOY:=hid (HOY.out.on hb)
 replace HC:=hid (HC.out.on hb)
 replace HM:=hid (HM.out.on hb)
 replace BW:=hid (BW.out.trans (hb.mono BW.out.size))
 clear hb
 obtain ⟨E1,hE1⟩:∃ E,(if chkY x ≠ 0 then chkY x else chkY y) = E:=⟨_,rfl⟩
 have FI:=first2 (chkY x) (chkY y) w9
 rw [hE1] at FI
 have FIR:=hid FI
 have HE1:=hid hE1
 clear FI hE1
 go_wp2_with fail
 refine FIR.out.mono ?_
 rintro e w10 ⟨rfl,hw9⟩
 have hb:Below w9.heap.size w9 w10:=by rw [hw9];exact (Below.refl _ _).alloc (nl_ _) _
 clear hw9 FIR
 replace HX:=hid (HX.out.on hb)
 replace HY:=hid (HY.out.on hb)
 replace HL:=hid (HL.out.on hb)
 replace HOX:=hid (HOX.out.on hb)
 replace HOY:=hid (HOY.out.on hb)
 replace HC:=hid (HC.out.on hb)
 replace HM:=hid (HM.out.on hb)
 replace BW:=hid (BW.out.trans (hb.mono BW.out.size))
 clear hb
 go_upto_if 62 with fail
 obtain ⟨q,hq⟩:∃ q,(E1 == 0) = q:=⟨_,rfl⟩
 rw [hq]
 have HQ:=hid hq
 clear hq
 go_cut [14,15,17,18,19] from 63 to 107 (fun _ _ _ _ _ wx=>Below w10.heap.size w10 wx)
 case first=>
  have DIF:=Diff_u x y ox oy kox koy _ w10 HOX.out HOY.out (fun _ h=>h) (by omega) (by omega) SMX.out SMY.out (by omega) (by omega) (HT.out.below BW.out)
  cases q
  · have hE:difE x y = E1:=by
     have:=HE1.out
     unfold difE;exact this
    have hD:difL x y = []:=by
     have h1:E1 ≠ 0:=by simpa using HQ.out
     rw [difL,if_neg (by rw [hE];exact h1)]
    rw [hE,hD] at DIF
    have DIF:=hid DIF
    clear hE hD
    go_wp2_with fail
    refine DIF.out.mono ?_
    rintro e wd ⟨ad,cd,rfl,hU,hb⟩
    have HB:=hid hb
    clear hb hU
    go_wp2_with fail
    go_meet
    case rel=>exact HB.out
  · have hck:chkY x = 0∧chkY y = 0:=by
     have h0:E1 = 0:=by simpa using HQ.out
     have:=HE1.out
     rw [h0] at this
     by_cases h:chkY x = 0
     · rw [if_neg (by simpa using h)] at this;exact ⟨h,this⟩
     · rw [if_pos h] at this;exact absurd this h
    have h1:=(difL_eq hck.1 hck.2).1
    have RD:=fun (w':World) (tx ty:Option Addr) (kx ky:Nat) (h:In w' (.slice tx x.len kx) x) (h':In w' (.slice ty y.len ky) y)=>RefDiff_any x y tx ty kx ky w' h h' ⟨by omega,SMX.out,by omega⟩ ⟨by omega,SMY.out,by omega⟩ hck.1 hck.2
    have dck:=dif_ck hck.1 hck.2
    obtain ⟨D,hD⟩:∃ D,difL x y = D:=⟨_,rfl⟩
    rw [hD] at DIF RD dck
    rw [h1] at DIF
    have sd:=ck_sm dck
    have ld:D.length ≤ 1000:=by have:=(ckC_zero dck).1;omega
    have SD:=hid (show SmL3 D from fun z hz=>⟨(sd z hz).1,(sd z hz).2.2.1,(sd z hz).2.2.2⟩)
    have DIF:=hid DIF
    have RDF:=hid RD
    clear hck h1 RD dck hD sd
    go_wp2_with fail
    refine DIF.out.mono ?_
    rintro e v1 ⟨ao,co,rfl,hO,hb⟩
    have HO:=hid (show ChIn v1 _ D from hO.wide fun b hb=>hb.1.2)
    have HU:=hid (hO.wide (S':=US (fun b=>w10.heap.size ≤ b) v1) fun b hb=>⟨hb.1.1,hb.2⟩)
    have BA:=hid hb
    have HX1:=hid (HX.out.on hb)
    have HY1:=hid (HY.out.on hb)
    have KV:=hid (KQ.refl v1)
    clear hO hb DIF
    go_wp2_with fail
    refine (theirs_any (x.cnt + 1) x ax cx _ v1 (Nat.lt_succ_self _) HX1.out (fun _ h=>h) (by omega) SMX.out).mono ?_
    rintro e dx_ ⟨tx,ktx,rfl,hF,hb⟩
    replace KV:=hid (KV.out.trans (KQ.of_below hb))
    replace HX1:=hid (HX1.out.on hb)
    replace HY1:=hid (HY1.out.on hb)
    replace HO:=hid (HO.out.on hb)
    replace BA:=hid (BA.out.trans (hb.mono BA.out.size))
    have Htx:=hid (show In dx_ _ x from FSl.wide hF fun b hb=>hb.2)
    clear hF
    clear hb
    go_wp2_with fail
    refine (theirs_any (y.cnt + 1) y ay cy _ dx_ (Nat.lt_succ_self _) HY1.out (fun _ h=>h) (by omega) SMY.out).mono ?_
    rintro e dy_ ⟨ty,kty,rfl,hF,hb⟩
    replace KV:=hid (KV.out.trans (KQ.of_below hb))
    replace HX1:=hid (HX1.out.on hb)
    replace HY1:=hid (HY1.out.on hb)
    replace HO:=hid (HO.out.on hb)
    replace Htx:=hid (Htx.out.on hb)
    replace BA:=hid (BA.out.trans (hb.mono BA.out.size))
    have Hty:=hid (show In dy_ _ y from FSl.wide hF fun b hb=>hb.2)
    clear hF
    clear hb
    go_wp2_with fail
    refine (RDF.out dy_ tx ty ktx kty Htx.out Hty.out).mono ?_
    rintro e v2 ⟨az,cz,rfl,hW,hb⟩
    replace KV:=hid (KV.out.trans (KQ.of_below hb))
    replace HX1:=hid (HX1.out.on hb)
    replace HY1:=hid (HY1.out.on hb)
    replace HO:=hid (HO.out.on hb)
    replace Htx:=hid (Htx.out.on hb)
    replace Hty:=hid (Hty.out.on hb)
    replace BA:=hid (BA.out.trans (hb.mono BA.out.size))
    have HW:=hid (show ChIn v2 _ D from hW)
    clear hW
    clear hb
    clear Htx Hty
    go_wp2_with fail
    refine (sameChg_any D D ao az co cz _ v2 HO.out HW.out (fun _ h=>h) ld ld SD.out SD.out).mono ?_
    rintro e v3 ⟨rfl,hb⟩
    replace KV:=hid (KV.out.trans (KQ.of_below hb))
    replace HX1:=hid (HX1.out.on hb)
    replace HY1:=hid (HY1.out.on hb)
    replace HO:=hid (HO.out.on hb)
    replace HW:=hid (HW.out.on hb)
    replace BA:=hid (BA.out.trans (hb.mono BA.out.size))
    clear hb
    rw [decide_eq_true (show D = D from rfl)]
    clear HO HW
    obtain ⟨ao',co',e3,_,hcm,hat⟩:=LSl.at HU.out
    obtain ⟨rfl,rfl⟩:ao = ao'∧co = co':=by cases e3;exact ⟨rfl,rfl⟩
    have HAT:=hid hat
    clear hat e3 HU
    go_wp2_with fail
    go_loopw [83] (fun i wr=>∃ k:Nat,k ≤ D.length∧i = .int .i64 k∧Hid (KQ v1 wr)∧Hid (Below w10.heap.size w10 wr)) (fun i _=>D.length - (intOf i).toNat)
    case atStart=>exact ⟨0,by omega,rfl,KV.out,BA.out⟩
    case round=>
     obtain ⟨k,hk,rfl,HK,HB⟩:=hrel
     have hzr:w10.heap.size ≤ wr.heap.size:=HB.out.size
     by_cases hlt:k < D.length
     · have hlt':(k:Int) < (D.length:Int):=by omega
       obtain ⟨g,o,cs1,rfl,hg,⟨ap,cp,a3,c3,a4,c4,rfl,hP,hO,hN⟩,hcl⟩:=HAT.out k hlt
       have b0:=hcl 0 _ rfl
       have b1:=hcl 1 _ rfl
       have b2:=hcl 2 _ rfl
       have b3:=hcl 3 _ rfl
       have b4:=hcl 4 _ rfl
       rw [Nat.add_zero] at b0
       simp only [← Nat.add_assoc] at b1 b2 b3 b4
       have d0:=HK.out.slice b0
       obtain ⟨u1,d1⟩:=HK.out.bool b1
       obtain ⟨u2,d2⟩:=HK.out.bool b2
       have d3:=HK.out.slice b3
       have d4:=HK.out.slice b4
       obtain ⟨z,hz⟩:∃ z,D[k] = z:=⟨_,rfl⟩
       rw [hz] at hP hO hN d0 d3 d4
       obtain ⟨wx,hwx⟩:∃ wx,wr.alloc (.cells #[.slice ap z.p.length cp, .bool u1, .bool u2, .slice a3 z.old.length c3, .slice a4 z.new.length c4] 68) = wx:=⟨_,rfl⟩
       have hbx:Below wr.heap.size wr wx:=by rw [← hwx];exact (Below.refl _ _).alloc (nl_ _) _
       have nb:wx.heap[wr.heap.size]? = some (.cells #[.slice ap z.p.length cp, .bool u1, .bool u2, .slice a3 z.old.length c3, .slice a4 z.new.length c4] 68 (0,0)):=by rw [← hwx];exact heap_alloc_new _ _
       have n0:=cg_ nb (k:=0) (v := .slice ap z.p.length cp) rfl
       have n3:=cg_ nb (k:=3) (v := .slice a3 z.old.length c3) rfl
       have n4:=cg_ nb (k:=4) (v := .slice a4 z.new.length c4) rfl
       have kx:=HK.out.trans (KQ.of_below hbx)
       obtain ⟨wy,hr1,ky,by1⟩:=clear_path 0 hP kx
       obtain ⟨wz,hr2,kz,bz1⟩:=clear_ints 0 hO (kx.trans ky)
       obtain ⟨wv,hr3,kv,bv1⟩:=clear_ints 0 hN ((kx.trans ky).trans kz)
       have m3:=ky.slice n3
       have m4:=kz.slice (ky.slice n4)
       have HKV:=hid (((kx.trans ky).trans kz).trans kv)
       have q0:=hbx.size
       have HBV:=hid (HB.out.trans ((((hbx.mono hzr).trans (by1 _ (fun b hb=>hb))).trans (bz1 _ (fun b hb=>hb))).trans (bv1 _ (fun b hb=>hb))))
       have HWX:=hid hwx
       clear b0 b1 b2 b3 b4 hcl hP hO hN hz hg kx ky kz kv by1 bz1 bv1 nb hbx hwx
       go_wp2_with (rw [HWX.out])
       go_roundw
       case rel=>exact ⟨k + 1,by omega,by go_num,HKV,HBV⟩
       case measure=>simp [intOf];omega
     · obtain rfl:k = D.length:=by omega
       have hlt':¬ (D.length:Int) < (D.length:Int):=by omega
       go_wp2_with fail
       go_meet
       case rel=>exact HB.out
 case rest=>
  obtain ⟨u0,hu0⟩:∃ u,u = wc:=⟨_,rfl⟩
  subst hu0
  have hb:=hcut
  clear hcut HQ
  replace HX:=hid (HX.out.on hb)
  replace HY:=hid (HY.out.on hb)
  replace HL:=hid (HL.out.on hb)
  replace HOX:=hid (HOX.out.on hb)
  replace HOY:=hid (HOY.out.on hb)
  replace HC:=hid (HC.out.on hb)
  replace HM:=hid (HM.out.on hb)
  replace BW:=hid (BW.out.trans (hb.mono BW.out.size))
  clear hb HE1
  obtain ⟨E2,hE2⟩:∃ E,(if chkY x ≠ 0 then chkY x else ckC l) = E:=⟨_,rfl⟩
  have FI:=first2 (chkY x) (ckC l) u0
  rw [hE2] at FI
  have FIR:=hid FI
  have HE2:=hid hE2
  clear FI hE2
  go_wp2_with fail
  refine FIR.out.mono ?_
  rintro e u1 ⟨rfl,hw9⟩
  have hb:Below u0.heap.size u0 u1:=by rw [hw9];exact (Below.refl _ _).alloc (nl_ _) _
  clear hw9 FIR
  replace HX:=hid (HX.out.on hb)
  replace HY:=hid (HY.out.on hb)
  replace HL:=hid (HL.out.on hb)
  replace HOX:=hid (HOX.out.on hb)
  replace HOY:=hid (HOY.out.on hb)
  replace HC:=hid (HC.out.on hb)
  replace HM:=hid (HM.out.on hb)
  replace BW:=hid (BW.out.trans (hb.mono BW.out.size))
  clear hb
  obtain ⟨hsy,hly⟩:=mkY_sm (y:=x) SL.out
  obtain ⟨Y,hY⟩:∃ Y,mkY x l = Y:=⟨_,rfl⟩
  obtain ⟨E3,hE3⟩:∃ E,mkE x l = E:=⟨_,rfl⟩
  rw [hY] at hsy hly
  have HSY:=hid hsy
  have HYY:=hid hY
  have HE3:=hid hE3
  clear hsy hY hE3
  go_upto_if 113 with fail
  obtain ⟨q,hq⟩:∃ q,(E2 == 0) = q:=⟨_,rfl⟩
  rw [hq]
  have HQ:=hid hq
  clear hq
  go_cut [11,20] from 114 to 120 (fun ve vy wx=>ve = .int .i64 E3∧∃ az cz,vy = .slice az Y.len cz∧Hid (In wx (.slice az Y.len cz) Y)∧Hid (Below u1.heap.size u1 wx))
  case first=>
   cases q
   · have h1:E2 ≠ 0:=by simpa using HQ.out
     have hE:E2 = E3:=by
      rw [← HE3.out]
      have:=HE2.out
      unfold mkE
      by_cases h:chkY x = 0
      · rw [if_neg (by simpa using h)] at this ⊢
        rw [if_pos (by rw [this];exact h1)];exact this.symm
      · rw [if_pos h] at this ⊢;exact this.symm
     have hA:Y = .nil:=by rw [← HYY.out,mkY,if_neg (by rw [HE3.out,← hE];exact h1)]
     subst hA
     clear h1
     go_wp2_with fail
     go_meet
     case rel=>exact ⟨by rw [hE],none,0,rfl,⟨[],⟨rfl,none,0,rfl,nl_ _,by simp [maxLen],fun _=>rfl, .inl rfl⟩,rfl⟩,Below.refl _ _⟩
   · have hck:chkY x = 0∧ckC l = 0:=by
      have h0:E2 = 0:=by simpa using HQ.out
      have:=HE2.out
      rw [h0] at this
      by_cases h:chkY x = 0
      · rw [if_neg (by simpa using h)] at this;exact ⟨h,this⟩
      · rw [if_pos h] at this;exact absurd this h
     have HCK:=hid hck
     clear hck
     have BM:=hid (Below.refl u1.heap.size u1)
     go_wp2_with fail
     refine (theirs_any (x.cnt + 1) x ax cx _ u1 (Nat.lt_succ_self _) HX.out (fun _ h=>h) (by omega) SMX.out).mono ?_
     rintro e m1 ⟨tx,ktx,rfl,hF,hb⟩
     replace HX:=hid (HX.out.on hb)
     replace HY:=hid (HY.out.on hb)
     replace HL:=hid (HL.out.on hb)
     replace HOX:=hid (HOX.out.on hb)
     replace HOY:=hid (HOY.out.on hb)
     replace HC:=hid (HC.out.on hb)
     replace HM:=hid (HM.out.on hb)
     replace BW:=hid (BW.out.trans (hb.mono BW.out.size))
     replace BM:=hid (BM.out.trans (hb.mono BM.out.size))
     have Htx:=hid (show In m1 _ x from FSl.wide hF fun b hb=>hb.2)
     clear hF
     clear hb
     go_wp2_with fail
     refine (RefMake_any x l tx rl ktx krl m1 Htx.out HM.out ⟨by omega,SMX.out,by omega⟩ l130 SL3.out HCK.out.1 HCK.out.2).mono ?_
     rintro e m2 ⟨az,cz,rfl,hW,hb⟩
     replace HX:=hid (HX.out.on hb)
     replace HY:=hid (HY.out.on hb)
     replace HL:=hid (HL.out.on hb)
     replace HOX:=hid (HOX.out.on hb)
     replace HOY:=hid (HOY.out.on hb)
     replace HC:=hid (HC.out.on hb)
     replace HM:=hid (HM.out.on hb)
     replace Htx:=hid (Htx.out.on hb)
     replace BW:=hid (BW.out.trans (hb.mono BW.out.size))
     replace BM:=hid (BM.out.trans (hb.mono BM.out.size))
     rw [HYY.out] at hW
     rw [HYY.out,HE3.out]
     have HW:=hid (show In m2 _ Y from hW)
     clear hW
     clear hb
     go_wp2_with fail
     go_meet
     case rel=>exact ⟨rfl,az,cz,rfl,HW,BM⟩
  case rest=>
   obtain ⟨hve,az,cz,hvl,HW,HB9⟩:=hcut
   subst hve hvl
   obtain ⟨u2,hu2⟩:∃ u,u = wc:=⟨_,rfl⟩
   subst hu2
   have hb:=HB9.out
   clear HE2 HQ
   replace HX:=hid (HX.out.on hb)
   replace HY:=hid (HY.out.on hb)
   replace HL:=hid (HL.out.on hb)
   replace HOX:=hid (HOX.out.on hb)
   replace HOY:=hid (HOY.out.on hb)
   replace HC:=hid (HC.out.on hb)
   replace HM:=hid (HM.out.on hb)
   replace BW:=hid (BW.out.trans (hb.mono BW.out.size))
   clear hb HB9
   have MK:=Make_u x l ox ml kox kml _ _ u2 HOX.out (fun _ h=>h) HC.out (fun _ h=>h) (by omega) SMX.out (by omega) ll SL.out
   rw [HYY.out,HE3.out] at MK
   have MKE:=hid MK
   clear MK HE3 HYY
   go_wp2_with fail
   refine MKE.out.mono ?_
   rintro e v1 ⟨am,cm,rfl,hF,hb⟩
   have HMD:=hid (show In v1 _ Y from FSl.wide (FSlU.fsl hF) fun b hb=>hb.2)
   have HU:=hid (FSlU.wide (S':=fun b=>u2.heap.size ≤ b∧b < v1.heap.size) hF fun b hb=>hb)
   have BM:=hid hb
   have HW1:=hid (HW.out.on hb)
   clear hF hb MKE HW
   go_wp2_with fail
   refine (((sameNodes_any (Y.cnt + 1)).2 Y Y am cm az cz _ v1 (Nat.lt_succ_self _) HMD.out HW1.out (fun _ h=>h) (by omega) (by omega) HSY.out HSY.out)).mono ?_
   rintro e v2 ⟨rfl,hb⟩
   replace BM:=hid (BM.out.trans (hb.mono BM.out.size))
   replace HU:=hid (FSlU.wide (S':=fun b=>u2.heap.size ≤ b) (FSlU.agree (S:=fun b=>u2.heap.size ≤ b∧b < v1.heap.size) HU.out fun b hb9=>hb.block b hb9.2) fun b hb=>hb.1)
   rw [decide_eq_true (show Y = Y from rfl)]
   clear HMD HW1
   clear hb
   go_wp2_with fail
   refine (scribble_any (Y.cnt + 1) Y am cm _ u2.heap.size v2 (Nat.lt_succ_self _) HU.out (fun _ h=>h) BM.out.size).mono ?_
   rintro e v3 ⟨rfl,_,hb⟩
   have hb2:=BM.out.trans hb
   have hb:=hb2
   clear hb2
   replace HX:=hid (HX.out.on hb)
   replace HY:=hid (HY.out.on hb)
   replace HL:=hid (HL.out.on hb)
   replace HOX:=hid (HOX.out.on hb)
   replace HOY:=hid (HOY.out.on hb)
   replace HC:=hid (HC.out.on hb)
   replace HM:=hid (HM.out.on hb)
   replace BW:=hid (BW.out.trans (hb.mono BW.out.size))
   clear hb BM HU HSY
   have NHX:=hid HX.out
   have NHY:=hid HY.out
   have NHL:=hid HL.out
   have NHOX:=hid HOX.out
   have NHOY:=hid HOY.out
   have NHC:=hid HC.out
   have NHM:=hid HM.out
   have NBW:=hid BW.out
   have BK:=hid (Back_d l ml kml _ v3 HC.out (fun _ h=>h) ll SL.out)
   go_wp2_with fail
   refine BK.out.mono ?_
   rintro e v4 ⟨ab,cb,cs,rfl,hSl,hD,hb⟩
   have hbb:=hb
   obtain ⟨T,T1,T2,hT⟩:=hD
   have HSl:=hid hSl
   have HTT:=hid hT
   have HT1:=hid T1
   have HV34:=hid hb
   replace HX:=hid (HX.out.on hb)
   replace HY:=hid (HY.out.on hb)
   replace HL:=hid (HL.out.on hb)
   replace HOX:=hid (HOX.out.on hb)
   replace HOY:=hid (HOY.out.on hb)
   replace HC:=hid (HC.out.on hb)
   replace HM:=hid (HM.out.on hb)
   replace BW:=hid (BW.out.trans (hb.mono BW.out.size))
   clear hb hbb hSl hT T1 T2 BK
   obtain ⟨Z,hZ⟩:∃ Z,backL l = Z:=⟨_,rfl⟩
   have hat:∀ k (hk:k < Z.length),∃ h:k < l.length,Z[k] = turnC l[k]:=fun k hk=>by subst hZ;exact back_at hk
   have hz0:ckC l ≠ 0→Z.length = 0:=fun h=>by rw [← hZ,backL,if_neg h];rfl
   have hz1:ckC l = 0→Z.length = l.length:=fun h=>by rw [← hZ,backL,if_pos h,List.length_map]
   rw [hZ] at HSl HTT
   rw [hZ]
   have HATZ:=hid hat
   have HZ0:=hid hz0
   have HZ1:=hid hz1
   clear hZ hat hz0 hz1
   obtain ⟨ec,hec⟩:∃ e,ckC l = e:=⟨_,rfl⟩
   rw [hec] at HZ0 HZ1
   rw [hec]
   clear hec
   go_upto_region 31 with fail
   go_cut [165] from 143 to 164 (fun v wx=>v = .bool false∧wx = v4)
   case first=>
    have hps1:∀ n:Nat,decide ((0:Int) < (n:Int)) = posN n:=fun n=>by simp [posN]
    have hps2:∀ n:Nat,decide (0 < n) = posN n:=fun n=>rfl
    by_cases h0:ec = 0
    · have hzl:=HZ1.out h0
      subst h0
      have hnn:((Z.length:Int) != (l.length:Int)) = false:=by rw [hzl];simp
      clear hzl
      go_wp2_with fail
      go_meet
      case rel=>exact ⟨rfl,rfl⟩
    · have hzl:=HZ0.out h0
      have h0':(ec != 0) = true:=by simpa using h0
      have h0'':(ec == 0) = false:=by simpa using h0
      have hz0:posN Z.length = false:=by rw [hzl];rfl
      clear hzl h0
      go_wp2_with fail
      go_meet
      case rel=>exact ⟨rfl,rfl⟩
   case rest=>
    obtain ⟨hq,hwc⟩:=hcut
    have hwc':=hwc.symm
    subst hwc'
    subst hq
    clear hwc HZ0 HZ1
    obtain ⟨SB,hSB⟩:∃ SB,Rx v3.heap.size v4.heap.size (Value.slice ab Z.length cb) = SB:=⟨_,rfl⟩
    rw [hSB] at HTT
    have HSB1:=hid (show ∀ b,SB b→v3.heap.size ≤ b∧b < v4.heap.size from fun b hb=>by rw [← hSB] at hb;exact ⟨hb.1,hb.2.1⟩)
    have HSB2:=hid (show ∀ b,(Value.slice ab Z.length cb).ownBlock = some b→¬ SB b from fun b h hb=>by rw [← hSB] at hb;exact hb.2.2 h)
    have hz34:v3.heap.size ≤ v4.heap.size:=HV34.out.size
    clear hSB HX HY HL HOX HOY HC HM BW
    obtain ⟨_,_,eb,_,hcb,_⟩:∃ a c,Value.slice ab Z.length cb = .slice a Z.length c∧Z.length ≤ c∧c ≤ maxLen∧True:=by
     obtain ⟨a,c,h1,h2,h3⟩:=SlC.shape HSl.out
     exact ⟨a,c,h1,h2,h3,trivial⟩
    cases eb
    unfold maxLen at hcb
    go_upto_block 2 with fail
    go_cut [24,25] from 168 to 231 (fun _ _ wx=>Below v3.heap.size v4 wx)
    case first=>
     go_wp2_with fail
     go_loopw [168] (fun i wr=>∃ k:Nat,k ≤ Z.length∧i = .int .i64 k∧Hid (KQ v4 wr)∧Hid (Below v3.heap.size v4 wr)∧Hid (∀ b,b < v4.heap.size→(∀ i,i < k→¬ (SB b∧T i b))→wr.heap[b]? = v4.heap[b]?)) (fun i _=>Z.length - (intOf i).toNat)
     case atStart=>exact ⟨0,by omega,rfl,KQ.refl _,Below.refl _ _,fun _ _ _=>rfl⟩
     case round=>
      obtain ⟨k,hk,rfl,HK,HB,INV⟩:=hrel
      have hzr:=HB.out.size
      by_cases hlt:k < Z.length
      · have hlt':(k:Int) < (Z.length:Int):=by omega
        obtain ⟨hkl,hzk⟩:=HATZ.out k hlt
        have hkl':(k:Int) < (l.length:Int):=by omega
        obtain ⟨c,hR,hcc⟩:=LCsT.at k hlt HTT.out
        obtain ⟨g,o,rfl,hg,_,_,hcell⟩:=SlC.cells HSl.out (by omega)
        rw [hzk] at hR
        have AG3:Agree (fun q=>q < v3.heap.size) v3 wr:=fun b hb=>(HB.out.block b hb).trans (HV34.out.block b hb)
        obtain ⟨_,_,e1,_,hm1,hat1⟩:=LSl.at NHM.out
        cases e1
        unfold maxLen at hm1
        obtain ⟨gm,om,csm,rfl,hgm,⟨mp,kp,mo,ko,mn,kn,rfl,mP,mO,mN⟩,mcl⟩:=hat1 k hkl
        obtain ⟨_,_,e2,_,hm2,hat2⟩:=LSl.at NHL.out
        cases e2
        unfold maxLen at hm2
        obtain ⟨gl,ol,csl,rfl,hgl,⟨lp,kp2,lo,ko2,ln,kn2,rfl,lP,lO,lN⟩,lcl⟩:=hat2 k hkl
        have m0:=AG3.cell hgm (mcl 0 _ rfl)
        have l1:=AG3.cell hgl (lcl 1 _ rfl)
        have l2:=AG3.cell hgl (lcl 2 _ rfl)
        have l3:=AG3.cell hgl (lcl 3 _ rfl)
        have l4:=AG3.cell hgl (lcl 4 _ rfl)
        rw [Nat.add_zero] at m0
        simp only [← Nat.add_assoc] at l1 l2 l3 l4
        have hsl3:=SL3.out l[k] (List.getElem_mem hkl)
        obtain ⟨x_,hx_⟩:∃ z,l[k] = z:=⟨_,rfl⟩
        rw [hx_] at hR mP m0 l1 l2 l3 l4 lO lN hsl3
        obtain ⟨ap,cp,ao,co,an,cn,hc5,hP,hO,hN⟩:rdCh.R (US (fun b=>SB b∧T (0 + k) b) v4) v4 ⟨x_.p,x_.has,x_.had,x_.new,x_.old⟩ c:=hR
        simp only at hc5 hP hO hN
        subst hc5
        have AGO:Agree (fun b=>b = g) v4 wr:=fun b hb=>by
         subst hb
         exact INV.out _ hg.1.2 fun i _ h=>HSB2.out _ rfl h.1
        have AGK:Agree (fun b=>SB b∧T (0 + k) b) v4 wr:=fun b hb=>INV.out b (HSB1.out b hb.1).2 fun i hi h=>by
         have:=HT1.out i (0 + k) b h.2 hb.2
         omega
        have d0:=AGO.cell rfl (hcell _ _ (hcc 0 _ rfl))
        have d1:=AGO.cell rfl (hcell _ _ (hcc 1 _ rfl))
        have d2:=AGO.cell rfl (hcell _ _ (hcc 2 _ rfl))
        have d3:=AGO.cell rfl (hcell _ _ (hcc 3 _ rfl))
        have d4:=AGO.cell rfl (hcell _ _ (hcc 4 _ rfl))
        rw [Nat.add_zero] at d0
        simp only [← Nat.add_assoc] at d1 d2 d3 d4
        obtain ⟨wx,hwx⟩:∃ wx,wr.alloc (.cells #[.slice ap x_.p.length cp, .bool x_.has, .bool x_.had, .slice ao x_.new.length co, .slice an x_.old.length cn] 68) = wx:=⟨_,rfl⟩
        have hbx:Below wr.heap.size wr wx:=by rw [← hwx];exact (Below.refl _ _).alloc (nl_ _) _
        have nb:wx.heap[wr.heap.size]? = some (.cells #[.slice ap x_.p.length cp, .bool x_.has, .bool x_.had, .slice ao x_.new.length co, .slice an x_.old.length cn] 68 (0,0)):=by rw [← hwx];exact heap_alloc_new _ _
        have q0:=hbx.size
        have hnx:wr.heap.size < wx.heap.size:=(Array.getElem?_eq_some_iff.1 nb).1
        have hgm':gm < v3.heap.size:=hgm
        have hgl':gl < v3.heap.size:=hgl
        have hbxd:Below wr.heap.size wr wx.drew:=hbx.drew
        have hgm2:gm < wr.heap.size:=by omega
        have hgl2:gl < wr.heap.size:=by omega
        have hS0:wx.drew.cell? ⟨wr.heap.size,0,none⟩ = some (.slice ap x_.p.length cp)∧wx.drew.cell? ⟨wr.heap.size,1,none⟩ = some (.bool x_.has)∧wx.drew.cell? ⟨wr.heap.size,2,none⟩ = some (.bool x_.had)∧wx.drew.cell? ⟨wr.heap.size,3,none⟩ = some (.slice ao x_.new.length co)∧wx.drew.cell? ⟨wr.heap.size,4,none⟩ = some (.slice an x_.old.length cn)∧wx.drew.cell? ⟨gm,om + k * 5,none⟩ = some (.slice mp x_.p.length kp)∧wx.drew.cell? ⟨gl,ol + k * 5 + 1,none⟩ = some (.bool x_.had)∧wx.drew.cell? ⟨gl,ol + k * 5 + 2,none⟩ = some (.bool x_.has)∧wx.drew.cell? ⟨gl,ol + k * 5 + 3,none⟩ = some (.slice lo x_.old.length ko2)∧wx.drew.cell? ⟨gl,ol + k * 5 + 4,none⟩ = some (.slice ln x_.new.length kn2):=⟨cg_ nb (k:=0) rfl,cg_ nb (k:=1) rfl,cg_ nb (k:=2) rfl,cg_ nb (k:=3) rfl,cg_ nb (k:=4) rfl,bc_ hbxd hgm2 m0,bc_ hbxd hgl2 l1,bc_ hbxd hgl2 l2,bc_ hbxd hgl2 l3,bc_ hbxd hgl2 l4⟩
        have HS0:=hid hS0
        have AG3x:Agree (fun q=>q < v3.heap.size) v3 wx.drew:=fun b hb=>(hbx.block b (by have:b < v3.heap.size:=hb;omega)).trans (AG3 b hb)
        have AGKx:Agree (fun b=>SB b∧T (0 + k) b) v4 wx.drew:=fun b hb=>(hbx.block b (by have:=(HSB1.out b hb.1).2;omega)).trans (AGK b hb)
        have MP:=hid ((mP.agree AG3x).wide (S':=fun q=>q < wx.heap.size) fun q hq=>by have:q < v3.heap.size:=hq;omega)
        have LO:=hid ((lO.agree AG3x).wide (S':=fun q=>q < wx.heap.size) fun q hq=>by have:q < v3.heap.size:=hq;omega)
        have LN:=hid ((lN.agree AG3x).wide (S':=fun q=>q < wx.heap.size) fun q hq=>by have:q < v3.heap.size:=hq;omega)
        have OO:=hid (Ints.wide (S':=fun q=>q < wx.heap.size) (IntU.agree hO AGKx) fun q hq=>by have:=(HSB1.out q hq.1.1).2;omega)
        have NN:=hid (Ints.wide (S':=fun q=>q < wx.heap.size) (IntU.agree hN AGKx) fun q hq=>by have:=(HSB1.out q hq.1.1).2;omega)
        have PA:=hid (path_any x_.p ap cp (fun q=>q < wx.heap.size) wx.drew (Pth.wide (PthU.agree hP AGKx) fun q hq=>by have:=(HSB1.out q hq.1.1).2;omega) (fun _ h=>h) hsl3.1)
        have HSL:=hid hsl3
        have UP:=hid hP
        have UO:=hid hO
        have UN:=hid hN
        have HWX:=hid hwx
        have HBX:=hid hbx
        clear hwx hbx nb hS0 AG3x AGKx AG3 AGO AGK hP hO hN mP mO mN lP lO lN hcc hcell hx_ mcl lcl hat1 hat2 hg hzk hsl3 m0 l1 l2 l3 l4
        go_upto_region 36 with (rw [HWX.out])
        try rw [HWX.out]
        clear d0 d1 d2 d3 d4
        refine (wpIn_wide (n:=9)).1 ?_
        refine region_held (fun w':World=>w'.cell? ⟨wr.heap.size,0,none⟩ = some (.slice ap x_.p.length cp)∧w'.cell? ⟨wr.heap.size,1,none⟩ = some (.bool x_.has)∧w'.cell? ⟨wr.heap.size,2,none⟩ = some (.bool x_.had)∧w'.cell? ⟨wr.heap.size,3,none⟩ = some (.slice ao x_.new.length co)∧w'.cell? ⟨wr.heap.size,4,none⟩ = some (.slice an x_.old.length cn)∧w'.cell? ⟨gm,om + k * 5,none⟩ = some (.slice mp x_.p.length kp)∧w'.cell? ⟨gl,ol + k * 5 + 1,none⟩ = some (.bool x_.had)∧w'.cell? ⟨gl,ol + k * 5 + 2,none⟩ = some (.bool x_.has)∧w'.cell? ⟨gl,ol + k * 5 + 3,none⟩ = some (.slice lo x_.old.length ko2)∧w'.cell? ⟨gl,ol + k * 5 + 4,none⟩ = some (.slice ln x_.new.length kn2)) (by kernel_rfl) ?_
        have hS0:=HS0.out
        refine tkY 0 173 (.pointer (some ⟨wr.heap.size,0,none⟩)) rfl rfl hS0 (fun w' hs=>?_) ?_
        · go_simp
        refine tkY 1 174 (.slice ap x_.p.length cp) rfl rfl hS0 (fun w' hs=>?_) ?_
        · obtain ⟨y0,y1,y2,y3,y4,y5,y6,y7,y8,y9⟩:=hs
          go_simp
        refine tkY 3 176 (.slice (some ⟨gm,om,none⟩) l.length krl) rfl rfl hS0 (fun w' hs=>?_) ?_
        · go_simp
        refine tkY 4 177 (.int .i64 k) rfl rfl hS0 (fun w' hs=>?_) ?_
        · go_simp
        refine tkY 5 178 (.pointer (some ⟨gm,om + k * 5,none⟩)) rfl rfl hS0 (fun w' hs=>?_) ?_
        · go_simp
        refine tkY 6 179 (.pointer (some ⟨gm,om + k * 5,none⟩)) rfl rfl hS0 (fun w' hs=>?_) ?_
        · go_simp
        refine tkY 7 180 (.slice mp x_.p.length kp) rfl rfl hS0 (fun w' hs=>?_) ?_
        · obtain ⟨y0,y1,y2,y3,y4,y5,y6,y7,y8,y9⟩:=hs
          go_simp
        refine AnyH_one (i:=2) (by kernel_rfl) rfl (by kernel_rfl) (fun K hK=>?_)
        go_simp
        refine ⟨trivial,(callsIn_wide.2 PA.out).mono ?_⟩
        rintro e w5 ⟨ap1,cp1,rfl,hp5,hb5⟩
        have hxd:wx.drew.heap.size = wx.heap.size:=rfl
        have hS1:w5.cell? ⟨wr.heap.size,0,none⟩ = some (.slice ap x_.p.length cp)∧w5.cell? ⟨wr.heap.size,1,none⟩ = some (.bool x_.has)∧w5.cell? ⟨wr.heap.size,2,none⟩ = some (.bool x_.had)∧w5.cell? ⟨wr.heap.size,3,none⟩ = some (.slice ao x_.new.length co)∧w5.cell? ⟨wr.heap.size,4,none⟩ = some (.slice an x_.old.length cn)∧w5.cell? ⟨gm,om + k * 5,none⟩ = some (.slice mp x_.p.length kp)∧w5.cell? ⟨gl,ol + k * 5 + 1,none⟩ = some (.bool x_.had)∧w5.cell? ⟨gl,ol + k * 5 + 2,none⟩ = some (.bool x_.has)∧w5.cell? ⟨gl,ol + k * 5 + 3,none⟩ = some (.slice lo x_.old.length ko2)∧w5.cell? ⟨gl,ol + k * 5 + 4,none⟩ = some (.slice ln x_.new.length kn2):=⟨bc_ hb5 (by omega) hS0.1,bc_ hb5 (by omega) hS0.2.1,bc_ hb5 (by omega) hS0.2.2.1,bc_ hb5 (by omega) hS0.2.2.2.1,bc_ hb5 (by omega) hS0.2.2.2.2.1,bc_ hb5 (by omega) hS0.2.2.2.2.2.1,bc_ hb5 (by omega) hS0.2.2.2.2.2.2.1,bc_ hb5 (by omega) hS0.2.2.2.2.2.2.2.1,bc_ hb5 (by omega) hS0.2.2.2.2.2.2.2.2.1,bc_ hb5 (by omega) hS0.2.2.2.2.2.2.2.2.2⟩
        have z5:wx.heap.size ≤ w5.heap.size:=hb5.size
        have B5:=hid (show Below wx.heap.size wx.drew w5 from hb5)
        have SMt:=(Same_any x_.p x_.p ap1 mp cp1 kp (fun q=>q < w5.heap.size) w5 (hp5.wide fun q hq=>hq.2) ((MP.out.agree (Ag_b hb5 fun _ h=>h)).wide fun q hq=>by omega) (by have:=HSL.out.1;omega) (by have:=HSL.out.1;omega))
        rw [decide_eq_true (show x_.p = x_.p from rfl)] at SMt
        have SM:=hid SMt
        clear hb5 hp5 SMt
        clear hxd
        refine hK _ _ ⟨hS1,?_⟩
        clear hK
        refine AnyH_one (i:=8) (by kernel_rfl) rfl (by kernel_rfl) (fun K hK=>?_)
        go_simp
        refine ⟨trivial,(callsIn_wide.2 SM.out).mono ?_⟩
        rintro e w6 ⟨rfl,hb6⟩
        have hxd:wx.drew.heap.size = wx.heap.size:=rfl
        have hS2:w6.cell? ⟨wr.heap.size,0,none⟩ = some (.slice ap x_.p.length cp)∧w6.cell? ⟨wr.heap.size,1,none⟩ = some (.bool x_.has)∧w6.cell? ⟨wr.heap.size,2,none⟩ = some (.bool x_.had)∧w6.cell? ⟨wr.heap.size,3,none⟩ = some (.slice ao x_.new.length co)∧w6.cell? ⟨wr.heap.size,4,none⟩ = some (.slice an x_.old.length cn)∧w6.cell? ⟨gm,om + k * 5,none⟩ = some (.slice mp x_.p.length kp)∧w6.cell? ⟨gl,ol + k * 5 + 1,none⟩ = some (.bool x_.had)∧w6.cell? ⟨gl,ol + k * 5 + 2,none⟩ = some (.bool x_.has)∧w6.cell? ⟨gl,ol + k * 5 + 3,none⟩ = some (.slice lo x_.old.length ko2)∧w6.cell? ⟨gl,ol + k * 5 + 4,none⟩ = some (.slice ln x_.new.length kn2):=⟨bc_ hb6 (by omega) hS1.1,bc_ hb6 (by omega) hS1.2.1,bc_ hb6 (by omega) hS1.2.2.1,bc_ hb6 (by omega) hS1.2.2.2.1,bc_ hb6 (by omega) hS1.2.2.2.2.1,bc_ hb6 (by omega) hS1.2.2.2.2.2.1,bc_ hb6 (by omega) hS1.2.2.2.2.2.2.1,bc_ hb6 (by omega) hS1.2.2.2.2.2.2.2.1,bc_ hb6 (by omega) hS1.2.2.2.2.2.2.2.2.1,bc_ hb6 (by omega) hS1.2.2.2.2.2.2.2.2.2⟩
        have z6:w5.heap.size ≤ w6.heap.size:=hb6.size
        have B6:=hid (B5.out.trans (hb6.mono z5))
        have EOt:=(eqInts_any x_.new x_.new ao ln co kn2 (fun q=>q < wx.heap.size) w6 (OO.out.agree (Ag_b B6.out fun _ h=>h)) (LN.out.agree (Ag_b B6.out fun _ h=>h)) (by have:=HSL.out.2.2;omega) (by have:=HSL.out.2.2;omega))
        rw [decide_eq_true (show x_.new = x_.new from rfl)] at EOt
        have EO:=hid EOt
        clear hb6 SM EOt
        clear hxd
        refine hK _ _ ⟨hS2,?_⟩
        clear hK
        refine tkY 9 182 (.bool false) rfl rfl hS2 (fun w' hs=>?_) ?_
        · go_simp
        refine tkY 10 183 (.bool false) rfl rfl hS2 (fun w' hs=>?_) ?_
        · go_simp
        refine tkY 11 184 (.pointer (some ⟨wr.heap.size,1,none⟩)) rfl rfl hS2 (fun w' hs=>?_) ?_
        · go_simp
        refine tkY 12 185 (.bool x_.has) rfl rfl hS2 (fun w' hs=>?_) ?_
        · obtain ⟨y0,y1,y2,y3,y4,y5,y6,y7,y8,y9⟩:=hs
          go_simp
        refine tkY 13 186 (.slice (some ⟨gl,ol,none⟩) l.length cl) rfl rfl hS2 (fun w' hs=>?_) ?_
        · go_simp
        go_simp
        refine tkY 14 187 (.int .i64 k) rfl rfl hS2 (fun w' hs=>?_) ?_
        · go_simp
        refine tkY 15 188 (.pointer (some ⟨gl,ol + k * 5,none⟩)) rfl rfl hS2 (fun w' hs=>?_) ?_
        · go_simp
        refine tkY 16 189 (.pointer (some ⟨gl,ol + k * 5 + 2,none⟩)) rfl rfl hS2 (fun w' hs=>?_) ?_
        · go_simp
        refine tkY 17 190 (.bool x_.has) rfl rfl hS2 (fun w' hs=>?_) ?_
        · obtain ⟨y0,y1,y2,y3,y4,y5,y6,y7,y8,y9⟩:=hs
          go_simp
        refine tkY 18 191 (.bool false) rfl rfl hS2 (fun w' hs=>?_) ?_
        · go_simp
        refine tkY 19 192 (.bool false) rfl rfl hS2 (fun w' hs=>?_) ?_
        · go_simp
        go_simp
        refine tkY 20 193 (.bool false) rfl rfl hS2 (fun w' hs=>?_) ?_
        · go_simp
        refine tkY 21 194 (.pointer (some ⟨wr.heap.size,2,none⟩)) rfl rfl hS2 (fun w' hs=>?_) ?_
        · go_simp
        refine tkY 22 195 (.bool x_.had) rfl rfl hS2 (fun w' hs=>?_) ?_
        · obtain ⟨y0,y1,y2,y3,y4,y5,y6,y7,y8,y9⟩:=hs
          go_simp
        refine tkY 23 196 (.slice (some ⟨gl,ol,none⟩) l.length cl) rfl rfl hS2 (fun w' hs=>?_) ?_
        · go_simp
        go_simp
        refine tkY 24 197 (.int .i64 k) rfl rfl hS2 (fun w' hs=>?_) ?_
        · go_simp
        refine tkY 25 198 (.pointer (some ⟨gl,ol + k * 5,none⟩)) rfl rfl hS2 (fun w' hs=>?_) ?_
        · go_simp
        refine tkY 26 199 (.pointer (some ⟨gl,ol + k * 5 + 1,none⟩)) rfl rfl hS2 (fun w' hs=>?_) ?_
        · go_simp
        refine tkY 27 200 (.bool x_.had) rfl rfl hS2 (fun w' hs=>?_) ?_
        · obtain ⟨y0,y1,y2,y3,y4,y5,y6,y7,y8,y9⟩:=hs
          go_simp
        refine tkY 28 201 (.bool false) rfl rfl hS2 (fun w' hs=>?_) ?_
        · go_simp
        refine tkY 29 202 (.bool false) rfl rfl hS2 (fun w' hs=>?_) ?_
        · go_simp
        go_simp
        refine tkY 30 203 (.bool false) rfl rfl hS2 (fun w' hs=>?_) ?_
        · go_simp
        refine tkY 31 204 (.pointer (some ⟨wr.heap.size,3,none⟩)) rfl rfl hS2 (fun w' hs=>?_) ?_
        · go_simp
        refine tkY 32 205 (.slice ao x_.new.length co) rfl rfl hS2 (fun w' hs=>?_) ?_
        · obtain ⟨y0,y1,y2,y3,y4,y5,y6,y7,y8,y9⟩:=hs
          go_simp
        refine tkY 33 206 (.slice (some ⟨gl,ol,none⟩) l.length cl) rfl rfl hS2 (fun w' hs=>?_) ?_
        · go_simp
        go_simp
        refine tkY 34 207 (.int .i64 k) rfl rfl hS2 (fun w' hs=>?_) ?_
        · go_simp
        refine tkY 35 208 (.pointer (some ⟨gl,ol + k * 5,none⟩)) rfl rfl hS2 (fun w' hs=>?_) ?_
        · go_simp
        refine tkY 36 209 (.pointer (some ⟨gl,ol + k * 5 + 4,none⟩)) rfl rfl hS2 (fun w' hs=>?_) ?_
        · go_simp
        refine tkY 37 210 (.slice ln x_.new.length kn2) rfl rfl hS2 (fun w' hs=>?_) ?_
        · obtain ⟨y0,y1,y2,y3,y4,y5,y6,y7,y8,y9⟩:=hs
          go_simp
        refine AnyH_one (i:=38) (by kernel_rfl) rfl (by kernel_rfl) (fun K hK=>?_)
        go_simp
        refine ⟨trivial,(callsIn_wide.2 EO.out).mono ?_⟩
        rintro e w7 ⟨rfl,hb7⟩
        have hxd:wx.drew.heap.size = wx.heap.size:=rfl
        have hS3:w7.cell? ⟨wr.heap.size,0,none⟩ = some (.slice ap x_.p.length cp)∧w7.cell? ⟨wr.heap.size,1,none⟩ = some (.bool x_.has)∧w7.cell? ⟨wr.heap.size,2,none⟩ = some (.bool x_.had)∧w7.cell? ⟨wr.heap.size,3,none⟩ = some (.slice ao x_.new.length co)∧w7.cell? ⟨wr.heap.size,4,none⟩ = some (.slice an x_.old.length cn)∧w7.cell? ⟨gm,om + k * 5,none⟩ = some (.slice mp x_.p.length kp)∧w7.cell? ⟨gl,ol + k * 5 + 1,none⟩ = some (.bool x_.had)∧w7.cell? ⟨gl,ol + k * 5 + 2,none⟩ = some (.bool x_.has)∧w7.cell? ⟨gl,ol + k * 5 + 3,none⟩ = some (.slice lo x_.old.length ko2)∧w7.cell? ⟨gl,ol + k * 5 + 4,none⟩ = some (.slice ln x_.new.length kn2):=⟨bc_ hb7 (by omega) hS2.1,bc_ hb7 (by omega) hS2.2.1,bc_ hb7 (by omega) hS2.2.2.1,bc_ hb7 (by omega) hS2.2.2.2.1,bc_ hb7 (by omega) hS2.2.2.2.2.1,bc_ hb7 (by omega) hS2.2.2.2.2.2.1,bc_ hb7 (by omega) hS2.2.2.2.2.2.2.1,bc_ hb7 (by omega) hS2.2.2.2.2.2.2.2.1,bc_ hb7 (by omega) hS2.2.2.2.2.2.2.2.2.1,bc_ hb7 (by omega) hS2.2.2.2.2.2.2.2.2.2⟩
        have z7:w6.heap.size ≤ w7.heap.size:=hb7.size
        have B7:=hid (B6.out.trans (hb7.mono (by omega)))
        have ENt:=(eqInts_any x_.old x_.old an lo cn ko2 (fun q=>q < wx.heap.size) w7 (NN.out.agree (Ag_b B7.out fun _ h=>h)) (LO.out.agree (Ag_b B7.out fun _ h=>h)) (by have:=HSL.out.2.1;omega) (by have:=HSL.out.2.1;omega))
        rw [decide_eq_true (show x_.old = x_.old from rfl)] at ENt
        have EN:=hid ENt
        clear hb7 EO ENt
        clear hxd
        refine hK _ _ ⟨hS3,?_⟩
        clear hK
        refine tkY 39 212 (.bool false) rfl rfl hS3 (fun w' hs=>?_) ?_
        · go_simp
        refine tkY 40 213 (.bool false) rfl rfl hS3 (fun w' hs=>?_) ?_
        · go_simp
        refine tkY 41 214 (.bool false) rfl rfl hS3 (fun w' hs=>?_) ?_
        · go_simp
        refine tkY 42 215 (.pointer (some ⟨wr.heap.size,4,none⟩)) rfl rfl hS3 (fun w' hs=>?_) ?_
        · go_simp
        refine tkY 43 216 (.slice an x_.old.length cn) rfl rfl hS3 (fun w' hs=>?_) ?_
        · obtain ⟨y0,y1,y2,y3,y4,y5,y6,y7,y8,y9⟩:=hs
          go_simp
        refine tkY 44 217 (.slice (some ⟨gl,ol,none⟩) l.length cl) rfl rfl hS3 (fun w' hs=>?_) ?_
        · go_simp
        go_simp
        refine tkY 45 218 (.int .i64 k) rfl rfl hS3 (fun w' hs=>?_) ?_
        · go_simp
        refine tkY 46 219 (.pointer (some ⟨gl,ol + k * 5,none⟩)) rfl rfl hS3 (fun w' hs=>?_) ?_
        · go_simp
        refine tkY 47 220 (.pointer (some ⟨gl,ol + k * 5 + 3,none⟩)) rfl rfl hS3 (fun w' hs=>?_) ?_
        · go_simp
        refine tkY 48 221 (.slice lo x_.old.length ko2) rfl rfl hS3 (fun w' hs=>?_) ?_
        · obtain ⟨y0,y1,y2,y3,y4,y5,y6,y7,y8,y9⟩:=hs
          go_simp
        refine AnyH_one (i:=49) (by kernel_rfl) rfl (by kernel_rfl) (fun K hK=>?_)
        go_simp
        refine ⟨trivial,(callsIn_wide.2 EN.out).mono ?_⟩
        rintro e w8 ⟨rfl,hb8⟩
        have hxd:wx.drew.heap.size = wx.heap.size:=rfl
        have hS4:w8.cell? ⟨wr.heap.size,0,none⟩ = some (.slice ap x_.p.length cp)∧w8.cell? ⟨wr.heap.size,1,none⟩ = some (.bool x_.has)∧w8.cell? ⟨wr.heap.size,2,none⟩ = some (.bool x_.had)∧w8.cell? ⟨wr.heap.size,3,none⟩ = some (.slice ao x_.new.length co)∧w8.cell? ⟨wr.heap.size,4,none⟩ = some (.slice an x_.old.length cn)∧w8.cell? ⟨gm,om + k * 5,none⟩ = some (.slice mp x_.p.length kp)∧w8.cell? ⟨gl,ol + k * 5 + 1,none⟩ = some (.bool x_.had)∧w8.cell? ⟨gl,ol + k * 5 + 2,none⟩ = some (.bool x_.has)∧w8.cell? ⟨gl,ol + k * 5 + 3,none⟩ = some (.slice lo x_.old.length ko2)∧w8.cell? ⟨gl,ol + k * 5 + 4,none⟩ = some (.slice ln x_.new.length kn2):=⟨bc_ hb8 (by omega) hS3.1,bc_ hb8 (by omega) hS3.2.1,bc_ hb8 (by omega) hS3.2.2.1,bc_ hb8 (by omega) hS3.2.2.2.1,bc_ hb8 (by omega) hS3.2.2.2.2.1,bc_ hb8 (by omega) hS3.2.2.2.2.2.1,bc_ hb8 (by omega) hS3.2.2.2.2.2.2.1,bc_ hb8 (by omega) hS3.2.2.2.2.2.2.2.1,bc_ hb8 (by omega) hS3.2.2.2.2.2.2.2.2.1,bc_ hb8 (by omega) hS3.2.2.2.2.2.2.2.2.2⟩
        have z8:w7.heap.size ≤ w8.heap.size:=hb8.size
        have B8:=hid (B7.out.trans (hb8.mono (by omega)))
        clear hb8 EN
        clear hxd
        refine hK _ _ ⟨hS4,?_⟩
        clear hK
        refine tkY 50 223 (.bool false) rfl rfl hS4 (fun w' hs=>?_) ?_
        · go_simp
        refine tkY 51 224 (.bool false) rfl rfl hS4 (fun w' hs=>?_) ?_
        · go_simp
        refine AnyH_done (by kernel_rfl) ?_
        go_simp
        obtain ⟨n0,_,_,n3,n4,_⟩:=hS4
        clear hS0 hS1 hS2 hS3
        replace B8:=hid (show Below wx.heap.size wx w8 from (Below.refl _ _).drew.trans B8.out)
        have kx:=HK.out.trans ((KQ.of_below HBX.out).trans (KQ.of_below B8.out))
        obtain ⟨wA,hr1,kA,bA1,oA⟩:=clear_path2 0 UP.out kx
        obtain ⟨wB,hr2,kB,bB1,oB⟩:=clear_ints2 0 UO.out (kx.trans kA)
        obtain ⟨wC,hr3,kC,bC1,oC⟩:=clear_ints2 0 UN.out ((kx.trans kA).trans kB)
        have m3:=kA.slice n3
        have m4:=kB.slice (kA.slice n4)
        have HKV:=hid (((kx.trans kA).trans kB).trans kC)
        have hlow:∀ b,(SB b∧T (0 + k) b)→v3.heap.size ≤ b:=fun b hb=>(HSB1.out b hb.1).1
        have HBV:=hid (HB.out.trans ((((HBX.out.trans (B8.out.mono (by omega))).mono (by omega)).trans (bA1 _ hlow)).trans ((bB1 _ hlow).trans (bC1 _ hlow))))
        have INV2:Hid (∀ b,b < v4.heap.size→(∀ i,i < k + 1→¬ (SB b∧T i b))→wC.heap[b]? = v4.heap[b]?):=fun b hb hi=>by
         have hn:¬ (SB b∧T (0 + k) b):=by rw [Nat.zero_add];exact hi k (by omega)
         exact (oC b hn).trans ((oB b hn).trans ((oA b hn).trans ((B8.out.block b (by omega)).trans ((HBX.out.block b (by omega)).trans (INV.out b hb fun i h=>hi i (by omega))))))
        clear kx kA kB kC bA1 bB1 bC1 oA oB oC hlow
        go_wp2_with fail
        go_roundw
        case rel=>exact ⟨k + 1,by omega,by go_num,HKV,HBV,INV2⟩
        case measure=>simp [intOf];omega
      · obtain rfl:k = Z.length:=by omega
        have hlt':¬ (Z.length:Int) < (Z.length:Int):=by omega
        go_wp2_with fail
        go_meet
        case rel=>exact HB.out
    case rest=>
     have hbl:=hcut
     obtain ⟨v5,hv5⟩:∃ v,v = wc:=⟨_,rfl⟩
     subst hv5
     have hb:Below v3.heap.size v3 v5:=HV34.out.trans hbl
     have PX:=hid (NHX.out.on hb)
     have PY:=hid (NHY.out.on hb)
     have PL:=hid (NHL.out.on hb)
     have POX:=hid (NHOX.out.on hb)
     have POY:=hid (NHOY.out.on hb)
     have PC:=hid (NHC.out.on hb)
     have BW:=hid (NBW.out.trans (hb.mono NBW.out.size))
     clear hbl hcut hb HSl HTT HATZ
     go_wp2_with fail
     refine (((alike_any (x.cnt + 1)).2 x x ox kox ax cx _ v5 (Nat.lt_succ_self _) POX.out PX.out (fun _ h=>h) (by omega) (by omega) SMX.out SMX.out)).mono ?_
     rintro e v6 ⟨rfl,hb⟩
     replace PX:=hid (PX.out.on hb)
     replace PY:=hid (PY.out.on hb)
     replace PL:=hid (PL.out.on hb)
     replace POX:=hid (POX.out.on hb)
     replace POY:=hid (POY.out.on hb)
     replace PC:=hid (PC.out.on hb)
     replace BW:=hid (BW.out.trans (hb.mono BW.out.size))
     rw [decide_eq_true (show x = x from rfl)]
     clear hb
     go_wp2_with fail
     refine (((alike_any (y.cnt + 1)).2 y y oy koy ay cy _ v6 (Nat.lt_succ_self _) POY.out PY.out (fun _ h=>h) (by omega) (by omega) SMY.out SMY.out)).mono ?_
     rintro e v7 ⟨rfl,hb⟩
     replace PX:=hid (PX.out.on hb)
     replace PY:=hid (PY.out.on hb)
     replace PL:=hid (PL.out.on hb)
     replace POX:=hid (POX.out.on hb)
     replace POY:=hid (POY.out.on hb)
     replace PC:=hid (PC.out.on hb)
     replace BW:=hid (BW.out.trans (hb.mono BW.out.size))
     rw [decide_eq_true (show y = y from rfl)]
     clear hb
     go_wp2_with fail
     refine (unch_c l ml al kml cl v7 PC.out PL.out ll SL.out).mono ?_
     rintro e v8 ⟨rfl,hb⟩
     replace PX:=hid (PX.out.on hb)
     replace PY:=hid (PY.out.on hb)
     replace PL:=hid (PL.out.on hb)
     replace POX:=hid (POX.out.on hb)
     replace POY:=hid (POY.out.on hb)
     replace PC:=hid (PC.out.on hb)
     replace BW:=hid (BW.out.trans (hb.mono BW.out.size))
     clear hb
     go_wp2_with fail
     refine (awake_any v8 (HT.out.below BW.out)).mono ?_
     rintro e v9 ⟨rfl,hb⟩
     replace PX:=hid (PX.out.on hb)
     replace PY:=hid (PY.out.on hb)
     replace PL:=hid (PL.out.on hb)
     replace POX:=hid (POX.out.on hb)
     replace POY:=hid (POY.out.on hb)
     replace PC:=hid (PC.out.on hb)
     replace BW:=hid (BW.out.trans (hb.mono BW.out.size))
     clear hb
     go_wp2_with fail
     go_ret
     exact ⟨rfl,BW.out⟩
end Go.Proofs.LF
