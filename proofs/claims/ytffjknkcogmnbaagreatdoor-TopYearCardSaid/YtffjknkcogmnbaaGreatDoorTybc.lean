/- Parts of the proof of a law of layer 11 (file): LbS5. The conditions stand in each theorem. -/
import Derived.Test.YtffjknkcogmnbaaGreatDoorProg
import Derived.Test.YtffjknkcogmnbaaGreatDoorTyay
import Derived.Test.YtffjknkcogmnbaaGreatDoorTyba
set_option linter.all false
set_option linter.unusedVariables false
set_option linter.unusedSimpArgs false
namespace Go.Proofs.LS
open Go.RowKit Go.Sort Go.Proofs.LF Go.Proofs.LB
set_option maxHeartbeats 4000000
set_option maxRecDepth 100000
attribute [local go_sem] q1_ q2_ q8_
def st0:St:=⟨0,0,0,0,0,0,0⟩
def rchN (S:List St) (n t k:Nat):Bool:=(List.range n).any fun i=>decide ((S.getD i st0).t = (t:Int)) && decide (i ≤ k + 1) && decide (k ≤ i + 1)
def fM (S:List St) (n t k:Nat):Bool:=decide (k < S.length) && rchN S n t k
def fI (S:List St) (i j t k:Nat):Bool:=decide (k < S.length) && (rchN S i t k || (decide ((S.getD i st0).t = (t:Int)) && decide (i ≤ k + 1) && decide (k + 1 < i + j)))
theorem fI_zero (S:List St) (i t k:Nat):fI S i 0 t k = fM S i t k:=by
 rw [fI,fM]
 by_cases h:i ≤ k + 1
 · have h2:decide (k + 1 < i + 0) = false:=decide_eq_false (by omega)
   rw [h2,Bool.and_false,Bool.or_false]
 · rw [decide_eq_false h,Bool.and_false,Bool.false_and,Bool.or_false]
theorem fI_three (S:List St) (i t k:Nat):fI S i 3 t k = fM S (i + 1) t k:=by
 rw [fI,fM,rchN,rchN,List.range_succ,List.any_append]
 congr 1
 rw [show decide (k + 1 < i + 3) = decide (k ≤ i + 1) from decide_eq_decide.2 (by omega)]
 simp
theorem fI_put (S:List St) (i j tn kn:Nat) (ht:(S.getD i st0).t = (tn:Int)) (hk:kn < S.length) (hj:i + j = kn + 1) (t k:Nat):(fI S i j t k || (decide (t = tn) && decide (k = kn))) = fI S i (j + 1) t k:=by
 rw [fI,fI,ht]
 by_cases e:k = kn
 · subst e
   have h1:¬ k + 1 < i + j:=by omega
   have h2:k + 1 < i + (j + 1):=by omega
   by_cases e2:t = tn
   · subst e2
     by_cases h3:i ≤ k + 1
     · simp [hk,h2,h3]
     · omega
   · have e3:¬ (tn:Int) = (t:Int):=by omega
     simp [e2,e3]
 · have h1:decide (k + 1 < i + j) = decide (k + 1 < i + (j + 1)):=decide_eq_decide.2 (by omega)
   simp [e,h1]
theorem fI_skip (S:List St) (i j t k:Nat) (h:∀ kn:Nat,i + j = kn + 1→¬ kn < S.length):fI S i j t k = fI S i (j + 1) t k:=by
 rw [fI,fI]
 by_cases hk:k < S.length
 · have h1:decide (k + 1 < i + j) = decide (k + 1 < i + (j + 1)):=decide_eq_decide.2 (by
    have:=h k
    omega)
   rw [h1]
 · simp [hk]
theorem vh_ (S:List St) (C:List Sp) (as_ ac:Option Addr) (cs_ cc:Nat) (B:Nat→Prop) (w:World) (hs:LSl rdSt B w (.slice as_ S.length cs_) S) (hc:LSl rdSp B w (.slice ac C.length cc) C) (hB:∀ b,B b→b < w.heap.size) (hO:OkSc S C) :
 Calls Tryz.prog 66 #[.agg #[.slice as_ S.length cs_, .slice ac C.length cc]] w fun e w'=>∃ M,e = .returned (.tuple #[.pointer (some ⟨M + 1,0,none⟩), .int .i64 0])∧w.heap.size ≤ M∧w'.heap[M + 1]? = some (.cells #[.slice as_ S.length cs_, .slice ac C.length cc, .map (some M)] 221 (0,0))∧(∃ n,kK_ M n (fM S S.length) w')∧Below w.heap.size w w':=by
 obtain ⟨w1,hw1⟩:∃ w1,w.alloc (.cells #[.slice as_ S.length cs_, .slice ac C.length cc] 60) = w1:=⟨_,rfl⟩
 have hb1:Below w.heap.size w w1:=by rw [← hw1];exact (Below.refl _ _).alloc (nl_ _) _
 have BN:=hid (show w1.heap[w.heap.size]? = some (.cells #[.slice as_ S.length cs_, .slice ac C.length cc] 60 (0,0)) by rw [← hw1];exact ha_ _ _)
 have CK:=hid (x3_ S C as_ ac cs_ cc B w1 (hs.agree (qc_ hb1 hB)) (hc.agree (qc_ hb1 hB)) (fun b hb=>by have:=hB b hb;have:=hb1.size;omega) hO)
 have BW:=hid hb1
 have HSs:=hid hs
 have HB:=hid hB
 have HO:=hid hO
 have h6:=hO.s
 have h5:=hO.c
 clear hb1 hs hc hB hO
 obtain ⟨ba,hba⟩:∃ b,w.heap.size = b:=⟨_,rfl⟩
 rw [hba] at BN
 have hlba:ba < w1.heap.size:=(ge_ BN.out).1
 have b0:=cg_ BN.out (k:=0) (v := .slice as_ S.length cs_) rfl
 have b1:=cg_ BN.out (k:=1) (v := .slice ac C.length cc) rfl
 go_enter Tryz.func66,Tryz.ntmps66
 go_upto_region 1 with fail
 try rw [hw1]
 try simp only [hba]
 clear hw1
 go_wp2_with fail
 refine CK.out.mono ?_
 rintro e w2 ⟨rfl,hb⟩
 clear b0 b1 CK
 replace BN:=hid (q0_ BN.out hb)
 replace BW:=hid (BW.out.trans (hb.mono BW.out.size))
 have hlb2:ba < w2.heap.size:=Nat.lt_of_lt_of_le hlba hb.size
 clear hb
 obtain ⟨w3,hw3⟩:∃ w3,w2.alloc (.map #[] 0) = w3:=⟨_,rfl⟩
 have hb3:Below w2.heap.size w2 w3:=by rw [← hw3];exact (Below.refl _ _).alloc (nl_ _) _
 have hM3:=kK_.made w2
 rw [hw3] at hM3
 obtain ⟨M,hM⟩:∃ M,w2.heap.size = M:=⟨_,rfl⟩
 rw [hM] at hM3
 have hz3:w3.heap.size = M + 1:=by rw [← hw3,← hM];simp
 obtain ⟨w4,hw4⟩:∃ w4,w3.alloc (.cells #[.slice as_ S.length cs_, .slice ac C.length cc, .map (some M)] 221) = w4:=⟨_,rfl⟩
 have hb4:Below w3.heap.size w3 w4:=by rw [← hw4];exact (Below.refl _ _).alloc (nl_ _) _
 have hz4:w4.heap.size = M + 2:=by rw [← hw4];simp [hz3]
 have DN:Hid (w4.heap[M + 1]? = some (.cells #[.slice as_ S.length cs_, .slice ac C.length cc, .map (some M)] 221 (0,0))):=by rw [← hw4,← hz3];exact ha_ _ _
 have ML4:Hid (kK_ M 0 (fM S 0) w4):=by
  have:=hM3.kept (hb4.block M hM3.lt)
  rwa [show (fun _ _=>false) = fM S 0 from by funext t k;simp [fM,rchN]] at this
 have BB:Hid (Below M w2 w4):=by rw [← hM];exact hb3.trans (hb4.mono (by rw [hz3];omega))
 have b0:=cg_ BN.out (k:=0) (v := .slice as_ S.length cs_) rfl
 have b1:=cg_ BN.out (k:=1) (v := .slice ac C.length cc) rfl
 have BN4:=hid ((BB.out.block ba (by omega)).trans BN.out)
 have hz3':=hid hz3
 have hz4':=hid hz4
 have HM:=hid hM
 clear hz3 hz4 hb3 hb4 hM3
 have hmm:=@run_makeMap Tryz.prog
 go_upto_region 5 with fail
 rw [hz3'.out]
 clear hmm b0 b1 BN hw3 hw4 hM hba hz3'
 have b0:=cg_ BN4.out (k:=0) (v := .slice as_ S.length cs_) rfl
 obtain ⟨_,_,he,_,hmm,hat⟩:=LSl.at HSs.out
 cases he
 unfold maxLen at hmm
 have HAT:=hid hat
 clear hat
 go_wp2_with fail
 go_loopw [21] (fun vi wr=>∃ i n:Nat,i ≤ S.length∧vi = .int .i64 i∧n ≤ 3 * i∧Hid (kK_ M n (fM S i) wr)∧Hid (wr.heap[M + 1]? = some (.cells #[.slice as_ S.length cs_, .slice ac C.length cc, .map (some M)] 221 (0,0)))∧Hid (wr.heap[ba]? = some (.cells #[.slice as_ S.length cs_, .slice ac C.length cc] 60 (0,0)))∧Hid (M + 2 ≤ wr.heap.size)∧Hid (Below M w2 wr)) (fun vi _=>S.length - (intOf vi).toNat)
 case atStart=>exact ⟨0,0,by omega,rfl,by omega,ML4,DN,BN4,by have:=hz4'.out;exact Nat.le_of_eq this.symm,BB⟩
 case round=>
  obtain ⟨i,n,hi,rfl,hni,HML,HDN,HBN,HZ,HBb⟩:=hrel
  have i1:(0:Int) ≤ (i:Int):=by omega
  by_cases hlt:i < S.length
  · have hlt':(i:Int) < (S.length:Int):=by omega
    obtain ⟨g,o,cs1,rfl,hg,hc,hcell⟩:=HAT.out i hlt
    have hc:cs1 = (stC S[i]).toList:=hc
    have hgd:S.getD i st0 = S[i]:=by simp [List.getD_eq_getElem?_getD,List.getElem?_eq_getElem hlt]
    have hte:=HO.out.te S[i] (List.getElem_mem hlt)
    obtain ⟨x,hx⟩:∃ x,S[i] = x:=⟨_,rfl⟩
    rw [hx] at hc hgd hte
    subst hc
    obtain ⟨tn,htn0⟩:∃ tn:Nat,x.t = (tn:Int):=⟨x.t.toNat,by omega⟩
    have htn5:tn ≤ 1000:=by omega
    have htn:=hid htn0
    clear htn0
    have hgl:=HB.out g hg
    have hwM:w.heap.size ≤ M:=by rw [← HM.out];exact BW.out.size
    have hbw:=BW.out.trans (HBb.out.mono hwM)
    have e0:=hcell 0 _ rfl
    have e1:=hcell 1 _ rfl
    have e2:=hcell 2 _ rfl
    have e3:=hcell 3 _ rfl
    have e4:=hcell 4 _ rfl
    have e5:=hcell 5 _ rfl
    have e6:=hcell 6 _ rfl
    rw [Nat.add_zero] at e0
    rw [← Nat.add_assoc] at e1 e2 e3 e4 e5 e6
    have c0:=bc_ hbw hgl e0
    have c1:=bc_ hbw hgl e1
    have c2:=bc_ hbw hgl e2
    have c3:=bc_ hbw hgl e3
    have c4:=bc_ hbw hgl e4
    have c5:=bc_ hbw hgl e5
    have c6:=bc_ hbw hgl e6
    clear hcell e0 e1 e2 e3 e4 e5 e6 hbw
    have HTN:=hid (show (S.getD i st0).t = (tn:Int) by rw [hgd];exact htn.out)
    obtain ⟨w5,hw5⟩:∃ w5,wr.alloc (.cells #[.int .i64 x.t, .int .i64 x.ll, .int .i64 x.lh, .int .i64 x.sl, .int .i64 x.sh, .int .i64 x.el, .int .i64 x.eh] 72) = w5:=⟨_,rfl⟩
    have hb5:Below wr.heap.size wr w5:=by rw [← hw5];exact (Below.refl _ _).alloc (nl_ _) _
    have XN:=hid (show w5.heap[wr.heap.size]? = some (.cells #[.int .i64 x.t, .int .i64 x.ll, .int .i64 x.lh, .int .i64 x.sl, .int .i64 x.sh, .int .i64 x.el, .int .i64 x.eh] 72 (0,0)) by rw [← hw5];exact ha_ _ _)
    obtain ⟨bx,hbx⟩:∃ b,wr.heap.size = b:=⟨_,rfl⟩
    have hbxM:M + 2 ≤ bx:=by rw [← hbx];exact HZ.out
    have ML5:=hid (HML.out.kept (hb5.block M HML.out.lt))
    have DN5:=hid (q0_ HDN.out hb5)
    have BN5:=hid (q0_ HBN.out hb5)
    have BB5:=hid (HBb.out.trans (hb5.mono (by have:=HZ.out;omega)))
    have hz5:=hb5.size
    have ML5':Hid (kK_ M n (fI S i 0) w5):=by rw [show fI S i 0 = fM S i from by funext t k;exact fI_zero S i t k];exact ML5.out
    rw [hbx] at XN hz5
    clear hb5 HML HDN HBN HBb ML5 hgd hx HZ
    go_upto_block 2 with fail
    try rw [hw5]
    try simp only [hbx]
    clear hw5 hbx c0 c1 c2 c3 c4 c5 c6
    go_wp2_with fail
    go_loopw [8] (fun vk wk=>∃ j m:Nat,j ≤ 3∧vk = .int .i64 ((i:Int) - 1 + j)∧m ≤ n + j∧Hid (kK_ M m (fI S i j) wk)∧Hid (wk.heap[M + 1]? = some (.cells #[.slice (some ⟨g,o,none⟩) S.length cs_, .slice ac C.length cc, .map (some M)] 221 (0,0)))∧Hid (wk.heap[ba]? = some (.cells #[.slice (some ⟨g,o,none⟩) S.length cs_, .slice ac C.length cc] 60 (0,0)))∧Hid (wk.heap[bx]? = some (.cells #[.int .i64 x.t, .int .i64 x.ll, .int .i64 x.lh, .int .i64 x.sl, .int .i64 x.sh, .int .i64 x.el, .int .i64 x.eh] 72 (0,0)))∧Hid (M + 2 ≤ wk.heap.size)∧Hid (Below M w2 wk)) (fun vk _=>((i:Int) + 2 - intOf vk).toNat)
    case atStart=>exact ⟨0,n,by omega,by go_num,by omega,ML5',DN5,BN5,XN,hid (by omega),BB5⟩
    case round=>
     obtain ⟨j,m,hj,rfl,hm,HML,HDN,HBN,HXN,HZ,HBb⟩:=hrel
     by_cases hj3:j < 3
     · have hle:((i:Int) - 1 + j) ≤ (i:Int) + 1:=by omega
       have hb0:=cg_ HBN.out (k:=0) (v := .slice (some ⟨g,o,none⟩) S.length cs_) rfl
       have hb1:=cg_ HBN.out (k:=1) (v := .slice ac C.length cc) rfl
       have SK:=hid (strip_any (some ⟨g,o,none⟩) ac S.length C.length cs_ cc ((i:Int) - 1 + j) wr (by omega) (by omega))
       go_wp2_with fail
       refine SK.out.mono ?_
       rintro e w6 ⟨rfl,hb6⟩
       have h66:=hb6.size
       have ML6:=hid (HML.out.kept (hb6.block M HML.out.lt))
       have DN6:=hid (q0_ HDN.out hb6)
       have BN6:=hid (q0_ HBN.out hb6)
       have XN6:=hid (q0_ HXN.out hb6)
       have BB6:=hid (HBb.out.trans (hb6.mono (by have:=HZ.out;omega)))
       have HZ6:=hid (show M + 2 ≤ w6.heap.size by have:=HZ.out;omega)
       clear HML HDN HBN HXN HZ HBb SK hb6 hb0 hb1
       by_cases hin:0 ≤ (i:Int) - 1 + j∧(i:Int) - 1 + j ≤ (S.length:Int) - 1
       · obtain ⟨kn,hkn⟩:∃ kn:Nat,(i:Int) - 1 + j = (kn:Int):=⟨((i:Int) - 1 + j).toNat,by omega⟩
         have hII:inI ((i:Int) - 1 + j) 0 ((S.length:Int) - 1) = true:=by rw [inI,decide_eq_true hin.1,decide_eq_true hin.2];rfl
         have hkS:kn < S.length:=by omega
         have hk5:kn ≤ 1000:=by omega
         have hij:i + j = kn + 1:=by omega
         rw [hII]
         simp only [hkn]
         clear hII
         go_upto_region 12 with fail
         have SC:=hid (fun (W:World) (h1:W.heap[M + 1]? = some (.cells #[.slice (some ⟨g,o,none⟩) S.length cs_, .slice ac C.length cc, .map (some M)] 221 (0,0))) (h2:W.heap[bx]? = some (.cells #[.int .i64 x.t, .int .i64 x.ll, .int .i64 x.lh, .int .i64 x.sl, .int .i64 x.sh, .int .i64 x.el, .int .i64 x.eh] 72 (0,0)))=>show W.cell? ⟨M + 1,2,none⟩ = some (.map (some M))∧W.cell? ⟨bx,0,none⟩ = some (.int .i64 tn) from ⟨cg_ h1 (k:=2) rfl,by rw [← htn.out];exact cg_ h2 (k:=0) rfl⟩)
         obtain ⟨W0,hW0⟩:∃ W0,w6.drew = W0:=⟨_,rfl⟩
         have hb:Below w6.heap.size w6 W0:=by rw [← hW0];exact (Below.refl _ w6).drew
         have hS0:=SC.out W0 (q0_ DN6.out hb) (q0_ XN6.out hb)
         have MF:=hid (ML6.out.kept (hb.block M ML6.out.lt))
         replace DN6:=hid (q0_ DN6.out hb)
         replace BN6:=hid (q0_ BN6.out hb)
         replace XN6:=hid (q0_ XN6.out hb)
         replace BB6:=hid (BB6.out.trans (hb.mono (by have:=HZ6.out;omega)))
         replace HZ6:=hid (show M + 2 ≤ W0.heap.size by have:=hb.size;have:=HZ6.out;omega)
         refine (wpIn_wide (n:=9)).1 ?_
         refine q6_ (fun W:World=>W.cell? ⟨M + 1,2,none⟩ = some (.map (some M))∧W.cell? ⟨bx,0,none⟩ = some (.int .i64 tn)) (by kernel_rfl) ?_
         rw [hW0]
         clear hW0 hb ML6
         refine tkZ 0 37 (.pointer (some ⟨M + 1,0,none⟩)) rfl rfl hS0 ?_
         refine tkZ 1 38 (.pointer (some ⟨M + 1,0,none⟩)) rfl rfl hS0 ?_
         refine tkZ 2 39 (.pointer (some ⟨M + 1,2,none⟩)) rfl rfl hS0 ?_
         refine tkZ 3 40 (.map (some M)) rfl rfl hS0 ?_
         refine tkZ 4 41 (.pointer (some ⟨bx,0,none⟩)) rfl rfl hS0 ?_
         refine tkZ 5 42 (.int .i64 tn) rfl rfl hS0 ?_
         refine tkZ 6 43 (.int .i64 kn) rfl rfl hS0 ?_
         refine tkZ 7 44 (.agg #[.int .i64 tn, .int .i64 kn]) rfl rfl hS0 ?_
         clear hS0
         go_simp
         refine aHO 8 rfl fun K hK=>?_
         obtain ⟨W1,hr,h7,hg7⟩:=kK_.put MF.out tn kn htn5 hk5 (by unfold maxLen;omega)
         refine LB.j0_ (fun _=>trivial) rfl (LB.j2_ rfl rfl rfl rfl hr) ?_
         have nb1:=hg7.block (M + 1) (by have:=HZ6.out;omega) (fun e=>by simp at e)
         have nb2:=hg7.block bx (ge_ XN6.out).1 (fun e=>by simp at e;omega)
         have nb3:=hg7.block ba (ge_ BN6.out).1 (fun e=>by simp at e;have:=HM.out;omega)
         have hfp:(fun t' k'=>fI S i j t' k' || (decide (t' = tn) && decide (k' = kn))) = fI S i (j + 1):=funext fun t=>funext fun k=>fI_put S i j tn kn HTN.out hkS hij t k
         rw [hfp] at h7
         have MF7:=hid h7
         replace DN6:=hid (nb1.trans DN6.out)
         replace XN6:=hid (nb2.trans XN6.out)
         replace BN6:=hid (nb3.trans BN6.out)
         replace BB6:=hid (BB6.out.grown hg7 (by have:=HZ6.out;omega) (fun b hb=>by simp at hb;omega))
         replace HZ6:=hid (Nat.le_trans HZ6.out hg7.size)
         refine hK _ _ ⟨SC.out _ DN6.out XN6.out,?_⟩
         clear hK hr h7 hg7 hfp nb1 nb2 nb3 MF
         refine q7_ (by kernel_rfl) ?_
         go_simp
         go_wp2_with fail
         go_roundw
         case rel=>exact ⟨j + 1,m + 1,by omega,by go_num,by omega,MF7,DN6,BN6,XN6,HZ6,BB6⟩
         case measure=>simp [intOf];omega
       · have hII:inI ((i:Int) - 1 + j) 0 ((S.length:Int) - 1) = false:=by
          rw [inI,Bool.and_eq_false_iff,decide_eq_false_iff_not,decide_eq_false_iff_not];omega
         rw [hII]
         clear hII
         have hfp:fI S i j = fI S i (j + 1):=funext fun t=>funext fun k=>fI_skip S i j t k fun kn h=>by omega
         have ML7:Hid (kK_ M m (fI S i (j + 1)) w6):=by rw [← hfp];exact ML6.out
         clear ML6 hfp
         go_wp2_with fail
         go_roundw
         case rel=>exact ⟨j + 1,m,by omega,by go_num,by omega,ML7,DN6,BN6,XN6,HZ6,BB6⟩
         case measure=>simp [intOf];omega
     · obtain rfl:j = 3:=by omega
       have hle:¬ ((i:Int) - 1 + (3:Nat)) ≤ (i:Int) + 1:=by omega
       have ML7:Hid (kK_ M m (fM S (i + 1)) wr):=by rw [show fM S (i + 1) = fI S i 3 from by funext t k;exact (fI_three S i t k).symm];exact HML.out
       clear HML
       go_wp2_with fail
       go_roundw
       case rel=>exact ⟨i + 1,m,by omega,by go_num,by omega,ML7,HDN,HBN,HZ,HBb⟩
       case measure=>simp [intOf];omega
  · obtain rfl:i = S.length:=by omega
    go_wp2_with fail
    refine bodyPost_ret (v := .tuple #[.pointer (some ⟨M + 1,0,none⟩), .int .i64 0]) (by simp [results,Tryz.results66,go_sem]) rfl ?_
    exact ⟨M,rfl,by rw [← HM.out];exact BW.out.size,HDN.out,⟨n,HML.out⟩,BW.out.trans (HBb.out.mono (by rw [← HM.out];exact BW.out.size))⟩
end Go.Proofs.LS