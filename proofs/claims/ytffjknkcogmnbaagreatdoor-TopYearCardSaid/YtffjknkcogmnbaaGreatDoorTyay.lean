/- Parts of the proof of a law of layer 11 (file): LbB9. The conditions stand in each theorem. -/
import Derived.Test.YtffjknkcogmnbaaGreatDoorProg
import Derived.Test.YtffjknkcogmnbaaGreatDoorTyax
set_option linter.all false
set_option linter.unusedVariables false
set_option linter.unusedSimpArgs false
namespace Go.Proofs.LB
open Go.RowKit Go.Sort Go.Proofs.LF
set_option maxHeartbeats 4000000
set_option maxRecDepth 100000
attribute [local go_sem] q1_ q2_ q8_
theorem zero27 (w:World):(zeroValue 27).run Tryz.prog w = .ok (.slice none 0 0) w:=by kernel_rfl
theorem vh_ (room first uns:Int) (ms:List Mo) (ss:List Su) (am as_:Option Addr) (cm cs_:Nat) (S:Nat→Prop) (w:World) (hm:LSl yn_ S w (.slice am ms.length cm) ms) (hs:LSl vQ_ S w (.slice as_ ss.length cs_) ss) (hS:∀ b,S b→b < w.heap.size) (hO:OkBed room first uns ms ss) :
 Calls Tryz.prog 101 #[.agg (z7_ room first uns (.slice am ms.length cm) (.slice as_ ss.length cs_))] w fun e w'=>∃ M,e = .returned (.tuple #[.pointer (some ⟨M + 1,0,none⟩), .int .i64 0])∧w.heap.size ≤ M∧w'.heap[M + 1]? = some (.cells #[.int .i64 room, .int .i64 first, .int .i64 uns, .slice am ms.length cm, .slice as_ ss.length cs_, .map (some M)] 271 (0,0))∧(∃ n,jE_ (M + 2) M n (plc ss ss.length) w')∧Below w.heap.size w w':=by
 obtain ⟨w1,hw1⟩:∃ w1,w.alloc (.cells (z7_ room first uns (.slice am ms.length cm) (.slice as_ ss.length cs_)) 26) = w1:=⟨_,rfl⟩
 have hb1:Below w.heap.size w w1:=by rw [← hw1];exact (Below.refl _ _).alloc (nl_ _) _
 have BN:=hid (show w1.heap[w.heap.size]? = some (.cells (z7_ room first uns (.slice am ms.length cm) (.slice as_ ss.length cs_)) 26 (0,0)) by rw [← hw1];exact ha_ _ _)
 have CK:=hid (x3_ room first uns ms ss am as_ cm cs_ S w1 (hm.agree (qc_ hb1 hS)) (hs.agree (qc_ hb1 hS)) (fun b hb=>by have:=hS b hb;have:=hb1.size;omega) hO)
 have BW:=hid hb1
 have HSU:=hid hs
 have HS:=hid hS
 have hmany:=hO.many
 have HM9:=hid hO.su
 have hlen:=hO.len
 obtain ⟨i0,hi0,hz0,hz1,hz2⟩:=info_parts Tryz.info3'
 clear hb1 hm hs hS hO
 obtain ⟨ba,hba⟩:∃ b,w.heap.size = b:=⟨_,rfl⟩
 rw [hba] at BN
 have hlba:ba < w1.heap.size:=(ge_ BN.out).1
 unfold z7_ at *
 have b0:=cg_ BN.out (k:=0) (v := .int .i64 room) rfl
 have b1:=cg_ BN.out (k:=1) (v := .int .i64 first) rfl
 have b2:=cg_ BN.out (k:=2) (v := .int .i64 uns) rfl
 have b3:=cg_ BN.out (k:=3) (v := .slice am ms.length cm) rfl
 have b4:=cg_ BN.out (k:=4) (v := .slice as_ ss.length cs_) rfl
 go_enter Tryz.func101,Tryz.ntmps101
 go_upto_region 1 with fail
 try rw [hw1]
 try simp only [hba]
 clear hw1
 go_wp2_with fail
 refine CK.out.mono ?_
 rintro e w2 ⟨rfl,hb⟩
 clear b0 b1 b2 b3 b4 CK
 replace BN:=hid (q0_ BN.out hb)
 replace BW:=hid (BW.out.trans (hb.mono BW.out.size))
 have hlb2:ba < w2.heap.size:=Nat.lt_of_lt_of_le hlba hb.size
 clear hb
 obtain ⟨w3,hw3⟩:∃ w3,w2.alloc (.map #[] 0) = w3:=⟨_,rfl⟩
 have hb3:Below w2.heap.size w2 w3:=by rw [← hw3];exact (Below.refl _ _).alloc (nl_ _) _
 have hM3:=vy_.made (P:=Tryz.prog) 3 w2
 rw [hw3] at hM3
 obtain ⟨M,hM⟩:∃ M,w2.heap.size = M:=⟨_,rfl⟩
 rw [hM] at hM3
 have hz3:w3.heap.size = M + 1:=by rw [← hw3,← hM];simp
 obtain ⟨w4,hw4⟩:∃ w4,w3.alloc (.cells #[.int .i64 room, .int .i64 first, .int .i64 uns, .slice am ms.length cm, .slice as_ ss.length cs_, .map (some M)] 271) = w4:=⟨_,rfl⟩
 have hb4:Below w3.heap.size w3 w4:=by rw [← hw4];exact (Below.refl _ _).alloc (nl_ _) _
 have hz4:w4.heap.size = M + 2:=by rw [← hw4];simp [hz3]
 have DN:Hid (w4.heap[M + 1]? = some (.cells #[.int .i64 room, .int .i64 first, .int .i64 uns, .slice am ms.length cm, .slice as_ ss.length cs_, .map (some M)] 271 (0,0))):=by rw [← hw4,← hz3];exact ha_ _ _
 have ML4:Hid (vy_ Tryz.prog 3 M 0 (fun _=>none) w4):=hM3.kept (hb4.block M hM3.lt)
 have BB:Hid (Below M w2 w4):=by rw [← hM];exact hb3.trans (hb4.mono (by rw [hz3];omega))
 have b0:=cg_ BN.out (k:=0) (v := .int .i64 room) rfl
 have b1:=cg_ BN.out (k:=1) (v := .int .i64 first) rfl
 have b2:=cg_ BN.out (k:=2) (v := .int .i64 uns) rfl
 have b3:=cg_ BN.out (k:=3) (v := .slice am ms.length cm) rfl
 have b4:=cg_ BN.out (k:=4) (v := .slice as_ ss.length cs_) rfl
 have BN4:=hid ((BB.out.block ba (by omega)).trans BN.out)
 have hz3':=hid hz3
 have hz4':=hid hz4
 have HM:=hid hM
 clear hz3 hz4 hb3 hb4 hM3
 have hmm:=@run_makeMap Tryz.prog
 go_upto_region 5 with fail
 rw [hz3'.out]
 clear hmm b0 b1 b2 b3 b4 BN hw3 hw4 hM hba hz3'
 have b4:=cg_ BN4.out (k:=4) (v := .slice as_ ss.length cs_) rfl
 obtain ⟨_,_,he,_,hmm,hat⟩:=LSl.at HSU.out
 cases he
 unfold maxLen at hmm
 have HAT:=hid hat
 clear hat
 have hml:Hid (jE_ (M + 2) M 0 (plc ss 0) w4):=⟨_,ML4.out,fun _ _=>rfl,fun m hm=>absurd rfl hm,fun _ _ _ _ _ _ h=>by cases h⟩
 go_wp2_with fail
 go_loopw [20] (fun vi wr=>∃ k n:Nat,k ≤ ss.length∧vi = .int .i64 k∧n ≤ k∧Hid (jE_ (M + 2) M n (plc ss k) wr)∧Hid (wr.heap[M + 1]? = some (.cells #[.int .i64 room, .int .i64 first, .int .i64 uns, .slice am ms.length cm, .slice as_ ss.length cs_, .map (some M)] 271 (0,0)))∧Hid (M + 2 ≤ wr.heap.size)∧Hid (Below M w2 wr)) (fun vi _=>ss.length - (intOf vi).toNat)
 case atStart=>exact ⟨0,0,by omega,rfl,by omega,hml,DN,by have:=hz4'.out;exact Nat.le_of_eq this.symm,BB⟩
 case round=>
  obtain ⟨k,n,hk,rfl,hnk,HML,HDN,HZ,HB⟩:=hrel
  have i1:(0:Int) ≤ (k:Int):=by omega
  by_cases hlt:k < ss.length
  · have hlt':(k:Int) < (ss.length:Int):=by omega
    obtain ⟨g,o,cs1,rfl,hg,hc,hcell⟩:=HAT.out k hlt
    have hc:cs1 = (suC ss[k]).toList:=hc
    have hgd:ss.getD k ⟨0,0,0⟩ = ss[k]:=by simp [List.getD_eq_getElem?_getD,List.getElem?_eq_getElem hlt]
    have hsm:=(HM9.out ss[k] (List.getElem_mem hlt)).m
    obtain ⟨s,hs⟩:∃ s,ss[k] = s:=⟨_,rfl⟩
    rw [hs] at hc hgd hsm
    subst hc
    have hm1000:s.m ≤ 1000:=by omega
    have e0:=hcell 0 _ rfl
    have e1:=hcell 1 _ rfl
    have e2:=hcell 2 _ rfl
    rw [Nat.add_zero] at e0
    rw [← Nat.add_assoc] at e1 e2
    have hgl:=HS.out g hg
    have hwM:w.heap.size ≤ M:=by rw [← HM.out];exact BW.out.size
    have hbw:=BW.out.trans (HB.out.mono hwM)
    have c0:=bc_ hbw hgl e0
    have c1:=bc_ hbw hgl e1
    have c2:=bc_ hbw hgl e2
    clear hcell e0 e1 e2 hbw hs
    obtain ⟨w5,hw5⟩:∃ w5,wr.alloc (.cells #[.int .i64 s.m, .int .i64 s.lo, .int .i64 s.hi] 37) = w5:=⟨_,rfl⟩
    have hb5:Below wr.heap.size wr w5:=by rw [← hw5];exact (Below.refl _ _).alloc (nl_ _) _
    have SN:=ha_ wr (.cells #[.int .i64 s.m, .int .i64 s.lo, .int .i64 s.hi] 37)
    rw [hw5] at SN
    obtain ⟨bs,hbs⟩:∃ b,wr.heap.size = b:=⟨_,rfl⟩
    rw [hbs] at SN
    have hbsM:M + 2 ≤ bs:=by rw [← hbs];exact HZ.out
    obtain ⟨f,f1,f2,f3,f4⟩:=HML.out
    have NBF:=hid (show ∀ q u g,f q = some u→u.ownBlock = some g→M + 2 ≤ g∧g < bs from fun q u g hu hg=>by
     have hne:plc ss k q ≠ []:=fun h0=>by rw [f2 q h0] at hu;cases hu
     obtain ⟨u',h1,h2⟩:=f3 q hne
     rw [hu] at h1
     cases h1
     have:=h2.lt g hg
     omega)
    have DN5:=hid (q0_ HDN.out hb5)
    have SN5:=hid SN
    have BB5:=hid (HB.out.trans (hb5.mono (by have:=HZ.out;omega)))
    have HZ5:=hid (Nat.le_trans HZ.out hb5.size)
    have HB5:=hid hb5
    clear hb5 SN HML HDN HB HZ
    go_upto_region 8 with fail
    have SC:=hid (fun (W:World) (h1:W.heap[M + 1]? = some (.cells #[.int .i64 room, .int .i64 first, .int .i64 uns, .slice am ms.length cm, .slice (some ⟨g,o,none⟩) ss.length cs_, .map (some M)] 271 (0,0))) (h2:W.heap[bs]? = some (.cells #[.int .i64 s.m, .int .i64 s.lo, .int .i64 s.hi] 37 (0,0)))=>show W.cell? ⟨M + 1,5,none⟩ = some (.map (some M))∧W.cell? ⟨bs,0,none⟩ = some (.int .i64 s.m) from ⟨cg_ h1 (k:=5) rfl,cg_ h2 (k:=0) rfl⟩)
    obtain ⟨W0,hW0⟩:∃ W0,w5.drew = W0:=⟨_,rfl⟩
    have hb:Below w5.heap.size w5 W0:=by rw [← hW0];exact (Below.refl _ w5).drew
    have hb0:Below wr.heap.size wr W0:=HB5.out.trans (hb.mono HB5.out.size)
    have MF:=hid (f1.kept (hb0.block M f1.lt))
    have F2:=hid f2
    have F4:=hid f4
    have F3:=hid (show ∀ q,plc ss k q ≠ []→∃ u,f q = some u∧W0.ownsRow (M + 2) 3 1 u (plc ss k q).length (nI (plc ss k q)) from fun q hq=>let ⟨u,h1,h2⟩:=f3 q hq;⟨u,h1,ob_ h2 hb0 (nl_ _)⟩)
    have DN:=hid (q0_ DN5.out hb)
    have SN:=hid (q0_ SN5.out hb)
    have BB:=hid (BB5.out.trans (hb.mono (by have:=HZ5.out;omega)))
    have HZ:=hid (Nat.le_trans HZ5.out hb.size)
    obtain ⟨v,hv⟩:∃ v,(f s.m).getD (.slice none 0 0) = v:=⟨_,rfl⟩
    have HV:=hid hv
    have NB:=hid (show ∀ g,v.ownBlock = some g→M + 2 ≤ g∧g < bs from fun g hg=>by
     cases hfm:f s.m with
     | none=>rw [hfm] at hv;subst hv;cases hg
     | some u=>rw [hfm] at hv;have hv:u = v:=hv;exact NBF.out s.m u g hfm (by rw [hv];exact hg))
    have OWN:Hid (W0.ownsRow (M + 2) 3 1 v (plc ss k s.m).length (nI (plc ss k s.m))):=by
     by_cases h0:plc ss k s.m = []
     · rw [f2 _ h0] at hv
       subst hv
       rw [h0]
       exact World.ownsRow_nil _ _ _ _
     · obtain ⟨u,hu,hr⟩:=F3.out _ h0
       rw [hu] at hv
       have hv:u = v:=hv
       rw [← hv];exact hr
    have hpl:=plc_len ss k s.m
    have hbs0:bs < W0.heap.size:=(ge_ SN.out).1
    clear DN5 SN5 BB5 HZ5 HB5 hb hb0 f1 f2 f3 f4 hv c0 c1 c2 NBF
    have hS0:=SC.out W0 DN.out SN.out
    refine (wpIn_wide (n:=9)).1 ?_
    refine q6_ (fun W:World=>W.cell? ⟨M + 1,5,none⟩ = some (.map (some M))∧W.cell? ⟨bs,0,none⟩ = some (.int .i64 s.m)) (by kernel_rfl) ?_
    rw [hW0]
    clear hW0
    refine tkZ 0 25 (.pointer (some ⟨M + 1,0,none⟩)) rfl rfl hS0 ?_
    refine tkZ 1 26 (.pointer (some ⟨M + 1,0,none⟩)) rfl rfl hS0 ?_
    refine tkZ 2 27 (.pointer (some ⟨M + 1,5,none⟩)) rfl rfl hS0 ?_
    refine tkZ 3 28 (.map (some M)) rfl rfl hS0 ?_
    refine tkZ 4 29 (.pointer (some ⟨bs,0,none⟩)) rfl rfl hS0 ?_
    refine tkZ 5 30 (.int .i64 s.m) rfl rfl hS0 ?_
    refine tkZ 6 31 (.pointer (some ⟨M + 1,0,none⟩)) rfl rfl hS0 ?_
    refine tkZ 7 32 (.pointer (some ⟨M + 1,0,none⟩)) rfl rfl hS0 ?_
    refine tkZ 8 33 (.pointer (some ⟨M + 1,5,none⟩)) rfl rfl hS0 ?_
    refine tkZ 9 34 (.map (some M)) rfl rfl hS0 ?_
    refine tkZ 10 35 (.pointer (some ⟨bs,0,none⟩)) rfl rfl hS0 ?_
    refine tkZ 11 36 (.int .i64 s.m) rfl rfl hS0 ?_
    refine tkZ 13 38 (.int .i64 k) rfl rfl hS0 ?_
    clear hS0
    go_simp
    refine kW_ (i:=12) (j:=14) (by kernel_rfl) rfl rfl (by kernel_rfl) (by kernel_rfl) (fun K hK=>?_) (fun K hK=>?_)
    · have hr:=vy_.look MF.out Tryz.underlying269 Tryz.underlying3 (zero27 W0) s.m hm1000
      rw [HV.out] at hr
      refine qG_ (fun _=>trivial) rfl (xL_ rfl rfl rfl hr) ?_
      refine hK _ _ ⟨SC.out _ DN.out SN.out,?_⟩
      clear hK hr
      refine aHO 14 rfl fun K hK=>?_
      go_simp
      have hb:=(Below.refl W0.heap.size W0).alloc (nl_ _) (.cells #[.int .i64 k] 3)
      have hblk:=ha_ W0 (.cells #[.int .i64 k] 3)
      obtain ⟨bk,hbk⟩:∃ b,W0.heap.size = b:=⟨_,rfl⟩
      obtain ⟨W1,hnew⟩:∃ w',W0.alloc (.cells #[.int .i64 k] 3) = w':=⟨_,rfl⟩
      rw [hnew] at hb hblk ⊢
      rw [hbk] at hblk ⊢
      replace MF:=hid (MF.out.kept (hb.block M MF.out.lt))
      replace F3:=hid (show ∀ q,plc ss k q ≠ []→∃ u,f q = some u∧W1.ownsRow (M + 2) 3 1 u (plc ss k q).length (nI (plc ss k q)) from fun q hq=>let ⟨u,h1,h2⟩:=F3.out q hq;⟨u,h1,ob_ h2 hb (nl_ _)⟩)
      replace OWN:=hid (ob_ OWN.out hb (nl_ _))
      replace DN:=hid (q0_ DN.out hb)
      replace SN:=hid (q0_ SN.out hb)
      replace BB:=hid (BB.out.trans (hb.mono (by have:=HZ.out;omega)))
      replace HZ:=hid (Nat.le_trans HZ.out hb.size)
      have hbs0:bs < W1.heap.size:=Nat.lt_of_lt_of_le hbs0 hb.size
      have BK:=hid hblk
      refine hK _ _ ⟨SC.out _ DN.out SN.out,?_⟩
      clear hK hb hblk hbk hnew
      refine aHO 15 rfl fun K hK=>?_
      obtain ⟨a5,c5,W2,hr,hown5,hg5,hat5⟩:=run_append_ao (P:=Tryz.prog) (w:=W1) 27 27 (M + 2) 3 i0 _ 1 8 Tryz.underlying27 hi0 hz0 hz1 hz2 rfl (by omega) v (plc ss k s.m).length _ OWN.out (some ⟨bk,0,none⟩) 1 1 [.int .i64 k] rfl (fun h=>by cases h) (fun ad had=>by cases had;exact World.news_of_block (cs:=#[.int .i64 k]) (t:=3) (fr:=(0,0)) BK.out) (by simp [Value.oneCell']) (by unfold maxLen;omega) (by omega) HZ.out
      refine qG_ (fun _=>trivial) rfl (qL_ rfl rfl rfl hr) ?_
      have nb1:=hg5.block (M + 1) (by have:=HZ.out;omega) (fun e=>by have:=NB.out _ e.symm;omega)
      have nb2:=hg5.block bs hbs0 (fun e=>by have:=NB.out _ e.symm;omega)
      have nb3:=hg5.block M MF.out.lt (fun e=>by have:=NB.out _ e.symm;omega)
      have MF5:=hid (MF.out.kept nb3)
      replace DN:=hid (nb1.trans DN.out)
      replace SN:=hid (nb2.trans SN.out)
      replace BB:=hid (BB.out.grown hg5 (by have:=HZ.out;omega) (fun b hb=>by have:=NB.out b hb;omega))
      have HO5:=hid hown5
      have HG5:=hid hg5
      have HA5:=hid (show ∀ g,(Value.slice a5 ((plc ss k s.m).length + 1) c5).ownBlock = some g→v.ownBlock = some g ∨ W1.heap.size ≤ g from fun g hg=>(hat5 g hg).imp id fun h=>by omega)
      replace HZ:=hid (Nat.le_trans HZ.out hg5.size)
      have hbs0:bs < W2.heap.size:=Nat.lt_of_lt_of_le hbs0 hg5.size
      refine hK _ _ ⟨SC.out _ DN.out SN.out,?_⟩
      clear hK hr hown5 hg5 hat5 nb1 nb2 nb3 BK
      refine aHO 16 rfl fun K hK=>?_
      obtain ⟨W3,hr,h6,hg6⟩:=vy_.put MF5.out Tryz.underlying269 Tryz.underlying3 s.m hm1000 (by unfold maxLen;omega) (.slice a5 ((plc ss k s.m).length + 1) c5)
      refine j0_ (fun _=>trivial) rfl (j2_ rfl rfl rfl rfl hr) ?_
      have ML:=jE_.more (k:=k) MF.out F2.out F3.out F4.out HV.out.symm (by omega) HO5.out HG5.out HA5.out h6 hg6
      have hL:(fun q=>if q = s.m then plc ss k q ++ [k] else plc ss k q) = plc ss (k + 1):=funext fun q=>by
       rw [y1_,hgd]
       by_cases e:q = s.m
       · rw [if_pos e,if_pos e.symm]
       · rw [if_neg e,if_neg (fun h=>e h.symm)]
      rw [hL] at ML
      have nb1:=hg6.block (M + 1) (by have:=HZ.out;omega) (fun e=>by simp at e)
      have nb2:=hg6.block bs hbs0 (fun e=>by simp at e;omega)
      replace DN:=hid (nb1.trans DN.out)
      replace SN:=hid (nb2.trans SN.out)
      replace BB:=hid (BB.out.grown hg6 (by have:=HZ.out;omega) (fun b hb=>by simp at hb;omega))
      replace HZ:=hid (Nat.le_trans HZ.out hg6.size)
      have MLF:=hid ML
      refine hK _ _ ⟨SC.out _ DN.out SN.out,?_⟩
      clear hK hr h6 hg6 ML hL nb1 nb2 MF MF5 F2 F3 F4 HO5 HG5 HA5 OWN
      refine q7_ (by kernel_rfl) ?_
      go_simp
      go_wp2_with fail
      go_roundw
      case rel=>exact ⟨k + 1,n + 1,by omega,by go_num,by omega,MLF,DN,HZ,BB⟩
      case measure=>simp [intOf];omega
    · go_simp
      have hb:=(Below.refl W0.heap.size W0).alloc (nl_ _) (.cells #[.int .i64 k] 3)
      have hblk:=ha_ W0 (.cells #[.int .i64 k] 3)
      obtain ⟨bk,hbk⟩:∃ b,W0.heap.size = b:=⟨_,rfl⟩
      obtain ⟨W4,hnew⟩:∃ w',W0.alloc (.cells #[.int .i64 k] 3) = w':=⟨_,rfl⟩
      rw [hnew] at hb hblk ⊢
      rw [hbk] at hblk ⊢
      replace MF:=hid (MF.out.kept (hb.block M MF.out.lt))
      replace F3:=hid (show ∀ q,plc ss k q ≠ []→∃ u,f q = some u∧W4.ownsRow (M + 2) 3 1 u (plc ss k q).length (nI (plc ss k q)) from fun q hq=>let ⟨u,h1,h2⟩:=F3.out q hq;⟨u,h1,ob_ h2 hb (nl_ _)⟩)
      replace OWN:=hid (ob_ OWN.out hb (nl_ _))
      replace DN:=hid (q0_ DN.out hb)
      replace SN:=hid (q0_ SN.out hb)
      replace BB:=hid (BB.out.trans (hb.mono (by have:=HZ.out;omega)))
      replace HZ:=hid (Nat.le_trans HZ.out hb.size)
      have hbs0:bs < W4.heap.size:=Nat.lt_of_lt_of_le hbs0 hb.size
      have BK:=hid hblk
      refine hK _ _ ⟨SC.out _ DN.out SN.out,?_⟩
      clear hK hb hblk hbk hnew
      refine aHO 12 rfl fun K hK=>?_
      have hr:=vy_.look MF.out Tryz.underlying269 Tryz.underlying3 (zero27 W4) s.m hm1000
      rw [HV.out] at hr
      refine qG_ (fun _=>trivial) rfl (xL_ rfl rfl rfl hr) ?_
      refine hK _ _ ⟨SC.out _ DN.out SN.out,?_⟩
      clear hK hr
      refine aHO 15 rfl fun K hK=>?_
      obtain ⟨a5,c5,W5,hr,hown5,hg5,hat5⟩:=run_append_ao (P:=Tryz.prog) (w:=W4) 27 27 (M + 2) 3 i0 _ 1 8 Tryz.underlying27 hi0 hz0 hz1 hz2 rfl (by omega) v (plc ss k s.m).length _ OWN.out (some ⟨bk,0,none⟩) 1 1 [.int .i64 k] rfl (fun h=>by cases h) (fun ad had=>by cases had;exact World.news_of_block (cs:=#[.int .i64 k]) (t:=3) (fr:=(0,0)) BK.out) (by simp [Value.oneCell']) (by unfold maxLen;omega) (by omega) HZ.out
      refine qG_ (fun _=>trivial) rfl (qL_ rfl rfl rfl hr) ?_
      have nb1:=hg5.block (M + 1) (by have:=HZ.out;omega) (fun e=>by have:=NB.out _ e.symm;omega)
      have nb2:=hg5.block bs hbs0 (fun e=>by have:=NB.out _ e.symm;omega)
      have nb3:=hg5.block M MF.out.lt (fun e=>by have:=NB.out _ e.symm;omega)
      have MF5:=hid (MF.out.kept nb3)
      replace DN:=hid (nb1.trans DN.out)
      replace SN:=hid (nb2.trans SN.out)
      replace BB:=hid (BB.out.grown hg5 (by have:=HZ.out;omega) (fun b hb=>by have:=NB.out b hb;omega))
      have HO5:=hid hown5
      have HG5:=hid hg5
      have HA5:=hid (show ∀ g,(Value.slice a5 ((plc ss k s.m).length + 1) c5).ownBlock = some g→v.ownBlock = some g ∨ W4.heap.size ≤ g from fun g hg=>(hat5 g hg).imp id fun h=>by omega)
      replace HZ:=hid (Nat.le_trans HZ.out hg5.size)
      have hbs0:bs < W5.heap.size:=Nat.lt_of_lt_of_le hbs0 hg5.size
      refine hK _ _ ⟨SC.out _ DN.out SN.out,?_⟩
      clear hK hr hown5 hg5 hat5 nb1 nb2 nb3 BK
      refine aHO 16 rfl fun K hK=>?_
      obtain ⟨W6,hr,h6,hg6⟩:=vy_.put MF5.out Tryz.underlying269 Tryz.underlying3 s.m hm1000 (by unfold maxLen;omega) (.slice a5 ((plc ss k s.m).length + 1) c5)
      refine j0_ (fun _=>trivial) rfl (j2_ rfl rfl rfl rfl hr) ?_
      have ML:=jE_.more (k:=k) MF.out F2.out F3.out F4.out HV.out.symm (by omega) HO5.out HG5.out HA5.out h6 hg6
      have hL:(fun q=>if q = s.m then plc ss k q ++ [k] else plc ss k q) = plc ss (k + 1):=funext fun q=>by
       rw [y1_,hgd]
       by_cases e:q = s.m
       · rw [if_pos e,if_pos e.symm]
       · rw [if_neg e,if_neg (fun h=>e h.symm)]
      rw [hL] at ML
      have nb1:=hg6.block (M + 1) (by have:=HZ.out;omega) (fun e=>by simp at e)
      have nb2:=hg6.block bs hbs0 (fun e=>by simp at e;omega)
      replace DN:=hid (nb1.trans DN.out)
      replace SN:=hid (nb2.trans SN.out)
      replace BB:=hid (BB.out.grown hg6 (by have:=HZ.out;omega) (fun b hb=>by simp at hb;omega))
      replace HZ:=hid (Nat.le_trans HZ.out hg6.size)
      have MLF:=hid ML
      refine hK _ _ ⟨SC.out _ DN.out SN.out,?_⟩
      clear hK hr h6 hg6 ML hL nb1 nb2 MF MF5 F2 F3 F4 HO5 HG5 HA5 OWN
      refine q7_ (by kernel_rfl) ?_
      go_simp
      go_wp2_with fail
      go_roundw
      case rel=>exact ⟨k + 1,n + 1,by omega,by go_num,by omega,MLF,DN,HZ,BB⟩
      case measure=>simp [intOf];omega
  · have hlt':¬ (k:Int) < (ss.length:Int):=by omega
    obtain rfl:k = ss.length:=by omega
    go_wp2_with fail
    refine bodyPost_ret (v := .tuple #[.pointer (some ⟨M + 1,0,none⟩), .int .i64 0]) (by simp [results,Tryz.results101,go_sem]) rfl ?_
    exact ⟨M,rfl,by rw [← HM.out];exact BW.out.size,HDN.out,⟨n,HML.out⟩,BW.out.trans (HB.out.mono (by rw [← HM.out];exact BW.out.size))⟩
end Go.Proofs.LB