/- Parts of the proof of a law of layer 11 (file): LfYan. The conditions stand in each theorem. -/
import Derived.Test.YtffjknkcogmnbaaGreatDoorProg
import Derived.Test.YtffjknkcogmnbaaGreatDoorSpaq
set_option linter.all false
set_option linter.unusedVariables false
set_option linter.unusedSimpArgs false
set_option linter.all false
set_option linter.unusedVariables false
set_option linter.unusedSimpArgs false
namespace Go.Proofs.LF
open Go.RowKit Go.Sort
set_option maxHeartbeats 4000000
set_option maxRecDepth 100000
attribute [local go_sem] q1_ q2_ q6_
theorem Tryz.info3':(Tryz.prog.info? 3).map (fun i=>(i.zero,i.size,i.bytes)) = some (some (.int .i64 0),1,8):=by kernel_rfl
theorem field255 (W:World) (v:Value):(Instr.field 201 (.agg #[v]) 0).run Tryz.prog W = .ok v W:=by
 first
  | (simp [Instr.field,go_sem,part,asAgg];done)
  | (simp [Instr.field,underlying,Tryz.underlying201,part,asAgg,go_sem];done)
  | rfl
attribute [local go_sem] field255
theorem read_any (R:Nat) (t:List UInt8) (i ln st dp:Nat) (kys:List Ky) (fd:Value) (w:World) (hr:Rdr R t i (.int .i64 ln :: .int .i64 (st:Int) :: .int .i64 dp :: (kys.flatMap Ky.cells ++ [fd])) w) (ht:t.length ≤ 100000) (hi:i ≤ t.length) (hd:dp ≤ 3) (hk4:kys.length = 4) :
 Calls Tryz.prog 46 #[.pointer (some ⟨R,0,none⟩)] w (ReadR R t i ln dp kys fd w):=by
 obtain ⟨ks,hks⟩:∃ ks,kys.flatMap Ky.cells ++ [fd] = ks:=⟨_,rfl⟩
 have HKS:=hid hks
 rw [hks] at hr
 clear hks
 have c1:=hr.c1
 have f3:=hr.fz (o:=3)
 have c3:w.cell? ⟨R,3,none⟩ = some (.int .i64 st):=hr.cV (j:=1) rfl
 have hlt:=hr.lt
 obtain ⟨W1,hW1⟩:∃ W1,(w.setCell ⟨R,3,none⟩ (.int .i64 i)).alloc (.cells #[.slice none 0 0, .slice none 0 0] 98) = W1:=⟨_,rfl⟩
 have hr1:Rdr R t i (.int .i64 ln :: .int .i64 i :: .int .i64 dp :: ks) W1:=by
  rw [← hW1]
  have h2:=hr.setV 1 (.int .i64 i)
  simp only [List.set_cons_succ,List.set_cons_zero] at h2
  exact h2.below ((Below.refl _ _).alloc (nl_ _) _)
 have hk1:Keep (· = R) w W1:=by
  rw [← hW1]
  exact (Keep.setCell (O:=(· = R)) (p:=⟨R,3,none⟩) rfl).trans (Keep.of_below ((Below.refl _ _).alloc (nl_ _) _))
 have hz1:W1.heap.size = w.heap.size + 1:=by rw [← hW1];simp [World.setCell]
 have hres:W1.heap[w.heap.size]? = some (.cells #[.slice none 0 0, .slice none 0 0] 98 (0,0)):=by
  rw [← hW1]
  have:=ha_ (w.setCell ⟨R,3,none⟩ (.int .i64 i)) (.cells #[.slice none 0 0, .slice none 0 0] 98)
  simpa [World.setCell] using this
 have HR1:=hid hr1
 have HK1:=hid hk1
 have HZ1:=hid hz1
 have HRES:=hid hres
 have d4:W1.cell? ⟨R,4,none⟩ = some (.int .i64 dp):=hr1.cV (j:=2) rfl
 clear hr hr1 hk1 hz1 hres
 go_enter Tryz.func46,Tryz.ntmps46
 go_wp2_with fail
 have hlt1:R < W1.heap.size:=HR1.out.lt
 clear hW1 c1 f3 c3
 go_region_held3 (fun w'=>w'.cell? ⟨R,4,none⟩ = some (.int .i64 dp))
  (first
    | go_keep
    | (exact bc_ hb2 (by simpa using hlt1) (by assumption))
    | (exact (hr3.out.cV (j:=2) rfl)))
  (first
    | (go_at_call 95;refine (x0_ _).mono ?_;rintro e w2 ⟨rfl,hb2⟩)
    | (go_at_call 94;refine (x1_ R t i dp _ _ (HR1.out.below (((Below.refl _ _).drew).trans hb2)) ht hi (by omega)).mono ?_;rintro e w3 ⟨s3,rfl,hs3,hl3,hb3,hr3,hk3⟩))
 go_wp2_with fail
 refine (small_any _).mono ?_
 rintro e w4 ⟨rfl,hb4⟩
 go_wp2_with fail
 refine (w3_ R t (i + s3.length) 8 _ _ (hr3.out.below hb4) ht (by have:=hb3.out;omega) (by omega)).mono ?_
 rintro e w5 ⟨s5,rfl,hs5,hl5,hb5,hr5,hk5⟩
 have hR1:R ≠ w.heap.size:=by omega
 have hz5:w.heap.size + 1 ≤ w2.heap.size:=by have h1:=hb2.size;have h2:=HZ1.out;simp at h1;omega
 have hres2:w2.heap[w.heap.size]? = some (.cells #[.slice none 0 0, .slice none 0 0] 98 (0,0)):=(hb2.block _ (by have h2:=HZ1.out;simp;omega)).trans HRES.out
 have hres3:=(hk3.out.block _ (by omega) (fun h=>hR1 h.symm)).trans hres2
 have hz3:=hk3.out.size
 have hres4:=(hb4.block _ (by omega)).trans hres3
 have hz4:=hb4.size
 have hres5:=(hk5.out.block _ (by omega) (fun h=>hR1 h.symm)).trans hres4
 have HR5:=hid hres5
 have HK5:=hid (HK1.out.trans ((Keep.of_below (A:=W1) ⟨hb2.os,hb2.tape,hb2.output,hb2.size,hb2.block⟩).trans (hk3.out.trans ((Keep.of_below hb4).trans hk5.out))))
 have e0:w5.cell? ⟨w.heap.size,0,none⟩ = some (.slice none 0 0):=by simp [World.cell?,hres5]
 have e1:w5.cell? ⟨w.heap.size,1,none⟩ = some (.slice none 0 0):=by simp [World.cell?,hres5]
 have f0:w5.frozen? ⟨w.heap.size,0,none⟩ = false:=by simp [World.frozen?,hres5]
 have f1:w5.frozen? ⟨w.heap.size,1,none⟩ = false:=by simp [World.frozen?,hres5]
 have hlt5:w.heap.size < w5.heap.size:=(ge_ HR5.out).1
 clear hres2 hres3 hres4 hres5 hz3 hz4 hz5
 by_cases hemp:s5 = []
 · subst hemp
   go_wp2_with fail
   have hn:=hl5.out
   rw [List.length_nil] at hn
   have hrd:=rdLine_no (s:=t.drop i) hl3.out (by rw [List.drop_drop];exact hn.symm)
   have hr5':=hr5.out
   rw [List.length_nil,Nat.add_zero] at hr5'
   refine bodyPost_ret (v := .tuple #[.agg #[.slice none 0 0, .slice none 0 0], .bool false]) (yx_ ((heap_alloc_old _ _ (by simp [World.setCell];exact hlt5)).trans (kF_ HR5.out)) rfl rfl) rfl (.inl ⟨by rw [hrd],rfl,?_,?_⟩)
   · rw [hrd]
     refine ⟨_,(heap_alloc_old _ _ ?_).trans ((Below.heap_setCell _ _ _ _ hR1).trans ((Below.heap_setCell _ _ _ _ hR1).trans hr5'))⟩
     have:=(Rdr.lt hr5');simpa [World.setCell] using this
   · exact ((HK5.out.setNew (nl_ _)).setNew (nl_ _)).alloc _
 · have hemp':s5.isEmpty = false:=by cases s5 with | nil=>exact absurd rfl hemp | cons _ _=>rfl
   obtain ⟨i0,hi0,hz0,hz1,hz2⟩:=info_parts Tryz.info3'
   have hq5:=hb5.out
   obtain ⟨q0,hq0⟩:∃ q,q = i + s3.length + s5.length:=⟨_,rfl⟩
   have HQ0:=hid hq0
   have HL:=hid (fun (r:List Int × Nat × Bool) (hr:qq_ 4 (t.drop q0) = r)=>rdLine_of (s:=t.drop i) (r:=r) hl3.out (by rw [List.drop_drop];exact hl5.out) (fun e=>hemp (List.eq_nil_of_length_eq_zero e)) (by rw [List.drop_drop,← Nat.add_assoc,← hq0];exact hr))
   rw [← hq0] at hr5
   have hq0t:q0 ≤ t.length:=by omega
   clear hq0
   go_upto_block 0 with fail
   go_cut [3] from 7 (fun v wx=>v = .bool false∧∃ (q:Nat) (ns:List Int) (nv:Value),ns.length ≤ 4∧q0 ≤ q∧q ≤ t.length∧Hid (qq_ 4 (t.drop q0) = (ns,q - q0,true)) ∧
    Hid (Rdr R t q (.int .i64 ln :: .int .i64 i :: .int .i64 dp :: ks) wx)∧Hid (wx.heap[w5.heap.size]? = some (.cells #[.string (bs s5),nv, .slice none 0 0] 109 (0,0))) ∧
    wx.ownsRow (w5.heap.size + 1) 3 1 nv ns.length (ns.map (Value.int .i64))∧Hid (Keep (· = R) w5 wx))
   case first=>
    go_wp2_with fail
    go_loopw [3,42] (fun f v wr=>f = .bool false∧∃ (k q:Nat) (ns:List Int) (nv:Value),v = .int .i64 k∧k ≤ 4∧ns.length = k∧q0 ≤ q∧q ≤ t.length ∧
     Hid (qq_ 4 (t.drop q0) = (ns ++ (qq_ (4 - k) (t.drop q)).1,(q - q0) + (qq_ (4 - k) (t.drop q)).2.1,(qq_ (4 - k) (t.drop q)).2.2)) ∧
     Hid (Rdr R t q (.int .i64 ln :: .int .i64 i :: .int .i64 dp :: ks) wr)∧Hid (wr.heap[w5.heap.size]? = some (.cells #[.string (bs s5),nv, .slice none 0 0] 109 (0,0))) ∧
     wr.ownsRow (w5.heap.size + 1) 3 1 nv k (ns.map (Value.int .i64))∧Hid (Keep (· = R) w5 wr)) (fun _ v _=>4 - (intOf v).toNat)
    case atStart=>
     refine ⟨rfl,0,q0,[], .slice none 0 0,rfl,by omega,rfl,nl_ _,hq0t,by simp [Hid],hr5.out.below ((Below.refl _ _).alloc (nl_ _) _),ha_ _ _,World.ownsRow_nil _ _ _ _,Keep.of_below ((Below.refl _ _).alloc (nl_ _) _)⟩
    case round=>
     obtain ⟨rfl,k,q,ns,nv,rfl,hk4,hnl,hq0q,hqt,hN,hrr,hblk,hown,hkk⟩:=hrel
     have hRlt:=hrr.out.lt
     have hzr:=hkk.out.size
     have HZR:=hid hzr
     have hR5:R < w5.heap.size:=hr5.out.lt
     have hb5r:w5.heap.size < wr.heap.size:=(ge_ hblk.out).1
     by_cases hlt:k < 4
     · have hlt':(k:Int) < 4:=by omega
       go_wp2_with fail
       go_region_held3 (fun _=>True)
        (first
          | trivial)
        (first
          | (go_at_call 95;refine (x0_ _).mono ?_;rintro e w6 ⟨rfl,hb6⟩)
          | (go_at_call 94;refine (x1_ R t q 1 _ _ (hrr.out.below (((Below.refl _ _).drew).trans hb6)) ht hqt (by omega)).mono ?_;rintro e w7 ⟨s7,rfl,hs7,hl7,hb7,hr7,hk7⟩))
       by_cases he7:s7 = []
       · subst he7
         go_wp2_with fail
         go_meet
         case rel=>
          have hz:=hl7.out
          rw [List.length_nil] at hz
          have hno:=jr_ (m:=4 - k) hz.symm
          have hNN:=hN.out
          rw [hno,List.append_nil] at hNN
          refine ⟨rfl,q,ns,nv,by omega,hq0q,hqt,hNN,hr7,?_,?_,?_⟩
          · exact (hk7.out.block _ (by have:=hb6.size;simp at this;omega) (by omega)).trans ((hb6.block _ (by simp;omega)).trans hblk.out)
          · rw [hnl]
            exact owns_agree hown fun g hg=>by
             have h1:=hown.lt g hg
             exact (hk7.out.block _ (by have:=hb6.size;simp at this;omega) (by omega)).trans (hb6.block _ (by simp;omega))
          · exact hkk.out.trans ((Keep.of_below (A:=wr) ⟨hb6.os,hb6.tape,hb6.output,hb6.size,hb6.block⟩).trans hk7.out)
       · have he7':s7.isEmpty = false:=by cases s7 with | nil=>exact absurd rfl he7 | cons _ _=>rfl
         have h71:s7.length = 1:=by have h1:=hb7.out.1;have h2:s7.length ≠ 0:=fun e=>he7 (List.eq_nil_of_length_eq_zero e);omega
         have hnz:qD_ qw_ 1 (t.drop q) ≠ 0:=by rw [← hl7.out];omega
         have hq1t:q + 1 ≤ t.length:=by have:=hb7.out.2;omega
         have hr7':Rdr R t (q + 1) (.int .i64 ln :: .int .i64 i :: .int .i64 dp :: ks) w7:=by have:=hr7.out;rwa [h71] at this
         have HR7:=hid hr7'
         clear hr7 hr7'
         simp only [he7']
         go_wp2_with fail
         refine (yf_ R t (q + 1) _ HR7.out.c0 HR7.out.c1 ht).mono ?_
         rintro e w8 ⟨rfl,hb8⟩
         have HR8:=hid (HR7.out.below hb8)
         have hNT:=nxt_eq (t:=t) (q:=q + 1) (c:=48) (by decide)
         have h48c:((nxt t (q + 1) == 48) = true∧zo_ (t.drop (q + 1)) = 1) ∨ ((nxt t (q + 1) == 48) = false∧zo_ (t.drop (q + 1)) = 4):=by
          by_cases h48:nxt t (q + 1) = 48
          · exact .inl ⟨by simp [h48],by rw [zo_,if_pos (hNT.1 h48)]⟩
          · exact .inr ⟨by simp [h48],by rw [zo_,if_neg (fun e=>h48 (hNT.2 e))]⟩
         clear hNT
         rcases h48c with ⟨h48',hmd⟩ | ⟨h48',hmd⟩
         all_goals
          have hmd:=hid hmd
          go_wp2_with fail
          go_region_held3 (fun _=>True)
           (first
             | trivial)
           (first
             | (go_at_call 99;refine (ju_ _).mono ?_;rintro e w9 ⟨rfl,hb9⟩)
             | (go_at_call 94;refine (yV_ R t (q + 1) _ _ (HR8.out.below (((Below.refl _ _).drew).trans hb9)) ht hq1t hmd.out).mono ?_;rintro e w10 ⟨s10,rfl,hs10,hl10,hb10,hr10,hk10⟩))
          have HKr:=hid (hkk.out.trans ((Keep.of_below (A:=wr) ⟨hb6.os,hb6.tape,hb6.output,hb6.size,hb6.block⟩).trans (hk7.out.trans ((Keep.of_below hb8).trans ((Keep.of_below (A:=w8) ⟨hb9.os,hb9.tape,hb9.output,hb9.size,hb9.block⟩).trans hk10.out)))))
          have HKs:=hid ((Keep.of_below (O:=(· = R)) (A:=wr) ⟨hb6.os,hb6.tape,hb6.output,hb6.size,hb6.block⟩).trans (hk7.out.trans ((Keep.of_below hb8).trans ((Keep.of_below (A:=w8) ⟨hb9.os,hb9.tape,hb9.output,hb9.size,hb9.block⟩).trans hk10.out))))
          have HRr:=hid ((HKr.out.block _ hlt5 (fun h=>hR1 h.symm)).trans HR5.out)
          have e0r:=cg_ HRr.out (k:=0) rfl
          have e1r:=cg_ HRr.out (k:=1) rfl
          have f0r:=cells_frz HRr.out (k:=0)
          have f1r:=cells_frz HRr.out (k:=1)
          by_cases he10:s10 = []
          · subst he10
            go_wp2_with fail
            have hz:=hl10.out
            rw [List.length_nil] at hz
            have hbad:=yW_ (m:=3 - k) hnz (by rw [List.drop_drop];exact hz.symm)
            have hNN:=hN.out
            rw [show 4 - k = 3 - k + 1 by omega,hbad] at hNN
            have hrd:=HL.out (ns,q - q0 + 1,false) (by rw [hNN,List.append_nil])
            have hr10':=hr10.out
            rw [List.length_nil,Nat.add_zero] at hr10'
            refine bodyPost_ret (v := .tuple #[.agg #[.slice none 0 0, .slice none 0 0], .bool false]) (yx_ (kF_ HRr.out) rfl rfl) rfl (.inl ⟨by rw [hrd,Bool.false_and],rfl,?_,?_⟩)
            · rw [hrd]
              have hq0':=HQ0.out
              rw [show i + (s3.length + s5.length + (q - q0 + 1)) = q + 1 by omega]
              exact ⟨_,(Rdr.setFar hr10' hR1).setFar hR1⟩
            · exact ((HK5.out.trans HKr.out).setNew (nl_ _)).setNew (nl_ _)
          · have he10':s10.isEmpty = false:=by cases s10 with | nil=>exact absurd rfl he10 | cons _ _=>rfl
            have hrun:=run_all (p:=qG_) (m:=zo_ (t.drop (q + 1))) (s:=t.drop (q + 1))
            rw [← hs10.out] at hrun
            have h104:s10.length ≤ 4:=Nat.le_trans hb10.out.1 (mostD_le _)
            have hat:=hid (jh_ hrun he10 h104)
            have hNb:Hid (w10.heap[w5.heap.size]? = some (.cells #[.string (bs s5),nv, .slice none 0 0] 109 (0,0))):=(HKs.out.block _ hb5r (by omega)).trans hblk.out
            have hgo:=hid (rdNums_go (m:=3 - k) hnz (by rw [List.drop_drop];exact hl10.out) (fun e=>he10 (List.eq_nil_of_length_eq_zero e)))
            have ow10:w10.ownsRow (w5.heap.size + 1) 3 1 nv k (ns.map (Value.int .i64)):=owns_agree hown fun g hg=>HKs.out.block g (hown.lt g hg).2 (by have:=(hown.lt g hg).1;omega)
            have hz10:=HKs.out.size
            clear hrun
            go_wp2_with fail
            refine (Atoi_any s10 (j4_ s10) _ (by omega) hat.out).mono ?_
            rintro e w11 ⟨rfl,hb11⟩
            have hNb11:=(hb11.block _ (by omega)).trans hNb.out
            have n1:=cg_ hNb11 (k:=1) rfl
            have ow11:=ob_ ow10 hb11 (nl_ _)
            have hz11:=hb11.size
            have HNb11:=hid hNb11
            have hbase:w5.heap.size + 1 ≤ w11.heap.size:=by omega
            clear hNb11
            go_wp2_with (at_builtin;refine (q5_ _ rfl _ _ _ rfl (w5.heap.size + 1) 3 i0 _ 1 8 Tryz.underlying27 hi0 hz0 hz1 hz2 rfl (by omega) nv k (ns.map (Value.int .i64)) rfl (ow11.alloc _) (some ⟨w11.heap.size,0,none⟩) 1 1 [.int .i64 ((j4_ s10:Nat):Int)] rfl rfl (fun h=>by cases h) (fun ad had=>by cases had;exact World.news_of_block (cs:=#[.int .i64 ((j4_ s10:Nat):Int)]) (t:=3) (fr:=(0,0)) (ha_ _ _)) (by simp [Value.oneCell']) (by unfold maxLen;omega) (by omega) (by simp;omega) ?_);intro a4 c4 w12 hown4 hgrow4 hat4;have hq12:=w7_ HNb11.out ow11 hgrow4;have n12:=cg_ hq12.out (k:=1) rfl;have f12:=cells_frz hq12.out (k:=1))
            have hsz12:=hgrow4.size
            simp only [World.size_alloc] at hsz12
            have hq1:=hb10.out.2
            have hR12:(w12.setCell ⟨w5.heap.size,1,none⟩ (.slice a4 (k + 1) c4)).heap[R]? = w10.heap[R]?:=(Below.heap_setCell _ _ _ _ (by simp;omega)).trans ((hgrow4.block R (by simp;omega) (fun e=>by have:=(ow11.lt R e.symm).1;omega)).trans ((heap_alloc_old _ _ (by omega)).trans (hb11.block R (by omega))))
            have hgo':=hgo.out
            have hs10':=hs10.out
            rw [← hl10.out] at hs10'
            rw [List.drop_drop,← hs10',List.drop_drop] at hgo'
            have hNN:=hN.out
            rw [show 4 - k = 3 - k + 1 by omega,hgo'] at hNN
            have hfin:qq_ 4 (t.drop q0) = ((ns ++ [((j4_ s10:Nat):Int)]) ++ (qq_ (4 - (k + 1)) (t.drop (q + 1 + s10.length))).1,(q + 1 + s10.length - q0) + (qq_ (4 - (k + 1)) (t.drop (q + 1 + s10.length))).2.1,(qq_ (4 - (k + 1)) (t.drop (q + 1 + s10.length))).2.2):=by
             rw [hNN,show 4 - (k + 1) = 3 - k by omega,show q + (1 + s10.length) = q + 1 + s10.length by omega]
             simp only [List.append_assoc,List.singleton_append,Prod.mk.injEq,true_and,and_true]
             omega
            have ow4:(w12.setCell ⟨w5.heap.size,1,none⟩ (.slice a4 (k + 1) c4)).ownsRow (w5.heap.size + 1) 3 1 (.slice a4 (k + 1) c4) (k + 1) ((ns ++ [((j4_ s10:Nat):Int)]).map (Value.int .i64)):=by
             rw [List.map_append]
             exact owns_agree hown4 fun g hg=>Below.heap_setCell _ _ _ _ (by have:=(hown4.lt g hg).1;simp;omega)
            have hkE:Keep (· = R) w5 (w12.setCell ⟨w5.heap.size,1,none⟩ (.slice a4 (k + 1) c4)):=
             (((HKr.out.trans (Keep.of_below hb11)).alloc _).grownNew hgrow4 (fun b hb=>by have:=(ow11.lt b hb).1;omega)).setNew (nl_ _)
            have hblE:(w12.setCell ⟨w5.heap.size,1,none⟩ (.slice a4 (k + 1) c4)).heap[w5.heap.size]? = some (.cells #[.string (bs s5), .slice a4 (k + 1) c4, .slice none 0 0] 109 (0,0)):=by
             have:=hq12.out
             simp [World.setCell,Array.getElem?_modify,this]
            go_roundw
            case rel=>exact ⟨rfl,k + 1,q + 1 + s10.length,ns ++ [((j4_ s10:Nat):Int)], .slice a4 (k + 1) c4,by go_num,by omega,by simp;omega,by omega,hq1,hfin,hR12.trans hr10.out,hblE,ow4,hkE⟩
            case measure=>simp [intOf];omega
     · have hlt':¬ (k:Int) < 4:=by omega
       obtain rfl:k = 4:=by omega
       go_wp2_with fail
       go_meet
       case rel=>
        have hNN:=hN.out
        simp only [Nat.sub_self,qq_,List.append_nil,Nat.add_zero] at hNN
        exact ⟨rfl,q,ns,nv,by omega,hq0q,hqt,hNN,hrr,hblk,by rw [hnl];exact hown,hkk⟩
   case rest=>
   obtain ⟨rfl,q,ns,nv,hn4,hq0q,hqt,hN,hrr,hblk,hown,hkk⟩:=hcut
   go_wp2_with fail
   refine (yf_ R t q _ hrr.out.c0 hrr.out.c1 ht).mono ?_
   rintro e w8 ⟨rfl,hb8⟩
   have HR8:=hid (hrr.out.below hb8)
   have HKr:=hid (hkk.out.trans (Keep.of_below hb8))
   have hRN:R < w5.heap.size:=hr5.out.lt
   have HRr:=hid ((HKr.out.block _ hlt5 (fun h=>hR1 h.symm)).trans HR5.out)
   have hNlt:w5.heap.size < wc.heap.size:=(ge_ hblk.out).1
   have hNb:Hid (w8.heap[w5.heap.size]? = some (.cells #[.string (bs s5),nv, .slice none 0 0] 109 (0,0))):=(hb8.block _ hNlt).trans hblk.out
   have ow8:=ob_ hown hb8 (nl_ _)
   have e0r:=cg_ HRr.out (k:=0) rfl
   have e1r:=cg_ HRr.out (k:=1) rfl
   have f0r:=cells_frz HRr.out (k:=0)
   have f1r:=cells_frz HRr.out (k:=1)
   have hNT:=nxt_eq (t:=t) (q:=q) (c:=10) (by decide)
   have hrd:=HL.out (ns,q - q0,true) hN.out
   simp only [List.drop_drop,Bool.true_and] at hrd
   have hqe:i + (s3.length + (s5.length + (q - q0))) = q:=by have:=HQ0.out;omega
   rw [hqe] at hrd
   by_cases h10:nxt t q = 10
   · have h10':(nxt t q != 10) = false:=by simp [h10]
     have hok:((t.drop q).head? == some 10) = true:=by rw [hNT.1 h10];rfl
     rw [hok] at hrd
     have HRD:=hid hrd
     clear hrd h10 hNT
     go_wp2_with fail
     have hd3:s3.length ≤ 3:=by have:=hb3.out;omega
     obtain ⟨ka,kb,kc,k1,k2,k3⟩:=keys_at (fd:=fd) hk4 hd3
     rw [HKS.out] at k1 k2 k3
     have K1:=hid k1
     have K2:=hid k2
     have K3:=hid k3
     have i0:(0:Int) ≤ (s3.length:Int):=by omega
     have i1:(s3.length:Int) < 4:=by omega
     have iw:IntKind.i64.wrap ((s3.length:Int) + 1) = (s3.length:Int) + 1:=by simp [IntKind.wrap,IntKind.bits,IntKind.signed];omega
     obtain ⟨an,cn,rfl,_,_⟩:=owns_shape ow8
     have HI8:=hid (SlC.of_owns ow8)
     have hNR:w5.heap.size ≠ R:=by omega
     have hN8:w5.heap.size < w8.heap.size:=(ge_ hNb.out).1
     have m0:=cg_ hNb.out (k:=0) rfl
     have m1:=cg_ hNb.out (k:=1) rfl
     have m2:=cg_ hNb.out (k:=2) rfl
     clear k1 k2 k3
     go_region_held3 (fun w'=>w'.cell? ⟨w5.heap.size,0,none⟩ = some (.string (bs s5))∧w'.cell? ⟨w5.heap.size,1,none⟩ = some (.slice an ns.length cn)∧w'.cell? ⟨w5.heap.size,2,none⟩ = some (.slice none 0 0))
      (first
        | (go_split_ands
           with_reducible refine ⟨ql_ (ql_ (ql_ ?_ hNR) hNR) hNR,ql_ (ql_ (ql_ ?_ hNR) hNR) hNR,ql_ (ql_ (ql_ ?_ hNR) hNR) hNR⟩
           all_goals (with_reducible assumption))
        | (go_split_ands
           with_reducible refine ⟨ql_ ?_ hNR,ql_ ?_ hNR,ql_ ?_ hNR⟩
           all_goals (with_reducible assumption))
        | (go_split_ands
           with_reducible refine ⟨bc_ hb9 ?_ ?_,bc_ hb9 ?_ ?_,bc_ hb9 ?_ ?_⟩
           all_goals (first | (with_reducible assumption) | (simp;omega)))
        | go_keep)
      (first
        | (go_at_call 90; refine (zC_ s5 ns an cn (.slice none 0 0) (Rg (w5.heap.size + 1) w8.heap.size) _ (qF_.agree HI8.out (q9_ (B := w8.heap.size) ((Below.refl _ _).drew) (fun b hb => hb.2))) (fun b hb => hb.2) none 0 0 rfl).mono ?_
           rintro e w9 ⟨rfl,hb9⟩
           have HR9:=hid (HR8.out.below (w':=w9) ⟨hb9.os,hb9.tape,hb9.output,hb9.size,hb9.block⟩)
           have fz:=fun o=>HR9.out.fz (o:=o)
           have c4:=HR9.out.cV (j:=2) rfl
           have d0:=rdr_key HR9.out K1.out
           have d1:=rdr_key1 HR9.out K2.out
           have d2:=rdr_key2 HR9.out K3.out))
     all_goals
      have HF:Rdr R t q (.int .i64 ln :: .int .i64 i :: .int .i64 (min ((s3.length:Int) + 1) 3) :: ((kys.set s3.length (kyOf s5 ns)).flatMap Ky.cells ++ [fd])) ((((w9.setCell ⟨R,5 + s3.length * 3,none⟩ (.string (bs (kyOf s5 ns).n))).setCell ⟨R,5 + s3.length * 3 + 1,none⟩ (.bool (kyOf s5 ns).h)).setCell ⟨R,5 + s3.length * 3 + 2,none⟩ (.int .i64 (kyOf s5 ns).x)).setCell ⟨R,4,none⟩ (.int .i64 (min ((s3.length:Int) + 1) 3))) ∧
       Keep (· = R) w8 ((((w9.setCell ⟨R,5 + s3.length * 3,none⟩ (.string (bs (kyOf s5 ns).n))).setCell ⟨R,5 + s3.length * 3 + 1,none⟩ (.bool (kyOf s5 ns).h)).setCell ⟨R,5 + s3.length * 3 + 2,none⟩ (.int .i64 (kyOf s5 ns).x)).setCell ⟨R,4,none⟩ (.int .i64 (min ((s3.length:Int) + 1) 3))):=
       ⟨rdr_last (by rw [HKS.out];exact HR9.out) hk4 hd3 _ _,(Keep.of_below (A:=w8) ⟨hb9.os,hb9.tape,hb9.output,hb9.size,hb9.block⟩).trans ((((Keep.setCell (O:=(· = R)) (p:=⟨R,5 + s3.length * 3,none⟩) rfl).trans (Keep.setCell (p:=⟨R,5 + s3.length * 3 + 1,none⟩) rfl)).trans (Keep.setCell (p:=⟨R,5 + s3.length * 3 + 2,none⟩) rfl)).trans (Keep.setCell (p:=⟨R,4,none⟩) rfl))⟩
      clear d0 d1 d2 c4 fz HR9 hb9
      revert HF
      generalize (((w9.setCell ⟨R,5 + s3.length * 3,none⟩ (.string (bs (kyOf s5 ns).n))).setCell ⟨R,5 + s3.length * 3 + 1,none⟩ (.bool (kyOf s5 ns).h)).setCell ⟨R,5 + s3.length * 3 + 2,none⟩ (.int .i64 (kyOf s5 ns).x)).setCell ⟨R,4,none⟩ (.int .i64 (min ((s3.length:Int) + 1) 3)) = W10
      rintro ⟨hr10,hk10⟩
      have hk4':(kys.set s3.length (kyOf s5 ns)).length = 4:=by simpa using hk4
      obtain ⟨ks',hks'⟩:∃ ks',kys.set s3.length (kyOf s5 ns) = ks':=⟨_,rfl⟩
      rw [hks'] at hr10 hk4'
      have HP10:=hid (rdr_path hr10 hk4' hd3)
      have hlp:(ks'.take (s3.length + 1)).length = s3.length + 1:=by rw [List.length_take];omega
      have HLP:=hid hlp
      have HR10:=hid hr10
      have hz10:=hk10.size
      have hRlt10:=hr10.lt
      have n1:W10.cell? ⟨w5.heap.size,1,none⟩ = some (.slice an ns.length cn):=hk10.cell hN8 hNR m1
      have HRr10:=hid ((hk10.block _ (by omega) (fun h=>hR1 h.symm)).trans HRr.out)
      have hz81:w.heap.size < W10.heap.size:=by omega
      have hNres:w5.heap.size ≠ w.heap.size:=by omega
      have i2:(0:Int) ≤ (s3.length:Int) + 1:=by omega
      have i3:(s3.length:Int) + 1 ≤ 4:=by omega
      have i4:((s3.length:Int) + 1).toNat = s3.length + 1:=by omega
      have hN10:w5.heap.size < W10.heap.size:=by omega
      clear hr10 m0 m1 m2 e0r e1r f0r f1r
      go_wp2_with fail
      go_region_held3 (fun w'=>w'.cell? ⟨w5.heap.size,1,none⟩ = some (.slice an ns.length cn))
       (first
         | (with_reducible refine ql_ (ql_ ?_ hNres) hNres
            with_reducible assumption)
         | (with_reducible refine bc_ hb11 ?_ ?_
            all_goals (first | (with_reducible assumption) | (simp;omega)))
         | go_keep)
       (first
         | (go_at_call 31; go_loud (refine (jM_ (ks'.take (s3.length + 1)) (some ⟨R, 5, none⟩) (s3.length + 1) HLP.out 4 (by omega) (· = R) _ (Pth.agree HP10.out (q9_ (B := W10.heap.size) ((Below.refl _ _).drew) (fun b hb => by rw [hb]; exact hRlt10))) (fun b hb => by rw [hb]; exact hRlt10)).mono ?_)
            rintro e w11 ⟨a11,c11,rfl,hP11,hb11⟩
            have HRr11:=hid ((hb11.block _ hz81).trans HRr10.out)
            have e0r:=cg_ HRr11.out (k:=0) rfl
            have e1r:=cg_ HRr11.out (k:=1) rfl
            have f0r:=cells_frz HRr11.out (k:=0)
            have f1r:=cells_frz HRr11.out (k:=1)))
      all_goals
       go_wp2_with fail
       have hnm:(t.drop (i + s3.length)).take s5.length = s5:=by have h1:=hs5.out;rw [← hl5.out] at h1;exact h1.symm
       have hmin:((min (s3.length + 1) 3:Nat):Int) = min ((s3.length:Int) + 1) 3:=by omega
       have hz11:=hb11.size
       simp at hz11
       refine bodyPost_ret (v := .tuple #[.agg #[.slice a11 (s3.length + 1) c11, .slice an ns.length cn], .bool true]) (yx_ (kF_ HRr11.out) rfl rfl) rfl (.inr ?_)
       rw [HRD.out]
       simp only [hnm,hks']
       have hw5:=HR5.out
       have hww:w.heap.size ≤ w8.heap.size:=by omega
       refine ⟨trivial,a11,c11,an,cn,rfl,?_,?_,?_,?_⟩
       · refine (Pth.agree hP11 (fun b hb=>?_)).wide (fun b hb=>⟨by have:=hb.1;simp at this;omega,by simpa [World.setCell] using hb.2⟩)
         have h1:b ≠ w.heap.size:=by have:=hb.1;simp at this;omega
         rw [Below.heap_setCell _ _ _ _ h1,Below.heap_setCell _ _ _ _ h1]
       · refine (qF_.agree HI8.out (fun b hb=>?_)).wide (fun b hb=>⟨by have:=hb.1;omega,by have:=hb.2;simp [World.setCell];omega⟩)
         have h0:=hb.1
         have h2:=hb.2
         have h1:b ≠ w.heap.size:=by omega
         rw [Below.heap_setCell _ _ _ _ h1,Below.heap_setCell _ _ _ _ h1]
         exact (hb11.block b (by simp;omega)).trans (hk10.block b h2 (by omega))
       · rw [show i + (s3.length + s5.length + (q - q0)) = q by omega,hmin]
         exact ((Rdr.below HR10.out (w':=w11) ⟨hb11.os,hb11.tape,hb11.output,hb11.size,hb11.block⟩).setFar hR1).setFar hR1
       · exact ((((HK5.out.trans HKr.out).trans hk10).trans (Keep.of_below (A:=W10) ⟨hb11.os,hb11.tape,hb11.output,hb11.size,hb11.block⟩)).setNew (nl_ _)).setNew (nl_ _)
   · have h10':(nxt t q != 10) = true:=by simp [h10]
     have hok:((t.drop q).head? == some 10) = false:=by
      cases hh:((t.drop q).head? == some 10) with
      | false=>rfl
      | true=>exact absurd (hNT.2 (by simpa using hh)) h10
     rw [hok] at hrd
     have HRD:=hid hrd
     clear hrd h10 hNT
     go_wp2_with fail
     refine bodyPost_ret (v := .tuple #[.agg #[.slice none 0 0, .slice none 0 0], .bool false]) (yx_ (kF_ HRr.out) rfl rfl) rfl (.inl ⟨by rw [HRD.out],rfl,?_,?_⟩)
     · rw [HRD.out]
       rw [show i + (s3.length + s5.length + (q - q0)) = q by omega]
       exact ⟨_,(HR8.out.setFar hR1).setFar hR1⟩
     · exact ((HK5.out.trans HKr.out).setNew (nl_ _)).setNew (nl_ _)
end Go.Proofs.LF