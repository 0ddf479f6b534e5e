/- Parts of the proof of a law of layer 11 (file): LbS10, LbS11, LbS10p, LbS12, LbS13, LbS14, LbS15, LbS16. The conditions stand in each theorem. -/
import Derived.Deep.MidRow
import Derived.Deep.WholeRow
import Derived.Stop.BytesEq
import Derived.Test.YtffjknkcogmnbaaGreatDoorProg
import Derived.Test.YtffjknkcogmnbaaGreatDoorTyal
import Derived.Test.YtffjknkcogmnbaaGreatDoorTybi
import Derived.Test.YtffjknkcogmnbaaGreatDoorTybj
set_option linter.all false
set_option linter.unusedVariables false
set_option linter.unusedSimpArgs false
namespace Go.Proofs.LS
open Go.RowKit Go.Sort Go.Proofs.LF Go.Proofs.LB
set_option maxHeartbeats 4000000
set_option maxRecDepth 100000
attribute [local go_sem] q1_ q2_ q8_
theorem NetS.kept {B N:Nat} {v:Value} {ws:List Way} {W W':World} (h:NetS B N v ws W) (hN:W'.heap[N]? = W.heap[N]?) (hv:∀ g,v.ownBlock = some g→W'.heap[g]? = W.heap[g]?):NetS B N v ws W':=⟨hN.trans h.n,q3_ h.own hv,h.lt⟩
def qT_ (ws:List Way) (k j:Nat):List Cg:=qN_ ws k ++ (([⟨k,true⟩,⟨k,false⟩]:List Cg).take j).filter fun c=>decide (0 < eR ws c)
theorem vF_ (ws:List Way) (k:Nat):qT_ ws k 0 = qN_ ws k:=by simp [qT_]
theorem va_ (ws:List Way) (k:Nat):qT_ ws k 2 = qN_ ws (k + 1):=by
 rw [qT_,qN_,qN_,chs,List.filter_append];rfl
theorem vR_ (ws:List Way) (k j:Nat) (b:Bool) (hj:(j = 0∧b = true) ∨ (j = 1∧b = false)):qT_ ws k (j + 1) = if 0 < eR ws ⟨k,b⟩ then qT_ ws k j ++ [⟨k,b⟩] else qT_ ws k j:=by
 rcases hj with ⟨rfl,rfl⟩ | ⟨rfl,rfl⟩
 · simp only [qT_]
   by_cases h:0 < eR ws ⟨k,true⟩ <;> simp [h]
 · simp only [qT_]
   by_cases h:0 < eR ws ⟨k,false⟩ <;> by_cases h2:0 < eR ws ⟨k,true⟩ <;> simp [h,h2]
theorem zt_ {ws:List Way} (hW:WB ws) {c:Cg} (hc:c.way < ws.length):eF ws c < 12∧eT ws c < 12∧(-1 ≤ eC ws c∧eC ws c ≤ 1)∧(-1000000 ≤ eR ws c∧eR ws c ≤ 1000000):=by
 have hg:ws.getD c.way Way.z = ws[c.way]:=by simp [List.getD_eq_getElem?_getD,List.getElem?_eq_getElem hc]
 have:=hW _ (List.getElem_mem hc)
 rw [eF,eT,eC,eR,hg]
 cases c.more <;> simp <;> omega
theorem jb_ {σ:Type} (gf:Nat) (hE:LF.zn_ gf) (lb:Array Value) (B N:Nat) (v:Value) (ws:List Way) (R:σ→World→Prop) (step:σ→Cg→σ) (O:Nat→Prop) (w:World) (s0:σ) (hN:NetS B N v ws w) (hW:WB ws) (hlen:ws.length ≤ 100)
 (hO:∀ b,O b→b < w.heap.size∧b ≠ N∧v.ownBlock ≠ some b) (hR0:R s0 w) (hRk:∀ s W W',R s W→(∀ b,O b→W'.heap[b]? = W.heap[b]?)→R s W')
 (hstep:∀ s c W,c ∈ qN_ ws ws.length→R s W→w.heap.size ≤ W.heap.size→Calls Tryz.prog gf (#[.agg #[.int .i64 c.way, .bool c.more], .int .i64 (eF ws c), .int .i64 (eT ws c), .int .i64 (eC ws c), .int .i64 (eR ws c)] ++ lb) W fun e W'=>(∃ r,e = .returned r)∧R (step s c) W'∧Keep O W W') :
 Calls Tryz.prog 158 #[.pointer (some ⟨N,0,none⟩), .func (.func gf) #[] lb] w fun e w'=>(∃ r,e = .returned r)∧R ((qN_ ws ws.length).foldl step s0) w'∧Keep O w w':=by
 have hE':∀ (args:Array Value) (W:World),Sem.run Tryz.prog (callFunc gf args) W = .ok (.enter gf args) W:=hE
 have HN:=hid hN
 have HW:=hid hW
 have HO:=hid hO
 have HR0:=hid hR0
 have HRK:=hid hRk
 have HST:=hid hstep
 have hsh:=owns_shape hN.own
 obtain ⟨ga,gc,rfl,_,_⟩:=hsh
 have NK:=hid (fun (W:World) (hk:Keep O w W)=>HN.out.kept (hk.block N (ge_ HN.out.n).1 (fun h=>(HO.out _ h).2.1 rfl)) fun g hg=>hk.block g (HN.out.own.lt g hg).2 fun h=>(HO.out g h).2.2 hg)
 have n0:=cg_ HN.out.n (k:=0) (v := .slice ga ws.length gc) rfl
 clear hE hN hW hO hR0 hRk hstep
 go_enter Tryz.func158,Tryz.ntmps158
 go_wp2_with fail
 go_loopw [17] (fun vi wr=>∃ i:Nat,i ≤ ws.length∧vi = .int .i64 i∧Hid (R ((qN_ ws i).foldl step s0) wr)∧Hid (Keep O w wr)) (fun vi _=>ws.length - (intOf vi).toNat)
 case atStart=>exact ⟨0,by omega,rfl,HR0.out,Keep.refl _ _⟩
 case round=>
  obtain ⟨i,hi,rfl,HR,HK⟩:=hrel
  by_cases hlt:i < ws.length
  · have hlt':(i:Int) < (ws.length:Int):=by omega
    clear n0
    obtain ⟨w1,hw1⟩:∃ w1,wr.alloc (.cells #[.bool true, .bool false] 4) = w1:=⟨_,rfl⟩
    have hb1:Below wr.heap.size wr w1:=by rw [← hw1];exact (Below.refl _ _).alloc (nl_ _) _
    have hn1:w1.heap[wr.heap.size]? = some (.cells #[.bool true, .bool false] 4 (0,0)):=by rw [← hw1];exact ha_ _ _
    have BN:=hid hn1
    have HK1:=hid (HK.out.trans (Keep.of_below hb1))
    have HR1:=hid (HRK.out _ _ w1 HR.out fun b hb=>hb1.block b (by have:=(HO.out b hb).1;have:=HK.out.size;omega))
    have hzz:=HK.out.size
    obtain ⟨bs,hbs⟩:∃ b,wr.heap.size = b:=⟨_,rfl⟩
    rw [hbs] at BN hzz
    clear hn1 hb1 HR HK
    go_wp2_with fail
    try rw [hw1]
    try simp only [hbs]
    clear hw1 hbs
    go_loopw [22] (fun vk wk=>∃ j:Nat,j ≤ 2∧vk = .int .i64 j∧Hid (R ((qT_ ws i j).foldl step s0) wk)∧Hid (Keep O w wk)∧Hid (wk.heap[bs]? = some (.cells #[.bool true, .bool false] 4 (0,0)))) (fun vk _=>2 - (intOf vk).toNat)
    case atStart=>exact ⟨0,by omega,rfl,by rw [vF_];exact HR1.out,HK1.out,BN.out⟩
    case round=>
     obtain ⟨j,hj,rfl,HR,HK,HBN⟩:=hrel
     by_cases hj2:j < 2
     · obtain ⟨b,hb⟩:∃ b:Bool,(j = 0∧b = true) ∨ (j = 1∧b = false):=by
        rcases (show j = 0 ∨ j = 1 by omega) with h | h
        · exact ⟨true, .inl ⟨h,rfl⟩⟩
        · exact ⟨false, .inr ⟨h,rfl⟩⟩
       have hcell:wr.cell? ⟨bs,j,none⟩ = some (.bool b):=by
        rcases hb with ⟨rfl,rfl⟩ | ⟨rfl,rfl⟩
        · exact cg_ HBN.out (k:=0) rfl
        · exact cg_ HBN.out (k:=1) rfl
       have hjI:(j:Int) < 2:=by omega
       have hj0:(0:Int) ≤ (j:Int):=by omega
       have HJ:=hid (vR_ ws i j b hb)
       have HBJ:=hid hb
       obtain ⟨w2,hw2⟩:∃ w2,wr.alloc (.cells #[.int .i64 i, .bool b] 237) = w2:=⟨_,rfl⟩
       have hb2:Below wr.heap.size wr w2:=by rw [← hw2];exact (Below.refl _ _).alloc (nl_ _) _
       have hn2:w2.heap[wr.heap.size]? = some (.cells #[.int .i64 i, .bool b] 237 (0,0)):=by rw [← hw2];exact ha_ _ _
       have HK2:=hid (HK.out.trans (Keep.of_below hb2))
       have HR2:=hid (HRK.out _ _ w2 HR.out fun b hb=>hb2.block b (by have:=(HO.out b hb).1;have:=HK.out.size;omega))
       have BN2:=hid (q0_ HBN.out hb2)
       have hzk:=HK.out.size
       have CN:=hid hn2
       have EN:=hid (zT_ B N ⟨i,b⟩ _ ws w2 (NK.out w2 HK2.out) hlt HW.out)
       have EB:=hid (zt_ HW.out (c:=⟨i,b⟩) hlt)
       have hc0:=cg_ hn2 (k:=0) (v := .int .i64 i) rfl
       have hc1:=cg_ hn2 (k:=1) (v := .bool b) rfl
       obtain ⟨bc,hbc⟩:∃ b,wr.heap.size = b:=⟨_,rfl⟩
       rw [hbc] at CN hzk hc0 hc1
       clear hb hn2 hb2 HR HK HBN
       go_wp2_with fail
       try simp only [hbc]
       clear hbc hc0 hc1 hcell
       refine EN.out.mono ?_
       rintro e w3 ⟨rfl,hb3⟩
       have HK3:=hid (HK2.out.trans (Keep.of_below hb3))
       have HR3:=hid (HRK.out _ _ w3 HR2.out fun b hb=>hb3.block b (by have:=(HO.out b hb).1;have:=HK2.out.size;omega))
       have BN3:=hid (q0_ BN2.out hb3)
       have CN3:=hid (q0_ CN.out hb3)
       clear hb3 HK2 HR2 BN2 CN EN
       obtain ⟨fF,hfF⟩:∃ x,eF ws ⟨i,b⟩ = x:=⟨_,rfl⟩
       obtain ⟨fT,hfT⟩:∃ x,eT ws ⟨i,b⟩ = x:=⟨_,rfl⟩
       obtain ⟨fC,hfC⟩:∃ x,eC ws ⟨i,b⟩ = x:=⟨_,rfl⟩
       obtain ⟨fR,hfR⟩:∃ x,eR ws ⟨i,b⟩ = x:=⟨_,rfl⟩
       have ST:=hid (fun s W (hc:(⟨i,b⟩:Cg) ∈ qN_ ws ws.length)=>HST.out s ⟨i,b⟩ W hc)
       simp only [hfF,hfT,hfC,hfR] at ST HJ ⊢
       have HFR:=hid hfR
       clear hfF hfT hfC hfR
       by_cases hr:0 < fR
       · have hlv:(⟨i,b⟩:Cg) ∈ qN_ ws ws.length:=qp_.2 ⟨hlt,by rw [HFR.out];exact hr⟩
         have ST2:=hid (ST.out _ w3 hlv HR3.out HK3.out.size)
         have HJ2:=hid (show qT_ ws i (j + 1) = qT_ ws i j ++ [⟨i,b⟩] by rw [HJ.out,if_pos hr])
         have hc0:=cg_ CN3.out (k:=0) (v := .int .i64 i) rfl
         have hc1:=cg_ CN3.out (k:=1) (v := .bool b) rfl
         clear ST hlv HJ HFR
         go_wp2_with fail
         refine ST2.out.mono ?_
         rintro e w4 ⟨⟨r,rfl⟩,hR4,hK4⟩
         have BN4:=hid ((hK4.block bs (ge_ BN3.out).1 (fun h=>by have:=(HO.out _ h).1;omega)).trans BN3.out)
         have HR4:=hid (show R ((qT_ ws i (j + 1)).foldl step s0) w4 by rw [HJ2.out,List.foldl_append];exact hR4)
         have HK4:=hid (HK3.out.trans hK4)
         clear hR4 hK4 hc0 hc1 ST2 HJ2 BN3 HR3 HK3 CN3
         go_wp2_with fail
         go_roundw
         case rel=>exact ⟨j + 1,by omega,by go_num,HR4.out,HK4.out,BN4.out⟩
         case measure=>simp [intOf];omega
       · have HJ2:=hid (show qT_ ws i (j + 1) = qT_ ws i j by rw [HJ.out,if_neg hr])
         have HR4:=hid (show R ((qT_ ws i (j + 1)).foldl step s0) w3 by rw [HJ2.out];exact HR3.out)
         clear ST HJ HFR HJ2 HR3 CN3
         go_wp2_with fail
         go_roundw
         case rel=>exact ⟨j + 1,by omega,by go_num,HR4.out,HK3.out,BN3.out⟩
         case measure=>simp [intOf];omega
     · obtain rfl:j = 2:=by omega
       have HR4:=hid (show R ((qN_ ws (i + 1)).foldl step s0) wr by rw [← va_];exact HR.out)
       clear HR HBN
       go_wp2_with fail
       go_roundw
       case rel=>exact ⟨i + 1,by omega,by go_num,HR4.out,HK.out⟩
       case measure=>simp [intOf];omega
  · obtain rfl:i = ws.length:=by omega
    go_wp2_with fail
    go_end0
    exact ⟨⟨_,rfl⟩,HR.out,HK.out⟩
def mV (l:List Bool):Array Value:=(l.map Value.bool).toArray
def cgL (c:Cg):List Value:=[.int .i64 c.way, .bool c.more]
def byV (l:List Cg):Array Value:=(l.flatMap cgL).toArray
theorem mV_set (l:List Bool) (b:Nat) (x:Bool):(mV l).setIfInBounds b (.bool x) = mV (l.set b x):=by
 simp [mV,List.map_set]
theorem y4_ {l:List Bool} {b:Nat} (h:b < l.length):(mV l)[b]? = some (.bool (l.getD b false)):=by
 simp [mV,List.getD_eq_getElem?_getD,List.getElem?_eq_getElem h]
theorem byL_set:∀ (l:List Cg) (b:Nat) (c:Cg),((l.flatMap cgL).set (b * 2) (.int .i64 c.way)).set (b * 2 + 1) (.bool c.more) = (l.set b c).flatMap cgL
 | [],b,c=>by simp
 | x :: l,0,c=>by simp [cgL]
 | x :: l,b + 1,c=>by
   have ih:=byL_set l b c
   rw [List.set_cons_succ,List.flatMap_cons,List.flatMap_cons,← ih,show (b + 1) * 2 = b * 2 + 2 by omega,show b * 2 + 2 + 1 = (b * 2 + 1) + 2 by omega]
   simp [cgL]
theorem byV_set (l:List Cg) (b:Nat) (c:Cg):((byV l).setIfInBounds (b * 2) (.int .i64 c.way)).setIfInBounds (b * 2 + 1) (.bool c.more) = byV (l.set b c):=by
 simp only [byV,List.setIfInBounds_toArray,byL_set]
theorem xa_:∀ {l:List Cg} {b:Nat} (h:b < l.length),(l.flatMap cgL)[b * 2]? = some (.int .i64 (l.getD b Cg.z).way)∧(l.flatMap cgL)[b * 2 + 1]? = some (.bool (l.getD b Cg.z).more)
 | x :: l,0,_=>by simp [cgL]
 | x :: l,b + 1,h=>by
   have ih:=xa_ (l:=l) (b:=b) (by simpa using h)
   rw [List.flatMap_cons,show (b + 1) * 2 = b * 2 + 2 by omega,show b * 2 + 2 + 1 = (b * 2 + 1) + 2 by omega]
   simpa [cgL] using ih
theorem zH_ {l:List Cg} {b:Nat} (h:b < l.length):(byV l)[b * 2]? = some (.int .i64 (l.getD b Cg.z).way)∧(byV l)[b * 2 + 1]? = some (.bool (l.getD b Cg.z).more):=by
 simpa [byV] using xa_ h
structure PR (bm bb:Nat) (s:PS) (W:World):Prop where
 m:W.heap[bm]? = some (.cells (mV s.met) 231 (0,0))
 b:W.heap[bb]? = some (.cells (byV s.by_) 276 (0,0))
 lm:s.met.length = 12
 lb:s.by_.length = 12
theorem enters159:LF.zn_ 159:=by intro args W;simp [go_sem]
def pSt (s:PS) (a b:Nat) (c:Cg):PS:=if s.met.getD a false && !s.met.getD b false then ⟨s.met.set b true,s.by_.set b c⟩ else s
theorem qe_ {W:World} {b k:Nat} {v:Value} {cs:Array Value} {t:TypeId} (h:W.heap[b]? = some (.cells cs t (0,0))):(W.setCell ⟨b,k,none⟩ v).heap[b]? = some (.cells (cs.setIfInBounds k v) t (0,0)):=by
 simp [World.setCell,Array.getElem?_modify,h]
theorem path1_any (bm bb a b:Nat) (co ro:Int) (c:Cg) (s:PS) (w:World) (hR:PR bm bb s w) (hne:bm ≠ bb) (ha:a < 12) (hb:b < 12) :
 Calls Tryz.prog 159 #[.agg #[.int .i64 c.way, .bool c.more], .int .i64 a, .int .i64 b, .int .i64 co, .int .i64 ro, .pointer (some ⟨bm,0,none⟩), .pointer (some ⟨bb,0,none⟩)] w fun e w'=>(∃ r,e = .returned r)∧PR bm bb (pSt s a b c) w'∧Keep (fun k=>k = bm ∨ k = bb) w w':=by
 obtain ⟨w1,hw1⟩:∃ w1,w.alloc (.cells #[.int .i64 c.way, .bool c.more] 237) = w1:=⟨_,rfl⟩
 have hb1:Below w.heap.size w w1:=by rw [← hw1];exact (Below.refl _ _).alloc (nl_ _) _
 have hn1:w1.heap[w.heap.size]? = some (.cells #[.int .i64 c.way, .bool c.more] 237 (0,0)):=by rw [← hw1];exact ha_ _ _
 have hm1:=q0_ hR.m hb1
 have hbb1:=q0_ hR.b hb1
 have lm:=hR.lm
 have lb:=hR.lb
 have ma:=cg_ hm1 (y4_ (b:=a) (by omega))
 have mb:=cg_ hm1 (y4_ (b:=b) (by omega))
 have hml:=(ge_ hR.m).1
 have hbl:=(ge_ hR.b).1
 have haI:(a:Int) < 12:=by omega
 have hbI:(b:Int) < 12:=by omega
 have ha0:(0:Int) ≤ (a:Int):=by omega
 have hb0:(0:Int) ≤ (b:Int):=by omega
 obtain ⟨va,hva⟩:∃ v,s.met.getD a false = v:=⟨_,rfl⟩
 obtain ⟨vb,hvb⟩:∃ v,s.met.getD b false = v:=⟨_,rfl⟩
 rw [hva] at ma
 rw [hvb] at mb
 have HK1:=hid (Keep.of_below (O:=fun k=>k = bm ∨ k = bb) hb1)
 have HR1:=hid (show PR bm bb s w1 from ⟨hm1,hbb1,lm,lb⟩)
 have HS:=hid (show pSt s a b c = if va && !vb then ⟨s.met.set b true,s.by_.set b c⟩ else s by rw [pSt,hva,hvb])
 cases va with
 | false=>
   have HS2:=hid (show pSt s a b c = s from HS.out)
   clear hva hvb HS hR hm1 hbb1 hn1 hb1
   go_enter Tryz.func159,Tryz.ntmps159
   go_wp2_with fail
   go_end0
   rw [HS2.out]
   exact ⟨⟨_,rfl⟩,HR1.out,HK1.out⟩
 | true=>
   cases vb with
   | true=>
     have HS2:=hid (show pSt s a b c = s from HS.out)
     clear hva hvb HS hR hm1 hbb1 hn1 hb1
     go_enter Tryz.func159,Tryz.ntmps159
     go_wp2_with fail
     go_end0
     rw [HS2.out]
     exact ⟨⟨_,rfl⟩,HR1.out,HK1.out⟩
   | false=>
     have HS2:=hid (show pSt s a b c = ⟨s.met.set b true,s.by_.set b c⟩ from HS.out)
     have CN:=hid hn1
     have hlt1:=(ge_ hn1).1
     obtain ⟨bx,hbx⟩:∃ x,w.heap.size = x:=⟨_,rfl⟩
     have hc0:=cg_ hn1 (k:=0) (v := .int .i64 c.way) rfl
     have hc1:=cg_ hn1 (k:=1) (v := .bool c.more) rfl
     rw [hbx] at CN hlt1 hc0 hc1 hml hbl
     clear hva hvb HS hR hm1 hbb1 hn1 hb1
     go_enter Tryz.func159,Tryz.ntmps159
     go_wp2_with fail
     try rw [hw1]
     try simp only [hbx]
     clear hw1 hbx ma mb
     have hbd:Below w1.heap.size w1 w1.drew:=(Below.refl _ w1).drew
     obtain ⟨x0,hx0⟩:∃ x0,w1.drew = x0:=⟨_,rfl⟩
     rw [hx0] at hbd
     have CN0:=hid (q0_ CN.out hbd)
     have M0:=hid (q0_ HR1.out.m hbd)
     have B0:=hid (q0_ HR1.out.b hbd)
     have K0:=hid (HK1.out.trans (Keep.of_below hbd))
     have SC:=hid (fun (V:World) (h:V.heap[bx]? = some (.cells #[.int .i64 c.way, .bool c.more] 237 (0,0)))=>show V.cell? ⟨bx,0,none⟩ = some (.int .i64 c.way)∧V.cell? ⟨bx,1,none⟩ = some (.bool c.more) from ⟨cg_ h (k:=0) rfl,cg_ h (k:=1) rfl⟩)
     have hS0:=SC.out x0 CN0.out
     refine (wpIn_wide (n:=9)).1 ?_
     refine q6_ (fun V:World=>V.cell? ⟨bx,0,none⟩ = some (.int .i64 c.way)∧V.cell? ⟨bx,1,none⟩ = some (.bool c.more)) (by kernel_rfl) ?_
     rw [hx0]
     clear hx0 hbd hc0 hc1
     refine tkZ 0 21 (.int .i64 b) rfl rfl hS0 ?_
     refine tkZ 1 22 (.int .i64 b) rfl rfl hS0 ?_
     refine tkZ 2 23 (.agg #[.int .i64 c.way, .bool c.more]) rfl rfl hS0 ?_
     refine tkZ 3 24 (.pointer (some ⟨bm,b,none⟩)) rfl rfl hS0 ?_
     refine aHO 4 rfl fun K hK=>?_
     have z0:=cg_ M0.out (y4_ (b:=b) (by omega))
     have z1:=q5_ M0.out (k:=b)
     have C1:=hid (show (x0.setCell ⟨bm,b,none⟩ (.bool true)).heap[bx]? = _ from (Below.heap_setCell _ _ _ _ (by simp;omega)).trans CN0.out)
     have M1:=hid (show (x0.setCell ⟨bm,b,none⟩ (.bool true)).heap[bm]? = some (.cells (mV (s.met.set b true)) 231 (0,0)) by rw [qe_ M0.out,mV_set])
     have B1:=hid (show (x0.setCell ⟨bm,b,none⟩ (.bool true)).heap[bb]? = _ from (Below.heap_setCell _ _ _ _ (by simp;omega)).trans B0.out)
     have K1:=hid (K0.out.trans (Keep.setCell (A:=x0) (p:=⟨bm,b,none⟩) (v := .bool true) (.inl rfl)))
     go_simp
     have hS1:=SC.out _ C1.out
     refine hK _ _ ⟨hS1,?_⟩
     obtain ⟨x1,hx1⟩:∃ x1,x0.setCell ⟨bm,b,none⟩ (.bool true) = x1:=⟨_,rfl⟩
     rw [hx1] at C1 M1 B1 K1 hS1 ⊢
     clear hK z0 z1 hx1 hS0 M0 B0 K0 CN0
     refine tkZ 5 25 (.pointer (some ⟨bb,b * 2,none⟩)) rfl rfl hS1 ?_
     refine aHO 6 rfl fun K hK=>?_
     have z0:=cg_ B1.out (zH_ (b:=b) (by omega)).1
     have z1:=q5_ B1.out (k:=b * 2)
     have z2:=cg_ B1.out (zH_ (b:=b) (by omega)).2
     have z3:=q5_ B1.out (k:=b * 2 + 1)
     have C2:=hid (show ((x1.setCell ⟨bb,b * 2,none⟩ (.int .i64 c.way)).setCell ⟨bb,b * 2 + 1,none⟩ (.bool c.more)).heap[bx]? = _ from (Below.heap_setCell _ _ _ _ (by simp;omega)).trans ((Below.heap_setCell _ _ _ _ (by simp;omega)).trans C1.out))
     have M2:=hid (show ((x1.setCell ⟨bb,b * 2,none⟩ (.int .i64 c.way)).setCell ⟨bb,b * 2 + 1,none⟩ (.bool c.more)).heap[bm]? = _ from (Below.heap_setCell _ _ _ _ (by simp;omega)).trans ((Below.heap_setCell _ _ _ _ (by simp;omega)).trans M1.out))
     have B2:=hid (show ((x1.setCell ⟨bb,b * 2,none⟩ (.int .i64 c.way)).setCell ⟨bb,b * 2 + 1,none⟩ (.bool c.more)).heap[bb]? = some (.cells (byV (s.by_.set b c)) 276 (0,0)) by rw [qe_ (qe_ B1.out),byV_set])
     have K2:=hid ((K1.out.trans (Keep.setCell (A:=x1) (p:=⟨bb,b * 2,none⟩) (v := .int .i64 c.way) (.inr rfl))).trans (Keep.setCell (p:=⟨bb,b * 2 + 1,none⟩) (v := .bool c.more) (.inr rfl)))
     go_simp
     have hS2:=SC.out _ C2.out
     refine hK _ _ ⟨hS2,?_⟩
     clear hK z0 z1 z2 z3 hS1
     refine q7_ (by kernel_rfl) ?_
     go_simp
     go_wp2_with fail
     go_end0
     rw [HS2.out]
     exact ⟨⟨_,rfl⟩,⟨M2.out,B2.out,by simpa using lm,by simpa using lb⟩,K2.out⟩
theorem ya_ (ws:List Way) (k:Nat):∀ d,qN_ ws k <+: qN_ ws (k + d)
 | 0=>List.prefix_refl _
 | d + 1=>(ya_ ws k d).trans (by rw [show k + (d + 1) = (k + d) + 1 by omega,qN_,qN_,chs,List.filter_append];exact List.prefix_append _ _)
theorem liveJ_pre (ws:List Way) (k:Nat) (hk:k < ws.length) {j:Nat} (hj:j ≤ 2):qT_ ws k j <+: qN_ ws ws.length:=by
 have h1:=ya_ ws (k + 1) (ws.length - (k + 1))
 rw [show k + 1 + (ws.length - (k + 1)) = ws.length by omega,← va_] at h1
 refine List.IsPrefix.trans ?_ h1
 rw [qT_,qT_,List.prefix_append_right_inj]
 exact List.IsPrefix.filter _ (List.take_prefix_take_left hj)
theorem jI_ (gf:Nat) (hE:LF.zn_ gf) (lb:Array Value) (B N:Nat) (v:Value) (ws:List Way) (R:List Cg→World→Prop) (O:Nat→Prop) (w:World) (hN:NetS B N v ws w) (hW:WB ws) (hlen:ws.length ≤ 100)
 (hO:∀ b,O b→b < w.heap.size∧b ≠ N∧v.ownBlock ≠ some b) (hR0:R [] w) (hRk:∀ s W W',R s W→(∀ b,O b→W'.heap[b]? = W.heap[b]?)→R s W')
 (hstep:∀ s c W,s ++ [c] <+: qN_ ws ws.length→R s W→w.heap.size ≤ W.heap.size→Calls Tryz.prog gf (#[.agg #[.int .i64 c.way, .bool c.more], .int .i64 (eF ws c), .int .i64 (eT ws c), .int .i64 (eC ws c), .int .i64 (eR ws c)] ++ lb) W fun e W'=>(∃ r,e = .returned r)∧R (s ++ [c]) W'∧Keep O W W') :
 Calls Tryz.prog 158 #[.pointer (some ⟨N,0,none⟩), .func (.func gf) #[] lb] w fun e w'=>(∃ r,e = .returned r)∧R (qN_ ws ws.length) w'∧Keep O w w':=by
 have hE':∀ (args:Array Value) (W:World),Sem.run Tryz.prog (callFunc gf args) W = .ok (.enter gf args) W:=hE
 have HN:=hid hN
 have HW:=hid hW
 have HO:=hid hO
 have HR0:=hid hR0
 have HRK:=hid hRk
 have HST:=hid hstep
 have hsh:=owns_shape hN.own
 obtain ⟨ga,gc,rfl,_,_⟩:=hsh
 have NK:=hid (fun (W:World) (hk:Keep O w W)=>HN.out.kept (hk.block N (ge_ HN.out.n).1 (fun h=>(HO.out _ h).2.1 rfl)) fun g hg=>hk.block g (HN.out.own.lt g hg).2 fun h=>(HO.out g h).2.2 hg)
 have n0:=cg_ HN.out.n (k:=0) (v := .slice ga ws.length gc) rfl
 clear hE hN hW hO hR0 hRk hstep
 go_enter Tryz.func158,Tryz.ntmps158
 go_wp2_with fail
 go_loopw [17] (fun vi wr=>∃ i:Nat,i ≤ ws.length∧vi = .int .i64 i∧Hid (R (qN_ ws i) wr)∧Hid (Keep O w wr)) (fun vi _=>ws.length - (intOf vi).toNat)
 case atStart=>exact ⟨0,by omega,rfl,HR0.out,Keep.refl _ _⟩
 case round=>
  obtain ⟨i,hi,rfl,HR,HK⟩:=hrel
  by_cases hlt:i < ws.length
  · have hlt':(i:Int) < (ws.length:Int):=by omega
    clear n0
    obtain ⟨w1,hw1⟩:∃ w1,wr.alloc (.cells #[.bool true, .bool false] 4) = w1:=⟨_,rfl⟩
    have hb1:Below wr.heap.size wr w1:=by rw [← hw1];exact (Below.refl _ _).alloc (nl_ _) _
    have hn1:w1.heap[wr.heap.size]? = some (.cells #[.bool true, .bool false] 4 (0,0)):=by rw [← hw1];exact ha_ _ _
    have BN:=hid hn1
    have HK1:=hid (HK.out.trans (Keep.of_below hb1))
    have HR1:=hid (HRK.out _ _ w1 HR.out fun b hb=>hb1.block b (by have:=(HO.out b hb).1;have:=HK.out.size;omega))
    have hzz:=HK.out.size
    obtain ⟨bs,hbs⟩:∃ b,wr.heap.size = b:=⟨_,rfl⟩
    rw [hbs] at BN hzz
    clear hn1 hb1 HR HK
    go_wp2_with fail
    try rw [hw1]
    try simp only [hbs]
    clear hw1 hbs
    go_loopw [22] (fun vk wk=>∃ j:Nat,j ≤ 2∧vk = .int .i64 j∧Hid (R (qT_ ws i j) wk)∧Hid (Keep O w wk)∧Hid (wk.heap[bs]? = some (.cells #[.bool true, .bool false] 4 (0,0)))) (fun vk _=>2 - (intOf vk).toNat)
    case atStart=>exact ⟨0,by omega,rfl,by rw [vF_];exact HR1.out,HK1.out,BN.out⟩
    case round=>
     obtain ⟨j,hj,rfl,HR,HK,HBN⟩:=hrel
     by_cases hj2:j < 2
     · obtain ⟨b,hb⟩:∃ b:Bool,(j = 0∧b = true) ∨ (j = 1∧b = false):=by
        rcases (show j = 0 ∨ j = 1 by omega) with h | h
        · exact ⟨true, .inl ⟨h,rfl⟩⟩
        · exact ⟨false, .inr ⟨h,rfl⟩⟩
       have hcell:wr.cell? ⟨bs,j,none⟩ = some (.bool b):=by
        rcases hb with ⟨rfl,rfl⟩ | ⟨rfl,rfl⟩
        · exact cg_ HBN.out (k:=0) rfl
        · exact cg_ HBN.out (k:=1) rfl
       have hjI:(j:Int) < 2:=by omega
       have hj0:(0:Int) ≤ (j:Int):=by omega
       have HJ:=hid (vR_ ws i j b hb)
       have HBJ:=hid hb
       obtain ⟨w2,hw2⟩:∃ w2,wr.alloc (.cells #[.int .i64 i, .bool b] 237) = w2:=⟨_,rfl⟩
       have hb2:Below wr.heap.size wr w2:=by rw [← hw2];exact (Below.refl _ _).alloc (nl_ _) _
       have hn2:w2.heap[wr.heap.size]? = some (.cells #[.int .i64 i, .bool b] 237 (0,0)):=by rw [← hw2];exact ha_ _ _
       have HK2:=hid (HK.out.trans (Keep.of_below hb2))
       have HR2:=hid (HRK.out _ _ w2 HR.out fun b hb=>hb2.block b (by have:=(HO.out b hb).1;have:=HK.out.size;omega))
       have BN2:=hid (q0_ HBN.out hb2)
       have hzk:=HK.out.size
       have CN:=hid hn2
       have EN:=hid (zT_ B N ⟨i,b⟩ _ ws w2 (NK.out w2 HK2.out) hlt HW.out)
       have EB:=hid (zt_ HW.out (c:=⟨i,b⟩) hlt)
       have hc0:=cg_ hn2 (k:=0) (v := .int .i64 i) rfl
       have hc1:=cg_ hn2 (k:=1) (v := .bool b) rfl
       obtain ⟨bc,hbc⟩:∃ b,wr.heap.size = b:=⟨_,rfl⟩
       rw [hbc] at CN hzk hc0 hc1
       clear hb hn2 hb2 HR HK HBN
       go_wp2_with fail
       try simp only [hbc]
       clear hbc hc0 hc1 hcell
       refine EN.out.mono ?_
       rintro e w3 ⟨rfl,hb3⟩
       have HK3:=hid (HK2.out.trans (Keep.of_below hb3))
       have HR3:=hid (HRK.out _ _ w3 HR2.out fun b hb=>hb3.block b (by have:=(HO.out b hb).1;have:=HK2.out.size;omega))
       have BN3:=hid (q0_ BN2.out hb3)
       have CN3:=hid (q0_ CN.out hb3)
       clear hb3 HK2 HR2 BN2 CN EN
       obtain ⟨fF,hfF⟩:∃ x,eF ws ⟨i,b⟩ = x:=⟨_,rfl⟩
       obtain ⟨fT,hfT⟩:∃ x,eT ws ⟨i,b⟩ = x:=⟨_,rfl⟩
       obtain ⟨fC,hfC⟩:∃ x,eC ws ⟨i,b⟩ = x:=⟨_,rfl⟩
       obtain ⟨fR,hfR⟩:∃ x,eR ws ⟨i,b⟩ = x:=⟨_,rfl⟩
       have ST:=hid (fun s W (hc:s ++ [(⟨i,b⟩:Cg)] <+: qN_ ws ws.length)=>HST.out s ⟨i,b⟩ W hc)
       simp only [hfF,hfT,hfC,hfR] at ST HJ ⊢
       have HFR:=hid hfR
       clear hfF hfT hfC hfR
       by_cases hr:0 < fR
       · have HJ2:=hid (show qT_ ws i (j + 1) = qT_ ws i j ++ [⟨i,b⟩] by rw [HJ.out,if_pos hr])
         have hlv:qT_ ws i j ++ [(⟨i,b⟩:Cg)] <+: qN_ ws ws.length:=by rw [← HJ2.out];exact liveJ_pre ws i hlt (by omega)
         have ST2:=hid (ST.out _ w3 hlv HR3.out HK3.out.size)
         have hc0:=cg_ CN3.out (k:=0) (v := .int .i64 i) rfl
         have hc1:=cg_ CN3.out (k:=1) (v := .bool b) rfl
         clear ST hlv HJ HFR
         go_wp2_with fail
         refine ST2.out.mono ?_
         rintro e w4 ⟨⟨r,rfl⟩,hR4,hK4⟩
         have BN4:=hid ((hK4.block bs (ge_ BN3.out).1 (fun h=>by have:=(HO.out _ h).1;omega)).trans BN3.out)
         have HR4:=hid (show R (qT_ ws i (j + 1)) w4 by rw [HJ2.out];exact hR4)
         have HK4:=hid (HK3.out.trans hK4)
         clear hR4 hK4 hc0 hc1 ST2 HJ2 BN3 HR3 HK3 CN3
         go_wp2_with fail
         go_roundw
         case rel=>exact ⟨j + 1,by omega,by go_num,HR4.out,HK4.out,BN4.out⟩
         case measure=>simp [intOf];omega
       · have HJ2:=hid (show qT_ ws i (j + 1) = qT_ ws i j by rw [HJ.out,if_neg hr])
         have HR4:=hid (show R (qT_ ws i (j + 1)) w3 by rw [HJ2.out];exact HR3.out)
         clear ST HJ HFR HJ2 HR3 CN3
         go_wp2_with fail
         go_roundw
         case rel=>exact ⟨j + 1,by omega,by go_num,HR4.out,HK3.out,BN3.out⟩
         case measure=>simp [intOf];omega
     · obtain rfl:j = 2:=by omega
       have HR4:=hid (show R (qN_ ws (i + 1)) wr by rw [← va_];exact HR.out)
       clear HR HBN
       go_wp2_with fail
       go_roundw
       case rel=>exact ⟨i + 1,by omega,by go_num,HR4.out,HK.out⟩
       case measure=>simp [intOf];omega
  · obtain rfl:i = ws.length:=by omega
    go_wp2_with fail
    go_end0
    exact ⟨⟨_,rfl⟩,HR.out,HK.out⟩
end Go.Proofs.LS
namespace Go.Proofs.LS
open Go.RowKit Go.Proofs.LF Go.Proofs.LB
theorem zX_:∀ (xs ys:List Bool),xs.length = ys.length→((List.range xs.length).all fun i=>xs.getD i false == ys.getD i false) = (xs == ys)
 | [],[],_=>rfl
 | x :: xs,y :: ys,h=>by
   have ih:=zX_ xs ys (by simpa using h)
   rw [List.length_cons,List.range_succ_eq_map,List.all_cons,List.all_map]
   simp only [List.getD_cons_zero,Function.comp_def,List.getD_cons_succ,ih]
   simp [List.cons_beq_cons]
 | [],_ :: _,h=>by simp at h
 | _ :: _,[],h=>by simp at h
section
variable {P:Program} (w:World)
theorem zs_ (d:Nat) (t e:TypeId) (n:Nat) (ht:P.underlying t = some (.array n e)) (he:P.underlying e = some .bool) (hsz:∀ w,(sizeOf e).run P w = .ok 1 w)
 (xs ys:List Bool) (hx:xs.length = n) (hy:ys.length = n) :
 (Op.equalIn (d + 2) t (.agg (mV xs)) (.agg (mV ys))).run P w = .ok (xs == ys) w:=by
 rw [mV,mV,← zX_ xs ys (hx.trans hy.symm),hx,List.range_eq_range',Op.equalIn]
 simp only [Sem.run_bind,run_underlying ht,Result.andThen_ok,hsz,Std.Legacy.Range.forIn_eq_forIn_range',Std.Legacy.Range.size,Nat.sub_zero,Nat.add_sub_cancel,Nat.div_one]
 have hl:∀ i ∈ List.range' 0 n 1,i < n:=fun i hi=>by simpa using (List.mem_range'_1.1 hi).2
 generalize List.range' 0 n 1 = l at hl ⊢
 induction l with
 | nil=>simp
 | cons i l ih=>
   have hi:i < n:=hl i (by simp)
   have px:(part e (xs.map Value.bool).toArray (i * 1)).run P w = .ok (.bool (xs.getD i false)) w:=by
    simp [part,isAgg,run_underlying he,List.getD,List.getElem?_eq_getElem (show i < xs.length by omega)]
   have py:(part e (ys.map Value.bool).toArray (i * 1)).run P w = .ok (.bool (ys.getD i false)) w:=by
    simp [part,isAgg,run_underlying he,List.getD,List.getElem?_eq_getElem (show i < ys.length by omega)]
   have pe:(Op.equalIn (d + 1) e (.bool (xs.getD i false)) (.bool (ys.getD i false))).run P w = .ok (xs.getD i false == ys.getD i false) w:=by
    first
     | exact run_equalIn_bool w d e _ _ he
     | (unfold Op.equalIn;simp [run_underlying he])
   simp only [List.forIn_cons,Sem.run_bind,px,py,pe,Result.andThen_ok,List.all_cons]
   cases hb:(xs.getD i false == ys.getD i false)
   · simp
   · simp only [Bool.not_true,Bool.false_eq_true,if_false,Sem.run_pure,Result.andThen_ok,Bool.true_and]
     exact ih fun j hj=>hl j (by simp [hj])
end
theorem size4 (w:World):(sizeOf 4).run Tryz.prog w = .ok 1 w:=by kernel_rfl
end Go.Proofs.LS
namespace Go.Proofs.LS
open Go.RowKit Go.Sort Go.Proofs.LF Go.Proofs.LB
set_option maxHeartbeats 4000000
set_option maxRecDepth 100000
attribute [local go_sem] q1_ q2_ q8_
theorem kq_ {P:Program} {o:Oper} {a:Act} {w w':World} {x y:Operand} {v1 v2:Value} (t:TypeId) (ho:o.op = .store t x y) (hx:a.eval x = v1) (hy:a.eval y = v2) (hr:(Instr.storeAt t v1 v2).run P w = .ok () w'):(execOp a.eval o).run P w = .ok .skip w':=by
 unfold execOp
 simp [ho,hx,hy,hr,Result.andThen]
theorem kA_ {b n:Nat} {a:World} (hb:n ≤ b):∀ (vs:List Value) (o:Nat) {w:World},Below n a w→Below n a (w.setCells b o vs)
 | [],_,_,h=>h
 | u :: vs,o,_,h=>kA_ hb vs (o + 1) (h.setCell (p:=⟨b,o,none⟩) hb u)
theorem zW_ {b k:Nat} (hk:k ≠ b):∀ (vs:List Value) (o:Nat) (w:World),(w.setCells b o vs).heap[k]? = w.heap[k]?
 | [],_,_=>rfl
 | u :: vs,o,w=>(zW_ hk vs (o + 1) (w.setCell ⟨b,o,none⟩ u)).trans (Below.heap_setCell _ _ _ _ hk)
theorem vT_ {fn:Func} {p u:Tmp} {ty:TypeId} (h:fn.results = #[.tmp u, .cell p ty]) (tmps:Array Value) (P:Program) (w:World):(results fn tmps).run P w = ((asAddr (tmps.getD p undef)).run P w).andThen fun a w₁=>((loadVar ty a).run P w₁).andThen fun v w₂ => .ok (.tuple #[tmps.getD u undef,v]) w₂:=by
 simp only [results,h]
 simp [Sem.run_bind,Result.andThen]
theorem jR_ {tmps:Array Value} {W:World} {q:Nat} {vl:Value} {met:List Bool} (hl:met.length = 12) (h:W.rangeAt q 0 (met.map Value.bool)) (h6:tmps.getD 6 undef = vl) (h7:tmps.getD 7 undef = .pointer (some ⟨q,0,none⟩)) :
 (results Tryz.f114 tmps).run Tryz.prog W = .ok (.tuple #[vl, .agg (mV met)]) W:=by
 have hld:=run_loadVar_mid (P:=Tryz.prog) W q 0 231 (met.map Value.bool) _ h Tryz.underlying231 rfl (by rw [List.length_map,hl];kernel_rfl)
 have ha:(asAddr (.pointer (some ⟨q,0,none⟩))).run Tryz.prog W = .ok ⟨q,0,none⟩ W:=rfl
 rw [vT_ rfl,h6,h7,ha,Result.andThen_ok,hld,Result.andThen_ok]
 rfl
theorem Tryz.info237:(Tryz.prog.info? 237).map (fun i=>(i.zero,i.size,i.bytes)) = some (some (.agg #[.int .i64 0, .bool false]),2,16):=by kernel_rfl
def lenOf:Value→Nat
 | .slice _ n _=>n
 | _=>0
theorem kX_ {W:World} {b:Nat} {cs:Array Value} {t:TypeId} {n:Nat} (h:W.heap[b]? = some (.cells cs t (0,0))) (hn:n ≤ cs.size):W.there b 0 n:=fun j hj=>by
 have hc:=cg_ h (k:=j) (v:=cs[j]'(by omega)) (by simp)
 rw [Nat.zero_add]
 exact ⟨by simp [hc],q5_ h⟩
theorem path_any (B N a b:Nat) (v:Value) (ws:List Way) (l:List Cg) (met:List Bool) (w:World) (hN:NetS B N v ws w) (hW:WB ws) (hlen:ws.length ≤ 100) (hF:Flow ws) (ha:a < 12) (hb:b < 12) (hab:a ≠ b) (hp:path ws a b = some (l,met)) :
 Calls Tryz.prog 114 #[.pointer (some ⟨N,0,none⟩), .int .i64 a, .int .i64 b] w fun e w'=>∃ vl,e = .returned (.tuple #[vl, .agg (mV met)])∧w'.ownsRow w.heap.size 237 2 vl l.length (l.flatMap cgL)∧(vl = .slice none 0 0 ↔ l = [])∧met.length = 12∧Below w.heap.size w w':=by
 refine (callsIn_wide (n:=9)).1 ?_
 refine callsIn_of_wp Tryz.func114 rfl trivial ?_ rfl
 simp only [Tryz.ntmps114,List.size_toArray,List.length_cons,List.length_nil,Nat.reduceAdd,Nat.reduceSub,Array.replicate_succ,Array.replicate_zero,List.push_toArray,List.append_toArray,List.nil_append,List.cons_append]
 have NK:=hid hN
 have HW:=hid hW
 have hNl:=(ge_ hN.n).1
 obtain ⟨w3,hw3⟩:∃ w3,((w.alloc (.cells #[.bool false, .bool false, .bool false, .bool false, .bool false, .bool false, .bool false, .bool false, .bool false, .bool false, .bool false, .bool false] 231)).alloc (.cells (([.bool false, .bool false, .bool false, .bool false, .bool false, .bool false, .bool false, .bool false, .bool false, .bool false, .bool false, .bool false]:List Value).set a (.bool true)).toArray 231)).alloc (.cells #[.int .i64 0, .bool false, .int .i64 0, .bool false, .int .i64 0, .bool false, .int .i64 0, .bool false, .int .i64 0, .bool false, .int .i64 0, .bool false, .int .i64 0, .bool false, .int .i64 0, .bool false, .int .i64 0, .bool false, .int .i64 0, .bool false, .int .i64 0, .bool false, .int .i64 0, .bool false] 276) = w3:=⟨_,rfl⟩
 have hz3:w3.heap.size = w.heap.size + 3:=by rw [← hw3];simp
 have hb3:Below w.heap.size w w3:=by rw [← hw3];exact (((Below.refl _ _).alloc (nl_ _) _).alloc (by simp) _).alloc (by simp;omega) _
 have r1:w3.heap[w.heap.size]? = some (.cells (mV (List.replicate 12 false)) 231 (0,0)):=by rw [← hw3];exact qb_ _ (qb_ _ (ha_ _ _))
 have hset:(([.bool false, .bool false, .bool false, .bool false, .bool false, .bool false, .bool false, .bool false, .bool false, .bool false, .bool false, .bool false]:List Value).set a (.bool true)).toArray = mV (p0 a).met:=by
  rw [p0,← mV_set];simp [mV]
 have r2:w3.heap[w.heap.size + 1]? = some (.cells (mV (p0 a).met) 231 (0,0)):=by rw [← hw3,← hset];have:=qb_ (.cells #[.int .i64 0, .bool false, .int .i64 0, .bool false, .int .i64 0, .bool false, .int .i64 0, .bool false, .int .i64 0, .bool false, .int .i64 0, .bool false, .int .i64 0, .bool false, .int .i64 0, .bool false, .int .i64 0, .bool false, .int .i64 0, .bool false, .int .i64 0, .bool false, .int .i64 0, .bool false] 276) (ha_ (w.alloc (.cells #[.bool false, .bool false, .bool false, .bool false, .bool false, .bool false, .bool false, .bool false, .bool false, .bool false, .bool false, .bool false] 231)) (.cells (([.bool false, .bool false, .bool false, .bool false, .bool false, .bool false, .bool false, .bool false, .bool false, .bool false, .bool false, .bool false]:List Value).set a (.bool true)).toArray 231));simpa using this
 have r3:w3.heap[w.heap.size + 2]? = some (.cells (byV (p0 a).by_) 276 (0,0)):=by
  rw [← hw3];have:=ha_ ((w.alloc (.cells #[.bool false, .bool false, .bool false, .bool false, .bool false, .bool false, .bool false, .bool false, .bool false, .bool false, .bool false, .bool false] 231)).alloc (.cells (([.bool false, .bool false, .bool false, .bool false, .bool false, .bool false, .bool false, .bool false, .bool false, .bool false, .bool false, .bool false]:List Value).set a (.bool true)).toArray 231)) (.cells #[.int .i64 0, .bool false, .int .i64 0, .bool false, .int .i64 0, .bool false, .int .i64 0, .bool false, .int .i64 0, .bool false, .int .i64 0, .bool false, .int .i64 0, .bool false, .int .i64 0, .bool false, .int .i64 0, .bool false, .int .i64 0, .bool false, .int .i64 0, .bool false, .int .i64 0, .bool false] 276)
  rw [show byV (p0 a).by_ = #[.int .i64 0, .bool false, .int .i64 0, .bool false, .int .i64 0, .bool false, .int .i64 0, .bool false, .int .i64 0, .bool false, .int .i64 0, .bool false, .int .i64 0, .bool false, .int .i64 0, .bool false, .int .i64 0, .bool false, .int .i64 0, .bool false, .int .i64 0, .bool false, .int .i64 0, .bool false] from rfl]
  simpa using this
 obtain ⟨q,hq⟩:∃ q,w.heap.size = q:=⟨_,rfl⟩
 rw [hq] at r1 r2 r3 hz3 hNl
 have HQ:=hid hq
 have P3:=hid (show PR (q + 1) (q + 2) (p0 a) w3 from ⟨r2,r3,by simp [p0],by simp [p0]⟩)
 have R3:=hid r1
 have B3:=hid (show Below q w w3 by rw [← hq];exact hb3)
 have HZ3:=hid hz3
 obtain ⟨sf,hsf⟩:∃ sf,pLoop ws 13 (p0 a) = some sf:=by
  rw [path] at hp
  cases hpl:pLoop ws 13 (p0 a) with
  | none=>rw [hpl] at hp;cases hp
  | some s=>exact ⟨s,rfl⟩
 have PATH:=hid hp
 rw [path,hsf] at hp
 have HP:=hid hp
 have HSF:=hid hsf
 have OWV:=hid (fun g (h:v.ownBlock = some g)=>show B ≤ g∧g < q by rw [← hq];exact hN.own.lt g h)
 have NLT:=hid hN.lt
 clear hN hW hp hsf hb3 r1 r2 r3 hset hq hz3
 gi_wp2_with fail
 try rw [hw3]
 simp only [HQ.out]
 clear hw3
 refine qw_ (fun r A wr=>∃ s:PS,(pLoop ws r s = some sf∧PR (q + 1) (q + 2) s wr∧wr.heap[q]? = some (.cells (mV (List.replicate 12 false)) 231 (0,0))∧Below q w wr∧q + 3 ≤ wr.heap.size)∧A = { tmps:=#[.pointer (some ⟨N,0,none⟩), .int .i64 a, .int .i64 b,undef,undef,undef, .slice none 0 0, .pointer (some ⟨q,0,none⟩), .pointer (some ⟨(q + 1),0,none⟩), .pointer (some ⟨(q + 1 + 1),0,none⟩),A.tmps.getD 10 undef,undef,undef, .int .i64 a, .pointer (some ⟨(q + 1),a,none⟩),A.tmps.getD 15 undef,A.tmps.getD 16 undef,A.tmps.getD 17 undef,A.tmps.getD 18 undef,A.tmps.getD 19 undef,A.tmps.getD 20 undef,A.tmps.getD 21 undef,A.tmps.getD 22 undef,A.tmps.getD 23 undef,A.tmps.getD 24 undef,A.tmps.getD 25 undef,A.tmps.getD 26 undef,A.tmps.getD 27 undef,A.tmps.getD 28 undef,A.tmps.getD 29 undef,A.tmps.getD 30 undef,A.tmps.getD 31 undef,A.tmps.getD 32 undef,A.tmps.getD 33 undef,A.tmps.getD 34 undef,A.tmps.getD 35 undef,A.tmps.getD 36 undef,A.tmps.getD 37 undef,A.tmps.getD 38 undef,A.tmps.getD 39 undef,A.tmps.getD 40 undef,A.tmps.getD 41 undef,A.tmps.getD 42 undef,A.tmps.getD 43 undef,A.tmps.getD 44 undef,A.tmps.getD 45 undef,A.tmps.getD 46 undef,A.tmps.getD 47 undef,A.tmps.getD 48 undef],defers:=[] }) 13 ?_ ?_
 · exact ⟨p0 a,⟨HSF.out,P3.out,R3.out,B3.out,by have:=HZ3.out;omega⟩,by rfl⟩
 clear P3 R3 B3 HZ3 HSF w3
 rintro r A wr ⟨s,⟨hpl,hPR,hR7,hBe,hsz⟩,ha'⟩
 obtain ⟨p,hu⟩:∃ p:Nat→Value,∀ k,A.tmps.getD k undef = p k:=⟨_,fun _=>rfl⟩
 simp only [hu] at ha'
 clear hu
 subst ha'
 cases r with
 | zero=>simp [pLoop] at hpl
 | succ r=>
   have HPR:=hid hPR
   have HR7:=hid hR7
   have HBe:=hid hBe
   have hld:=run_loadAt_mid (P:=Tryz.prog) wr (q + 1) 0 231 (s.met.map Value.bool) _ (fun j u hj=>by
    have:=cg_ hPR.m (k:=j) (v:=u) (by simpa [mV] using hj)
    simpa using this) Tryz.underlying231 rfl (by rw [List.length_map,hPR.lm];kernel_rfl)
   have hst:=run_storeAt_new (P:=Tryz.prog) wr 231 (mV (List.replicate 12 false)) (mV s.met) (by rw [show (mV s.met).size = 12 by simp [mV,hPR.lm]];kernel_rfl) (by simp [mV,hPR.lm]) (by simp [mV,Value.oneCell'])
   clear hPR hR7 hBe
   gi_wp2_with (first | (refine LB.wpIn_val (fun _=>trivial) rfl (LB.zG_ 231 rfl rfl hld) ?_) | (refine LB.j0_ (fun _=>trivial) rfl (kq_ 231 rfl rfl rfl hst) ?_))
   obtain ⟨bf,hbf⟩:∃ x,wr.heap.size = x:=⟨_,rfl⟩
   have hbfq:q + 3 ≤ bf:=by rw [← hbf];exact hsz
   obtain ⟨w4,hw4⟩:∃ w4,wr.alloc (.cells (mV s.met) 231) = w4:=⟨_,rfl⟩
   have hb4:Below wr.heap.size wr w4:=by rw [← hw4];exact (Below.refl _ _).alloc (nl_ _) _
   have hn4:w4.heap[wr.heap.size]? = some (.cells (mV s.met) 231 (0,0)):=by rw [← hw4];exact ha_ _ _
   have NS4:=hid (show NetS B N v ws w4 from (NK.out.below (HQ.out ▸ HBe.out:Below w.heap.size w wr)).below hb4)
   have PR4:=hid (show PR (q + 1) (q + 2) s w4 from ⟨q0_ HPR.out.m hb4,q0_ HPR.out.b hb4,HPR.out.lm,HPR.out.lb⟩)
   have R74:=hid (q0_ HR7.out hb4)
   have BE4:=hid (HBe.out.trans (hb4.mono (by omega)))
   have hw4l:bf < w4.heap.size:=by rw [← hbf];exact (ge_ hn4).1
   rw [hbf] at hn4
   have BF4:=hid hn4
   rw [hw4]
   simp only [hbf]
   clear hw4 hbf hb4 hn4 hld hst HPR HR7 HBe hsz
   have CH:=hid (jb_ 159 enters159 #[.pointer (some ⟨(q + 1),0,none⟩), .pointer (some ⟨(q + 1 + 1),0,none⟩)] B N v ws (PR (q + 1) (q + 1 + 1)) (vB_ ws) (fun k=>k = q + 1 ∨ k = q + 1 + 1) w4 s NS4.out HW.out hlen (fun k hk=>by
    refine ⟨by omega,by have:=NLT.out;omega,fun h=>?_⟩
    have:=OWV.out k h
    omega) PR4.out (fun s V V' h hk=>⟨(hk _ (.inl rfl)).trans h.m,(hk _ (.inr rfl)).trans h.b,h.lm,h.lb⟩) (fun s c V hc h hz=>by
    have he:=zt_ HW.out (qp_.1 hc).1
    have:=path1_any (q + 1) (q + 1 + 1) (eF ws c) (eT ws c) (eC ws c) (eR ws c) c s V h (by omega) he.1 he.2.1
    exact this))
   refine ⟨trivial,?_⟩
   refine (callsIn_wide.2 CH.out).mono ?_
   rintro e w5 ⟨⟨rv,rfl⟩,hP5,hK5⟩
   have hP5:PR (q + 1) (q + 1 + 1) (z4_ ws s) w5:=hP5
   have hz5:=hK5.size
   have R75:=hid ((hK5.block q (by omega) (by omega)).trans R74.out)
   have BF5:=hid ((hK5.block bf (by omega) (by omega)).trans BF4.out)
   have BE5:=hid (BE4.out.trans (hK5.below (by omega) (fun b hb h=>by omega)))
   have P5:=hid hP5
   have LM0:=hid PR4.out.lm
   have hsz5:q + 3 ≤ w5.heap.size:=by omega
   clear hP5 hK5 CH PR4 R74 BF4 BE4 NS4 hw4l hz5
   have hldA:=run_loadAt_mid (P:=Tryz.prog) w5 (q + 1) 0 231 ((z4_ ws s).met.map Value.bool) _ (fun j u hj=>by
    have:=cg_ P5.out.m (k:=j) (v:=u) (by simpa [mV] using hj)
    simpa using this) Tryz.underlying231 rfl (by rw [List.length_map,P5.out.lm];kernel_rfl)
   have hldB:=run_loadAt_mid (P:=Tryz.prog) w5 bf 0 231 (s.met.map Value.bool) _ (fun j u hj=>by
    have:=cg_ BF5.out (k:=j) (v:=u) (by simpa [mV] using hj)
    simpa using this) Tryz.underlying231 rfl (by rw [List.length_map,LM0.out];kernel_rfl)
   have heq:=zs_ (P:=Tryz.prog) w5 9998 231 4 12 Tryz.underlying231 Tryz.underlying4 size4 (z4_ ws s).met s.met P5.out.lm LM0.out
   rw [mV,mV] at heq
   obtain ⟨bq,hbq⟩:∃ x,((z4_ ws s).met == s.met) = x:=⟨_,rfl⟩
   rw [hbq] at heq
   rw [pLoop] at hpl
   cases bq with
   | false=>
     have hne:¬ (z4_ ws s).met = s.met:=fun e=>by rw [e] at hbq;simp at hbq
     rw [if_neg hne] at hpl
     have HPL:=hid hpl
     clear hpl hne hbq
     gi_wp2_with (first | (refine LB.wpIn_val (fun _=>trivial) rfl (LB.zG_ 231 rfl rfl hldA) ?_) | (refine LB.wpIn_val (fun _=>trivial) rfl (LB.zG_ 231 rfl rfl hldB) ?_))
     exact ⟨r,by omega,z4_ ws s,⟨HPL.out,P5.out,R75.out,BE5.out,hsz5⟩,by rfl⟩
   | true=>
     have hye:(z4_ ws s).met = s.met:=by simpa using hbq
     rw [if_pos hye] at hpl
     have hpl:z4_ ws s = sf:=Option.some.inj hpl
     rw [hpl] at P5 hldA heq
     have PF:=hid P5.out
     clear hbq hye hpl P5
     have hmb:=cg_ PF.out.m (y4_ (b:=b) (by have:=PF.out.lm;omega))
     have hbI:(b:Int) < 12:=by omega
     have hb0:(0:Int) ≤ (b:Int):=by omega
     obtain ⟨vb,hvb⟩:∃ x,sf.met.getD b false = x:=⟨_,rfl⟩
     rw [hvb] at hmb
     have HVB:=hid hvb
     clear hvb
     have hHP:(if sf.met.getD b false then (back ws sf.by_ a 12 b).map (·,sf.met) else some ([],sf.met)) = some (l,met):=HP.out
     rw [HVB.out] at hHP
     cases vb with
     | false=>
       have hHP:some (([]:List Cg),sf.met) = some (l,met):=by simpa using hHP
       obtain ⟨rfl,rfl⟩:[] = l∧sf.met = met:=by simpa using hHP
       clear hHP HP
       gi_wp2_with (first | (refine LB.wpIn_val (fun _=>trivial) rfl (LB.zG_ 231 rfl rfl hldA) ?_) | (refine LB.wpIn_val (fun _=>trivial) rfl (LB.zG_ 231 rfl rfl hldB) ?_))
       have RG:=hid (fun (V:World) (hb:V.heap[q + 1]? = w5.heap[q + 1]?)=>show V.rangeAt (q + 1) 0 (sf.met.map Value.bool) from fun j u hj=>by
        have:=cg_ (hb.trans PF.out.m) (k:=j) (v:=u) (by simpa [mV] using hj)
        simpa using this)
       have hS0:=RG.out w5.drew rfl
       refine q6_ (fun V:World=>V.rangeAt (q + 1) 0 (sf.met.map Value.bool)) (by kernel_rfl) ?_
       refine tkY 0 26 (.agg (sf.met.map Value.bool).toArray) rfl rfl hS0 (fun w' hs=>?_) ?_
       · exact LB.zG_ 231 rfl rfl (run_loadAt_mid (P:=Tryz.prog) w' (q + 1) 0 231 _ _ hs Tryz.underlying231 rfl (by rw [List.length_map,PF.out.lm];kernel_rfl))
       refine tkY 1 6 (.slice none 0 0) rfl rfl hS0 (fun w' hs=>?_) ?_
       · go_simp
       have hst:=run_storeAt_mid (P:=Tryz.prog) w5.drew q 0 231 (mV sf.met) (kX_ (show w5.drew.heap[q]? = _ from R75.out) (by simp [mV,PF.out.lm])) (by rw [show (mV sf.met).size = 12 by simp [mV,PF.out.lm]];kernel_rfl) (by simp [mV,Value.oneCell'])
       have hran:=World.rangeAt_setCells_same w5.drew q 0 (mV sf.met).toList (kX_ (show w5.drew.heap[q]? = _ from R75.out) (by simp [mV,PF.out.lm]))
       have hbel:=kA_ (b:=q) (nl_ _) (mV sf.met).toList 0 (show Below q w w5.drew from BE5.out.drew)
       obtain ⟨w6,hw6⟩:∃ x,w5.drew.setCells q 0 (mV sf.met).toList = x:=⟨_,rfl⟩
       have hkp:w6.heap[q + 1]? = w5.heap[q + 1]?:=by rw [← hw6];exact zW_ (by omega) _ _ _
       rw [hw6] at hst hran hbel
       have RAN:=hid (show w6.rangeAt q 0 (sf.met.map Value.bool) by simpa [mV] using hran)
       refine aHO 2 rfl fun K hK=>?_
       refine LB.j0_ (fun _=>trivial) rfl (kq_ 231 rfl rfl rfl hst) ?_
       refine hK _ _ ⟨RG.out _ hkp,?_⟩
       have BE6:=hid hbel
       clear hK hst hran hbel hw6 hkp
       refine q7_ (by kernel_rfl) ?_
       go_simp
       gi_wp2_with fail
       refine bodyPost_ret (jR_ PF.out.lm RAN.out rfl rfl) rfl ?_
       exact ⟨_,rfl,World.ownsRow_nil _ _ _ _,by simp,PF.out.lm,by rw [HQ.out];exact BE6.out⟩
     | true=>
       have hHP:(back ws sf.by_ a 12 b).map (·,sf.met) = some (l,met):=by simpa using hHP
       obtain ⟨l',hbk,he⟩:=Option.map_eq_some_iff.1 hHP
       obtain ⟨rfl,rfl⟩:l' = l∧sf.met = met:=by simpa using he
       have hlv:(∀ c ∈ l',c.way < ws.length)∧l'.length ≤ 12∧l' ≠ []:=by
        have hpp:path ws a b = some (l',sf.met):=PATH.out
        rcases jP_ (b:=b) hF ha hab with ⟨m,p1,_,_,p3,_⟩ | ⟨l2,m,p1,_,p2,p3,_,p4,_⟩
        · rw [hpp] at p1
          obtain ⟨rfl,rfl⟩:l' = []∧sf.met = m:=by simpa using p1
          rw [HVB.out] at p3;cases p3
        · rw [hpp] at p1
          obtain ⟨rfl,rfl⟩:l' = l2∧sf.met = m:=by simpa using p1
          exact ⟨fun c hc=>(qp_.1 (p4 c hc).1).1,p3,p2⟩
       have HLV:=hid hlv
       have HBK:=hid hbk
       obtain ⟨i0,hi0,hy0,hy1,hy2⟩:=info_parts Tryz.info237
       have hbq5:∀ g,v.ownBlock = some g→g < q:=fun g h=>(OWV.out g h).2
       have NS5:=hid (show NetS B N v ws w5 from NK.out.below (HQ.out ▸ BE5.out:Below w.heap.size w w5))
       clear hlv hbk he hHP HP
       gi_wp2_with (first | (refine LB.wpIn_val (fun _=>trivial) rfl (LB.zG_ 231 rfl rfl hldA) ?_) | (refine LB.wpIn_val (fun _=>trivial) rfl (LB.zG_ 231 rfl rfl hldB) ?_))
       clear hldA hldB heq hmb
       gi_loopw [11,12] (fun vo va wk=>∃ (k at_:Nat) (l1 l2:List Cg),l' = l1 ++ l2∧back ws sf.by_ a k at_ = some l2∧at_ < 12∧va = .int .i64 at_∧wk.ownsRow (q + 3) 237 2 vo l1.length (l1.flatMap cgL)∧Hid (vo = .slice none 0 0 ↔ l1 = [])∧Hid (PR (q + 1) (q + 2) sf wk)∧Hid (wk.heap[q]? = some (.cells (mV (List.replicate 12 false)) 231 (0,0)))∧Hid (Below q w wk)∧k ≤ 12) (fun vo va wk=>13 - (lenOf vo))
       case atStart=>exact ⟨12,b,[],l',rfl,HBK.out,hb,rfl,World.ownsRow_nil _ _ _ _,hid (by simp),PF.out,R75.out,BE5.out,nl_ _⟩
       case round=>
        obtain ⟨k,at_,l1,l2,hl,hbk,hat,rfl,hown,hnil,HPR,HR7,HBe,hk12⟩:=hrel
        obtain ⟨sa,sc,rfl,hsc1,hsc2⟩:=owns_shape hown
        have hqw:q ≤ wr.heap.size:=by have:=HBe.out.size;have:=HQ.out;omega
        have hqr:=(ge_ HPR.out.b).1
        by_cases hea:at_ = a
        · subst hea
          have hl2:l2 = []:=by
           cases k with
           | zero=>simpa [back] using hbk.symm
           | succ k=>simpa [back] using hbk.symm
          subst hl2
          rw [List.append_nil] at hl
          subst hl
          have HPR2:=hid HPR.out
          clear hbk
          gi_wp2_with fail
          have RG:=hid (fun (V:World) (hb:V.heap[q + 1]? = wr.heap[q + 1]?)=>show V.rangeAt (q + 1) 0 (sf.met.map Value.bool) from fun j u hj=>by
           have:=cg_ (hb.trans HPR.out.m) (k:=j) (v:=u) (by simpa [mV] using hj)
           simpa using this)
          have hS0:=RG.out wr.drew rfl
          refine q6_ (fun V:World=>V.rangeAt (q + 1) 0 (sf.met.map Value.bool)) (by kernel_rfl) ?_
          refine tkY 0 47 (.slice sa l'.length sc) rfl rfl hS0 (fun w' hs=>?_) ?_
          · go_simp
          refine tkY 1 48 (.agg (sf.met.map Value.bool).toArray) rfl rfl hS0 (fun w' hs=>?_) ?_
          · exact LB.zG_ 231 rfl rfl (run_loadAt_mid (P:=Tryz.prog) w' (q + 1) 0 231 _ _ hs Tryz.underlying231 rfl (by rw [List.length_map,HPR.out.lm];kernel_rfl))
          refine tkY 2 6 (.slice sa l'.length sc) rfl rfl hS0 (fun w' hs=>?_) ?_
          · go_simp
          have hst:=run_storeAt_mid (P:=Tryz.prog) wr.drew q 0 231 (mV sf.met) (kX_ (show wr.drew.heap[q]? = _ from HR7.out) (by simp [mV,HPR.out.lm])) (by rw [show (mV sf.met).size = 12 by simp [mV,HPR.out.lm]];kernel_rfl) (by simp [mV,Value.oneCell'])
          have hran:=World.rangeAt_setCells_same wr.drew q 0 (mV sf.met).toList (kX_ (show wr.drew.heap[q]? = _ from HR7.out) (by simp [mV,HPR.out.lm]))
          have hbel:=kA_ (b:=q) (nl_ _) (mV sf.met).toList 0 (show Below q w wr.drew from HBe.out.drew)
          have hOW:=q3_ hown (w':=wr.drew.setCells q 0 (mV sf.met).toList) fun g hg=>zW_ (by have:=(hown.lt _ hg).1;omega) _ _ _
          obtain ⟨w6,hw6⟩:∃ x,wr.drew.setCells q 0 (mV sf.met).toList = x:=⟨_,rfl⟩
          have hkp:w6.heap[q + 1]? = wr.heap[q + 1]?:=by rw [← hw6];exact zW_ (by omega) _ _ _
          rw [hw6] at hst hran hbel hOW
          have RAN:=hid (show w6.rangeAt q 0 (sf.met.map Value.bool) by simpa [mV] using hran)
          refine aHO 3 rfl fun K hK=>?_
          refine LB.j0_ (fun _=>trivial) rfl (kq_ 231 rfl rfl rfl hst) ?_
          refine hK _ _ ⟨RG.out _ hkp,?_⟩
          have BE6:=hid hbel
          have OW6:=hid hOW
          clear hK hst hran hbel hw6 hkp hOW
          refine q7_ (by kernel_rfl) ?_
          go_simp
          gi_wp2_with fail
          refine bodyPost_ret (jR_ HPR.out.lm RAN.out rfl rfl) rfl ?_
          exact ⟨_,rfl,qF_ OW6.out (fun g hg=>by have:=(OW6.out.lt _ hg).1;have:=HQ.out;omega),hnil.out,HPR.out.lm,by rw [HQ.out];exact BE6.out⟩
        · obtain ⟨c,hc⟩:∃ c,sf.by_.getD at_ Cg.z = c:=⟨_,rfl⟩
          obtain ⟨k',l3,rfl,rfl,hbk3⟩:∃ k' l3,k = k' + 1∧l2 = c :: l3∧back ws sf.by_ a k' (eF ws c) = some l3:=by
           cases k with
           | zero=>rw [back,if_neg hea] at hbk;cases hbk
           | succ k=>
             rw [back,if_neg hea,hc] at hbk
             obtain ⟨l3,h1,h2⟩:=Option.map_eq_some_iff.1 hbk
             exact ⟨k,l3,rfl,h2.symm,h1⟩
          have hcl:c.way < ws.length:=HLV.out.1 c (by rw [hl];simp)
          have hll:l1.length + 1 ≤ 12:=by
           have:=HLV.out.2.1
           rw [hl] at this;simp at this;omega
          have HL:=hid hl
          have HBK3:=hid hbk3
          have hneI:¬ (at_:Int) = (a:Int):=by omega
          have hatI:(at_:Int) < 12:=by omega
          have hat0:(0:Int) ≤ (at_:Int):=by omega
          have hbg:=zH_ (l:=sf.by_) (b:=at_) (by have:=HPR.out.lb;omega)
          rw [hc] at hbg
          have HC:=hid hc
          have g0:=cg_ HPR.out.b hbg.1
          have g1:=cg_ HPR.out.b hbg.2
          have EF:=hid (zt_ HW.out hcl).1
          obtain ⟨w6,hw6⟩:∃ w6,wr.alloc (.cells #[.int .i64 c.way, .bool c.more] 237) = w6:=⟨_,rfl⟩
          have hb6:Below wr.heap.size wr w6:=by rw [← hw6];exact (Below.refl _ _).alloc (nl_ _) _
          have hn6:w6.heap[wr.heap.size]? = some (.cells #[.int .i64 c.way, .bool c.more] 237 (0,0)):=by rw [← hw6];exact ha_ _ _
          obtain ⟨a5,c5,w7,hr,hown5,hg5,hat5⟩:=run_append_ao (P:=Tryz.prog) (w:=w6) 230 230 (q + 3) 237 i0 _ 2 16 Tryz.underlying230 hi0 hy0 hy1 hy2 rfl (by omega) _ l1.length _ (ob_ hown hb6 (nl_ _)) (some ⟨wr.heap.size,0,none⟩) 1 1 (cgL c) rfl (fun h=>by cases h) (fun ad had=>by cases had;exact fun j u hj=>World.news_of_block (cs:=#[.int .i64 c.way, .bool c.more]) (t:=237) (fr:=(0,0)) hn6 j u (by simpa [cgL] using hj)) (by intro u hu;simp [cgL] at hu;rcases hu with rfl | rfl <;> rfl) (by unfold maxLen;omega) (by omega) (by have:=hb6.size;omega)
          have hz6:=hb6.size
          have hz7:=hg5.size
          have hrow:∀ g,g < q + 3→some g ≠ (Value.slice sa l1.length sc).ownBlock:=fun g hg e=>by have:=(hown.lt _ e.symm).1;omega
          have P7:=hid (show PR (q + 1) (q + 2) sf w7 from ⟨(hg5.block _ (by omega) (hrow _ (by omega))).trans (q0_ HPR.out.m hb6),(hg5.block _ (by omega) (hrow _ (by omega))).trans (q0_ HPR.out.b hb6),HPR.out.lm,HPR.out.lb⟩)
          have R7:=hid ((hg5.block q (by omega) (hrow _ (by omega))).trans (q0_ HR7.out hb6))
          have BE7:=hid (show Below q w w7 from (HBe.out.trans (hb6.mono hqw)).grown hg5 (by omega) (fun b hb=>by have:=(hown.lt _ hb).1;omega))
          have NS7:=hid (show NetS B N v ws w7 from NK.out.below (HQ.out ▸ BE7.out:Below w.heap.size w w7))
          have OW7:=hid hown5
          have EN:=hid (zT_ B N c v ws w7 NS7.out hcl HW.out)
          have hr':=cg_ P7.out.b hbg.1
          have hr'':=cg_ P7.out.b hbg.2
          clear hl hbk3 hc hbg hb6 hn6 hown5 hg5 hat5 hbk
          gi_wp2_with (refine qG_ (fun _=>trivial) rfl (qL_ rfl rfl rfl hr) ?_)
          refine ⟨trivial,?_⟩
          refine (callsIn_wide.2 EN.out).mono ?_
          rintro e w8 ⟨rfl,hb8⟩
          have P8:=hid (show PR (q + 1) (q + 2) sf w8 from ⟨q0_ P7.out.m hb8,q0_ P7.out.b hb8,P7.out.lm,P7.out.lb⟩)
          have R8:=hid (q0_ R7.out hb8)
          have BE8:=hid (BE7.out.trans (hb8.mono (by omega)))
          have OW8:=hid (ob_ OW7.out hb8 (nl_ _))
          clear hb8 P7 R7 BE7 OW7 NS7 EN hr' hr'' g0 g1 hr
          gi_wp2_with fail
          go_roundw
          case rel=>exact ⟨k',eF ws c,l1 ++ [c],l3,by rw [HL.out];simp,HBK3.out,EF.out,by go_num,by simpa [List.length_append] using OW8.out,hid (by simp),P8.out,R8.out,BE8.out,by omega⟩
          case measure=>simp [lenOf];omega
theorem wV_set:∀ (ws:List Way) (i:Nat) (g:Int),i < ws.length→(wV ws).set (i * 6 + 5) (.int .i64 g) = wV (ws.modify i fun w=>{ w with goes:=g })
 | x :: ws,0,g,_=>by simp [wV,wC]
 | x :: ws,i + 1,g,h=>by
   have ih:=wV_set ws i g (by simpa using h)
   rw [List.modify_succ_cons,show wV (x :: ws) = (wC x).toList ++ wV ws from by simp [wV],show wV (x :: ws.modify i fun w=>{ w with goes:=g }) = (wC x).toList ++ wV (ws.modify i fun w=>{ w with goes:=g }) from by simp [wV],← ih,List.set_append_right _ _ (by simp [wC];omega)]
   congr 1
   rw [show (i + 1) * 6 + 5 - (wC x).toList.length = i * 6 + 5 by simp [wC];omega]
theorem put1_mod (ws:List Way) (d:Int) (c:Cg):vE_ ws d c = ws.modify c.way fun w=>{ w with goes:=(at_ ws c.way).goes + d * (if c.more then 1 else -1) }:=by
 refine List.ext_getElem? fun i=>?_
 rw [vE_,List.getElem?_modify,List.getElem?_modify]
 by_cases e:c.way = i
 · subst e
   cases hq:ws[c.way]? with
   | none=>rfl
   | some x=>
     have:at_ ws c.way = x:=by rw [LS.at_,List.getD_eq_getElem?_getD,hq];rfl
     simp only [this,if_true,Option.map_eq_map,Option.map_some]
     cases c.more <;> simp <;> omega
 · simp [e]
theorem NetS.put {B N:Nat} {v:Value} {ws:List Way} {W:World} (h:NetS B N v ws W) {i:Nat} (hi:i < ws.length) (g:Int):∃ ga gc,v = .slice (some ⟨ga,0,none⟩) ws.length gc∧NetS B N v (ws.modify i fun w=>{ w with goes:=g }) (W.setCell ⟨ga,i * 6 + 5,none⟩ (.int .i64 g))∧v.ownBlock = some ga:=by
 obtain ⟨ga,gc,rfl,hB,hl,_,_,_⟩:=h.at hi
 have ho:=(owns_set (u := .int .i64 g) h.own (i:=i * 6 + 5) (by omega)).1
 rw [wV_set _ _ _ hi] at ho
 refine ⟨ga,gc,rfl,⟨(Below.heap_setCell _ _ _ _ (by have:=h.lt;simp;omega)).trans h.n,by rw [List.length_modify];exact ho,h.lt⟩,rfl⟩
theorem ye_ (B N:Nat) (v:Value) (ws:List Way) (al:Option Addr) (cl:Nat) (l:List Cg) (m:Int) (S:Nat→Prop) (w:World) (hN:NetS B N v ws w) (hW:WB ws) (hlen:ws.length ≤ 100) (hl:SlC S w 2 (.slice al l.length cl) l.length (l.flatMap cgL)) (hS:∀ b,S b→b < w.heap.size∧v.ownBlock ≠ some b)
 (hc:∀ c ∈ l,c.way < ws.length) (hll:l.length ≤ 20) (hm:0 ≤ m∧m ≤ 1000000) :
 Calls Tryz.prog 116 #[.pointer (some ⟨N,0,none⟩), .slice al l.length cl, .int .i64 m] w fun e w'=>(∃ r,e = .returned r)∧NetS B N v (k7_ ws l m) w'∧Keep (fun b=>v.ownBlock = some b) w w':=by
 have HN:=hid hN
 have HW:=hid hW
 have HL:=hid hl
 have HS:=hid hS
 have HC:=hid hc
 obtain ⟨hsl1,hsl2,_⟩:=SlC.caps hl
 have hbnd:∀ k, -1000000 ≤ mMost ws (l.take k) m∧mMost ws (l.take k) m ≤ 1000000:=by
  intro k
  refine ⟨?_,Int.le_trans (jk_ (ws:=ws)).1 hm.2⟩
  have:∀ (l:List Cg) (m:Int), -1000000 ≤ m→(∀ c ∈ l,c.way < ws.length) → -1000000 ≤ mMost ws l m:=by
   intro l
   induction l with
   | nil=>intro m h _;exact h
   | cons c l ih=>
     intro m h hc
     rw [mMost,List.foldl_cons]
     exact ih _ (by have:=(zt_ hW (hc c (List.mem_cons_self ..))).2.2.2;omega) fun c h=>hc c (List.mem_cons_of_mem _ h)
  exact this _ _ (by omega) fun c h=>hc c (List.mem_of_mem_take h)
 have HBD:=hid hbnd
 clear hN hW hl hS hc hbnd
 go_enter Tryz.func116,Tryz.ntmps116
 go_wp2_with fail
 go_loopw [2,16] (fun vm vi wr=>∃ k:Nat,k ≤ l.length∧vi = .int .i64 k∧vm = .int .i64 (mMost ws (l.take k) m)∧Hid (Below w.heap.size w wr)) (fun _ vi _=>l.length - (intOf vi).toNat)
 case atStart=>exact ⟨0,by omega,rfl,rfl,Below.refl _ _⟩
 case round=>
  obtain ⟨k,hk,rfl,rfl,HB⟩:=hrel
  by_cases hlt:k < l.length
  · have hlt':(k:Int) < (l.length:Int):=by omega
    obtain ⟨g,o,rfl,hg,_,_,hcell⟩:=SlC.cells HL.out (by omega)
    obtain ⟨c,hc⟩:∃ c,l[k] = c:=⟨_,rfl⟩
    have hgb:=xa_ hlt
    rw [List.getD_eq_getElem?_getD,List.getElem?_eq_getElem hlt,Option.getD_some,hc] at hgb
    have e0:=bc_ HB.out (HS.out g hg).1 (hcell _ _ hgb.1)
    have e1:=bc_ HB.out (HS.out g hg).1 (hcell _ _ hgb.2)
    rw [← Nat.add_assoc] at e1
    have hcm:c ∈ l:=by rw [← hc];exact List.getElem_mem hlt
    have HMM:=hid (show mMost ws (l.take (k + 1)) m = min (mMost ws (l.take k) m) (eR ws c) by rw [List.take_succ_eq_append_getElem hlt,hc,mMost,List.foldl_append];rfl)
    obtain ⟨mm,hmm⟩:∃ mm,mMost ws (l.take k) m = mm:=⟨_,rfl⟩
    rw [hmm] at HMM ⊢
    obtain ⟨w1,hw1⟩:∃ w1,wr.alloc (.cells #[.int .i64 c.way, .bool c.more] 237) = w1:=⟨_,rfl⟩
    have hb1:Below wr.heap.size wr w1:=by rw [← hw1];exact (Below.refl _ _).alloc (nl_ _) _
    have hn1:w1.heap[wr.heap.size]? = some (.cells #[.int .i64 c.way, .bool c.more] 237 (0,0)):=by rw [← hw1];exact ha_ _ _
    have hzr:=HB.out.size
    have B1:=hid (HB.out.trans (hb1.mono hzr))
    have EN:=hid (zT_ B N c v ws w1 (HN.out.below B1.out) (HC.out c hcm) HW.out)
    have z0:=cg_ hn1 (k:=0) (v := .int .i64 c.way) rfl
    have z1:=cg_ hn1 (k:=1) (v := .bool c.more) rfl
    clear hcell hgb hc hb1 hn1 hmm HB
    go_wp2_with fail
    refine EN.out.mono ?_
    rintro e w2 ⟨rfl,hb2⟩
    have B2:=hid (B1.out.trans (hb2.mono B1.out.size))
    obtain ⟨w3,hw3⟩:∃ w3,w2.alloc (.cells #[.int .i64 (eR ws c)] 3) = w3:=⟨_,rfl⟩
    have hb3:Below w2.heap.size w2 w3:=by rw [← hw3];exact (Below.refl _ _).alloc (nl_ _) _
    have hn3:w3.heap[w2.heap.size]? = some (.cells #[.int .i64 (eR ws c)] 3 (0,0)):=by rw [← hw3];exact ha_ _ _
    have B3:=hid (B2.out.trans (hb3.mono B2.out.size))
    have LE:=hid (least1 mm (eR ws c) w2.heap.size 0 1 w3 (cg_ hn3 (k:=0) rfl))
    clear hb2 hb3 hn3 z0 z1 e0 e1 EN B1 B2
    go_wp2_with fail
    try rw [hw3]
    refine LE.out.mono ?_
    rintro e w4 ⟨rfl,hw4⟩
    subst hw4
    rw [← HMM.out]
    clear LE HMM hw3
    go_wp2_with fail
    go_roundw
    case rel=>exact ⟨k + 1,by omega,by go_num,rfl,B3.out⟩
    case measure=>simp [intOf];omega
  · obtain rfl:k = l.length:=by omega
    rw [List.take_length]
    have hbm:=HBD.out l.length
    rw [List.take_length] at hbm
    obtain ⟨d,hd⟩:∃ d,mMost ws l m = d:=⟨_,rfl⟩
    rw [hd] at hbm ⊢
    have HD:=hid hd
    clear HBD hd
    go_wp2_with fail
    go_loopw [35] (fun vi wk=>∃ (k:Nat) (ws':List Way),k ≤ l.length∧vi = .int .i64 k∧Hid (ws' = (l.take k).foldl (fun ws' c=>vE_ ws' d c) ws)∧Hid (NetS B N v ws' wk)∧Hid (Keep (fun b=>v.ownBlock = some b) w wk)∧Hid (∀ x ∈ ws', -(1000000 * (k:Int)) ≤ x.goes∧x.goes ≤ 1000000 * ((k:Int) + 1))) (fun vi _=>l.length - (intOf vi).toNat)
    case atStart=>
     refine ⟨0,ws,by omega,rfl,rfl,HN.out.below HB.out,Keep.of_below HB.out,fun x hx=>?_⟩
     have:=HW.out x hx
     omega
    case round=>
     obtain ⟨k,ws',hk,rfl,hws,hns,HK,hbx⟩:=hrel
     by_cases hlt2:k < l.length
     · have hlt':(k:Int) < (l.length:Int):=by omega
       obtain ⟨g,o,rfl,hg,_,_,hcell⟩:=SlC.cells HL.out (by omega)
       obtain ⟨c,hc⟩:∃ c,l[k] = c:=⟨_,rfl⟩
       have hgb:=xa_ hlt2
       rw [List.getD_eq_getElem?_getD,List.getElem?_eq_getElem hlt2,Option.getD_some,hc] at hgb
       have hgS:=HS.out g hg
       have hzk:=HK.out.size
       have e0:=HK.out.cell hgS.1 hgS.2 (hcell _ _ hgb.1)
       have e1:=HK.out.cell hgS.1 hgS.2 (hcell _ _ hgb.2)
       rw [← Nat.add_assoc] at e1
       have hcm:c ∈ l:=by rw [← hc];exact List.getElem_mem hlt2
       have hwl:ws'.length = ws.length:=by
        rw [hws.out]
        have:∀ (l:List Cg) (ws:List Way),(l.foldl (fun ws' c=>vE_ ws' d c) ws).length = ws.length:=by
         intro l
         induction l with
         | nil=>intro ws;rfl
         | cons c l ih=>intro ws;rw [List.foldl_cons,ih,put1_len]
        exact this _ _
       have hcw:c.way < ws'.length:=by rw [hwl];exact HC.out c hcm
       obtain ⟨ga,gc,hve,hBg,hgl,hgc1,hgc2,hat⟩:=hns.out.at hcw
       obtain ⟨x,hx⟩:∃ x,ws'[c.way] = x:=⟨_,rfl⟩
       have hxm:x ∈ ws':=by rw [← hx];exact List.getElem_mem hcw
       have hxb:=hbx.out x hxm
       have hxa:LS.at_ ws' c.way = x:=by rw [LS.at_,List.getD_eq_getElem?_getD,List.getElem?_eq_getElem hcw,hx];rfl
       have HWS:=hid (show vE_ ws' d c = (l.take (k + 1)).foldl (fun ws' c=>vE_ ws' d c) ws by rw [List.take_succ_eq_append_getElem hlt2,hc,List.foldl_append,← hws.out];rfl)
       have HPM:=hid (put1_mod ws' d c)
       rw [hxa] at HPM
       have hkk:(k:Int) ≤ 20:=by omega
       have hva:v.ownBlock = some ga:=by rw [hve];rfl
       obtain ⟨w1,hw1⟩:∃ w1,wr.alloc (.cells #[.int .i64 c.way, .bool c.more] 237) = w1:=⟨_,rfl⟩
       have hb1:Below wr.heap.size wr w1:=by rw [← hw1];exact (Below.refl _ _).alloc (nl_ _) _
       have hn1:w1.heap[wr.heap.size]? = some (.cells #[.int .i64 c.way, .bool c.more] 237 (0,0)):=by rw [← hw1];exact ha_ _ _
       obtain ⟨bx,hbx'⟩:∃ b,wr.heap.size = b:=⟨_,rfl⟩
       rw [hbx'] at hn1
       have NS1:=hid (hns.out.below hb1)
       have K1:=hid (HK.out.trans (Keep.of_below hb1))
       have CN:=hid hn1
       have z0:=cg_ hn1 (k:=0) (v := .int .i64 c.way) rfl
       have z1:=cg_ hn1 (k:=1) (v := .bool c.more) rfl
       have HXG:=hid (show ∀ V:World,NetS B N v ws' V→V.cell? ⟨ga,c.way * 6 + 5,none⟩ = some (.int .i64 x.goes)∧V.frozen? ⟨ga,c.way * 6 + 5,none⟩ = false from fun V h=>by
        obtain ⟨ga2,gc2,hve2,_,_,_,_,hat2⟩:=h.at hcw
        rw [hve] at hve2
        cases hve2
        rw [hx] at hat2
        exact hat2 5 _ rfl)
       have hbl:bx ≠ ga:=by rw [← hbx'];omega
       have hxn:∀ y ∈ vE_ ws' d c, -(1000000 * ((k:Int) + 1)) ≤ y.goes∧y.goes ≤ 1000000 * ((k:Int) + 2):=by
        intro y hy
        obtain ⟨i,hi,rfl⟩:=List.mem_iff_getElem.1 hy
        have hi':i < ws'.length:=by rw [put1_len] at hi;exact hi
        have h1:=put1_at ws' d c i hi'
        rw [show LS.at_ (vE_ ws' d c) i = (vE_ ws' d c)[i] by rw [LS.at_,List.getD_eq_getElem?_getD,List.getElem?_eq_getElem hi];rfl] at h1
        have h2:=hbx.out _ (List.getElem_mem hi')
        rw [show LS.at_ ws' i = ws'[i] by rw [LS.at_,List.getD_eq_getElem?_getD,List.getElem?_eq_getElem hi'];rfl] at h1
        rw [h1]
        show _ ≤ ws'[i].goes + d * dl c i∧ws'[i].goes + d * dl c i ≤ _
        rw [dl]
        split
        · split <;> omega
        · omega
       have HXN:=hid hxn
       have hcI:(c.way:Int) < (ws'.length:Int):=by omega
       have hc0:(0:Int) ≤ (c.way:Int):=by omega
       unfold maxLen at hgc2
       clear hcell hgb hc hb1 hn1 hat hx hxm hns HK hxa hws hxn hbx hwl
       go_upto_if 40 with fail
       try rw [hw1]
       try simp only [hbx']
       clear hw1 hbx' e0 e1
       have SC:=hid (fun (V:World) (h:NetS B N v ws' V) (h2:V.heap[bx]? = some (.cells #[.int .i64 c.way, .bool c.more] 237 (0,0)))=>show V.cell? ⟨N,0,none⟩ = some (.slice (some ⟨ga,0,none⟩) ws'.length gc)∧V.cell? ⟨bx,0,none⟩ = some (.int .i64 c.way)∧V.cell? ⟨ga,c.way * 6 + 5,none⟩ = some (.int .i64 x.goes) from ⟨by have:=cg_ h.n (k:=0) (v:=v) rfl;rw [hve] at this;exact this,cg_ h2 (k:=0) rfl,(HXG.out V h).1⟩)
       obtain ⟨mo,hmo⟩:∃ mo,c.more = mo:=⟨_,rfl⟩
       rw [hmo] at z1 HPM
       try simp only [hmo]
       clear hmo
       cases mo with
       | true=>
         have hwr:IntKind.i64.wrap (x.goes + d) = x.goes + d:=IntWalk.i64_in _ (by omega)
         go_upto_region 10 with fail
         have hbd:Below w1.heap.size w1 w1.drew:=(Below.refl _ w1).drew
         obtain ⟨x0,hx0⟩:∃ x0,w1.drew = x0:=⟨_,rfl⟩
         rw [hx0] at hbd
         have NS0:=hid (NS1.out.below hbd)
         have CN0:=hid (q0_ CN.out hbd)
         have K0:=hid (K1.out.trans (Keep.of_below hbd))
         have hS0:=SC.out x0 NS0.out CN0.out
         clear hbd z0 z1
         refine (wpIn_wide (n:=9)).1 ?_
         refine zS_ (fun V:World=>V.cell? ⟨N,0,none⟩ = some (.slice (some ⟨ga,0,none⟩) ws'.length gc)∧V.cell? ⟨bx,0,none⟩ = some (.int .i64 c.way)∧V.cell? ⟨ga,c.way * 6 + 5,none⟩ = some (.int .i64 x.goes)) 13 (by kernel_rfl) ?_
         rw [hx0]
         clear hx0
         refine tkU 0 41 (.pointer (some ⟨N,0,none⟩)) rfl rfl hS0 ?_
         refine tkU 1 42 (.pointer (some ⟨N,0,none⟩)) rfl rfl hS0 ?_
         refine tkU 2 43 (.pointer (some ⟨N,0,none⟩)) rfl rfl hS0 ?_
         refine tkU 3 44 (.slice (some ⟨ga,0,none⟩) ws'.length gc) rfl rfl hS0 ?_
         refine tkU 4 45 (.pointer (some ⟨bx,0,none⟩)) rfl rfl hS0 ?_
         refine tkU 5 46 (.int .i64 c.way) rfl rfl hS0 ?_
         refine tkU 6 47 (.pointer (some ⟨ga,c.way * 6,none⟩)) rfl rfl hS0 ?_
         refine tkU 7 48 (.pointer (some ⟨ga,c.way * 6 + 5,none⟩)) rfl rfl hS0 ?_
         refine tkU 8 49 (.int .i64 x.goes) rfl rfl hS0 ?_
         refine tkU 9 50 (.int .i64 d) rfl rfl hS0 ?_
         refine tkU 10 51 (.int .i64 (x.goes + d)) rfl rfl hS0 ?_
         refine qk_ (i:=11) (by kernel_rfl) rfl (by kernel_rfl) (by decide) (fun K hK=>?_)
         go_simp
         refine hK _ _ ⟨hS0,?_⟩
         clear hK
         refine qk_ (i:=12) (by kernel_rfl) rfl (by kernel_rfl) (by decide) (fun K hK=>?_)
         go_simp
         refine hK _ _ ⟨hS0,?_⟩
         clear hK
         refine zv_ (by kernel_rfl) rfl (by kernel_rfl) (by kernel_rfl) (fun K hK=>?_)
         obtain ⟨hz0,hz1⟩:=HXG.out x0 NS0.out
         obtain ⟨ga2,gc2,hve2,hput,_⟩:=NS0.out.put hcw (x.goes + d)
         rw [hve] at hve2
         cases hve2
         have hpm:=HPM.out
         rw [show (x.goes + d * (if true = true then (1:Int) else -1)) = x.goes + d by simp;try omega] at hpm
         rw [← hpm] at hput
         have NP:=hid hput
         have KP:=hid (K0.out.trans (Keep.setCell (A:=x0) (p:=⟨ga,c.way * 6 + 5,none⟩) (v := .int .i64 (x.goes + d)) hva))
         go_simp
         refine hK _ _ ?_
         clear hK hz0 hz1 hput hS0 hpm
         go_simp
         go_wp2_with fail
         go_roundw
         case rel=>exact ⟨k + 1,vE_ ws' d c,by omega,by go_num,HWS.out,NP.out,KP.out,HXN.out⟩
         case measure=>simp [intOf];omega
       | false=>
         have hwr:IntKind.i64.wrap (x.goes - d) = x.goes - d:=IntWalk.i64_in _ (by omega)
         go_upto_region 11 with fail
         have hbd:Below w1.heap.size w1 w1.drew:=(Below.refl _ w1).drew
         obtain ⟨x0,hx0⟩:∃ x0,w1.drew = x0:=⟨_,rfl⟩
         rw [hx0] at hbd
         have NS0:=hid (NS1.out.below hbd)
         have CN0:=hid (q0_ CN.out hbd)
         have K0:=hid (K1.out.trans (Keep.of_below hbd))
         have hS0:=SC.out x0 NS0.out CN0.out
         clear hbd z0 z1
         refine (wpIn_wide (n:=9)).1 ?_
         refine zS_ (fun V:World=>V.cell? ⟨N,0,none⟩ = some (.slice (some ⟨ga,0,none⟩) ws'.length gc)∧V.cell? ⟨bx,0,none⟩ = some (.int .i64 c.way)∧V.cell? ⟨ga,c.way * 6 + 5,none⟩ = some (.int .i64 x.goes)) 13 (by kernel_rfl) ?_
         rw [hx0]
         clear hx0
         refine tkU 0 54 (.pointer (some ⟨N,0,none⟩)) rfl rfl hS0 ?_
         refine tkU 1 55 (.pointer (some ⟨N,0,none⟩)) rfl rfl hS0 ?_
         refine tkU 2 56 (.pointer (some ⟨N,0,none⟩)) rfl rfl hS0 ?_
         refine tkU 3 57 (.slice (some ⟨ga,0,none⟩) ws'.length gc) rfl rfl hS0 ?_
         refine tkU 4 58 (.pointer (some ⟨bx,0,none⟩)) rfl rfl hS0 ?_
         refine tkU 5 59 (.int .i64 c.way) rfl rfl hS0 ?_
         refine tkU 6 60 (.pointer (some ⟨ga,c.way * 6,none⟩)) rfl rfl hS0 ?_
         refine tkU 7 61 (.pointer (some ⟨ga,c.way * 6 + 5,none⟩)) rfl rfl hS0 ?_
         refine tkU 8 62 (.int .i64 x.goes) rfl rfl hS0 ?_
         refine tkU 9 63 (.int .i64 d) rfl rfl hS0 ?_
         refine tkU 10 64 (.int .i64 (x.goes - d)) rfl rfl hS0 ?_
         refine qk_ (i:=11) (by kernel_rfl) rfl (by kernel_rfl) (by decide) (fun K hK=>?_)
         go_simp
         refine hK _ _ ⟨hS0,?_⟩
         clear hK
         refine qk_ (i:=12) (by kernel_rfl) rfl (by kernel_rfl) (by decide) (fun K hK=>?_)
         go_simp
         refine hK _ _ ⟨hS0,?_⟩
         clear hK
         refine zv_ (by kernel_rfl) rfl (by kernel_rfl) (by kernel_rfl) (fun K hK=>?_)
         obtain ⟨hz0,hz1⟩:=HXG.out x0 NS0.out
         obtain ⟨ga2,gc2,hve2,hput,_⟩:=NS0.out.put hcw (x.goes - d)
         rw [hve] at hve2
         cases hve2
         have hpm:=HPM.out
         rw [show (x.goes + d * (if false = true then (1:Int) else -1)) = x.goes - d by simp;try omega] at hpm
         rw [← hpm] at hput
         have NP:=hid hput
         have KP:=hid (K0.out.trans (Keep.setCell (A:=x0) (p:=⟨ga,c.way * 6 + 5,none⟩) (v := .int .i64 (x.goes - d)) hva))
         go_simp
         refine hK _ _ ?_
         clear hK hz0 hz1 hput hS0 hpm
         go_simp
         go_wp2_with fail
         go_roundw
         case rel=>exact ⟨k + 1,vE_ ws' d c,by omega,by go_num,HWS.out,NP.out,KP.out,HXN.out⟩
         case measure=>simp [intOf];omega
     · obtain rfl:k = l.length:=by omega
       go_wp2_with fail
       go_end0
       refine ⟨⟨_,rfl⟩,?_,HK.out⟩
       have hn:=hns.out
       rw [hws.out,List.take_length,← HD.out] at hn
       exact hn
def iV (l:List Int):Array Value:=(l.map (Value.int .i64)).toArray
theorem iV_set (l:List Int) (b:Nat) (x:Int):(iV l).setIfInBounds b (.int .i64 x) = iV (l.set b x):=by simp [iV,List.map_set]
theorem xA_ {l:List Int} {b:Nat} (h:b < l.length):(iV l)[b]? = some (.int .i64 (l.getD b 0)):=by
 simp [iV,List.getD_eq_getElem?_getD,List.getElem?_eq_getElem h]
structure CR (bf bb bl:Nat) (s:CS × Nat) (W:World):Prop where
 f:W.heap[bf]? = some (.cells (iV s.1.far) 282 (0,0))
 b:W.heap[bb]? = some (.cells (byV s.1.by_) 276 (0,0))
 l:W.heap[bl]? = some (.cells #[.int .i64 s.1.last] 3 (0,0))
 lf:s.1.far.length = 12
 lb:s.1.by_.length = 12
 bd:∀ j, -(s.2:Int) ≤ s.1.far.getD j 0∧s.1.far.getD j 0 ≤ 0
theorem enters161:LF.zn_ 161:=by intro args W;simp [go_sem]
def cSt (s:CS) (a b:Nat) (co:Int) (c:Cg):CS:=if s.far.getD a 0 + co < s.far.getD b 0 then ⟨s.far.set b (s.far.getD a 0 + co),s.by_.set b c,(b:Nat)⟩ else s
theorem bd_set {l:List Int} {k a b:Nat} {co:Int} (hl:l.length = 12) (hb:b < 12) (h:∀ j, -(k:Int) ≤ l.getD j 0∧l.getD j 0 ≤ 0) (hc : -1 ≤ co) (hlt:l.getD a 0 + co < l.getD b 0):∀ j, -((k + 1:Nat):Int) ≤ (l.set b (l.getD a 0 + co)).getD j 0∧(l.set b (l.getD a 0 + co)).getD j 0 ≤ 0:=by
 intro j
 have h1:=h a
 have h2:=h b
 have h3:=h j
 rw [zy_ _ _ _ _ _ (by omega)]
 split <;> omega
theorem w2_ (bf bb bl a b k:Nat) (co ro:Int) (c:Cg) (s:CS) (w:World) (hR:CR bf bb bl (s,k) w) (hne:bf ≠ bb∧bf ≠ bl∧bb ≠ bl) (ha:a < 12) (hb:b < 12) (hab:a ≠ b) (hco : -1 ≤ co∧co ≤ 1) (hk:k ≤ 100000) :
 Calls Tryz.prog 161 #[.agg #[.int .i64 c.way, .bool c.more], .int .i64 a, .int .i64 b, .int .i64 co, .int .i64 ro, .pointer (some ⟨bf,0,none⟩), .pointer (some ⟨bb,0,none⟩), .pointer (some ⟨bl,0,none⟩)] w fun e w'=>(∃ r,e = .returned r)∧CR bf bb bl (cSt s a b co c,k + 1) w'∧Keep (fun q=>q = bf ∨ q = bb ∨ q = bl) w w':=by
 obtain ⟨w1,hw1⟩:∃ w1,w.alloc (.cells #[.int .i64 c.way, .bool c.more] 237) = w1:=⟨_,rfl⟩
 have hb1:Below w.heap.size w w1:=by rw [← hw1];exact (Below.refl _ _).alloc (nl_ _) _
 have hn1:w1.heap[w.heap.size]? = some (.cells #[.int .i64 c.way, .bool c.more] 237 (0,0)):=by rw [← hw1];exact ha_ _ _
 have hbfl:=(ge_ hR.f).1
 have hbbl:=(ge_ hR.b).1
 have hbll:=(ge_ hR.l).1
 have F1:=hid (q0_ hR.f hb1)
 have B1:=hid (q0_ hR.b hb1)
 have L1:=hid (q0_ hR.l hb1)
 have lf:=hR.lf
 have lb:=hR.lb
 have BD:=hid hR.bd
 have CN:=hid hn1
 have K1:=hid (Keep.of_below (O:=fun q=>q = bf ∨ q = bb ∨ q = bl) hb1)
 obtain ⟨fa,hfa⟩:∃ x,s.far.getD a 0 = x:=⟨_,rfl⟩
 obtain ⟨fb,hfb⟩:∃ x,s.far.getD b 0 = x:=⟨_,rfl⟩
 have hfab:=hR.bd a
 simp only [hfa] at hfab
 obtain ⟨bx,hbx⟩:∃ x,w.heap.size = x:=⟨_,rfl⟩
 rw [hbx] at CN hbfl hbbl hbll
 have haI:(a:Int) < 12:=by omega
 have hbI:(b:Int) < 12:=by omega
 have ha0:(0:Int) ≤ (a:Int):=by omega
 have hb0:(0:Int) ≤ (b:Int):=by omega
 have hwr:IntKind.i64.wrap (fa + co) = fa + co:=IntWalk.i64_in _ (by omega)
 have HFA:=hid hfa
 have HFB:=hid hfb
 have HST:=hid (show cSt s a b co c = if fa + co < fb then ⟨s.far.set b (fa + co),s.by_.set b c,(b:Nat)⟩ else s by rw [cSt,hfa,hfb])
 clear hR hb1 hn1 hfa hfb
 go_enter Tryz.func161,Tryz.ntmps161
 go_upto_region 1 with fail
 try rw [hw1]
 try simp only [hbx]
 clear hw1 hbx
 obtain ⟨x0,hx0⟩:∃ x0,w1.drew = x0:=⟨_,rfl⟩
 have hbd:Below w1.heap.size w1 x0:=by rw [← hx0];exact (Below.refl _ w1).drew
 replace F1:=hid (q0_ F1.out hbd)
 replace B1:=hid (q0_ B1.out hbd)
 replace L1:=hid (q0_ L1.out hbd)
 replace CN:=hid (q0_ CN.out hbd)
 replace K1:=hid (K1.out.trans (Keep.of_below hbd))
 have hS0:x0.cell? ⟨bf,a,none⟩ = some (.int .i64 fa)∧x0.cell? ⟨bf,b,none⟩ = some (.int .i64 fb):=⟨by rw [← HFA.out];exact cg_ F1.out (xA_ (by omega)),by rw [← HFB.out];exact cg_ F1.out (xA_ (by omega))⟩
 refine (wpIn_wide (n:=9)).1 ?_
 refine q6_ (fun V:World=>V.cell? ⟨bf,a,none⟩ = some (.int .i64 fa)∧V.cell? ⟨bf,b,none⟩ = some (.int .i64 fb)) (by kernel_rfl) ?_
 rw [hx0]
 clear hx0 hbd
 refine tkZ 0 13 (.int .i64 a) rfl rfl hS0 ?_
 refine tkZ 1 14 (.pointer (some ⟨bf,a,none⟩)) rfl rfl hS0 ?_
 refine tkZ 2 15 (.int .i64 fa) rfl rfl hS0 ?_
 refine tkZ 3 16 (.int .i64 co) rfl rfl hS0 ?_
 refine tkZ 4 17 (.int .i64 (fa + co)) rfl rfl hS0 ?_
 refine tkZ 5 18 (.int .i64 b) rfl rfl hS0 ?_
 refine tkZ 6 19 (.pointer (some ⟨bf,b,none⟩)) rfl rfl hS0 ?_
 refine tkZ 7 20 (.int .i64 fb) rfl rfl hS0 ?_
 refine tkZ 8 21 (.bool (decide (fa + co < fb))) rfl rfl hS0 ?_
 refine q7_ (by kernel_rfl) ?_
 go_simp
 clear hS0
 by_cases hlt:fa + co < fb
 · have HS2:=hid (show cSt s a b co c = ⟨s.far.set b (fa + co),s.by_.set b c,(b:Nat)⟩ by rw [HST.out,if_pos hlt])
   have HB2:=hid (show ∀ j, -((k + 1:Nat):Int) ≤ (s.far.set b (fa + co)).getD j 0∧(s.far.set b (fa + co)).getD j 0 ≤ 0 by
    have:=bd_set (a:=a) lf hb BD.out hco.1 (by rw [HFA.out,HFB.out];exact hlt)
    rwa [HFA.out] at this)
   clear HST BD
   go_wp2_with fail
   obtain ⟨y0,hy0⟩:∃ y0,x0.drew = y0:=⟨_,rfl⟩
   have hbd:Below x0.heap.size x0 y0:=by rw [← hy0];exact (Below.refl _ x0).drew
   replace F1:=hid (q0_ F1.out hbd)
   replace B1:=hid (q0_ B1.out hbd)
   replace L1:=hid (q0_ L1.out hbd)
   replace CN:=hid (q0_ CN.out hbd)
   replace K1:=hid (K1.out.trans (Keep.of_below hbd))
   have SC:=hid (fun (V:World) (h1:V.cell? ⟨bf,a,none⟩ = some (.int .i64 fa)) (h2:V.heap[bx]? = some (.cells #[.int .i64 c.way, .bool c.more] 237 (0,0)))=>show V.cell? ⟨bf,a,none⟩ = some (.int .i64 fa)∧V.cell? ⟨bx,0,none⟩ = some (.int .i64 c.way)∧V.cell? ⟨bx,1,none⟩ = some (.bool c.more) from ⟨h1,cg_ h2 (k:=0) rfl,cg_ h2 (k:=1) rfl⟩)
   have hS0:=SC.out y0 (by rw [← HFA.out];exact cg_ F1.out (xA_ (by omega))) CN.out
   refine (wpIn_wide (n:=9)).1 ?_
   refine q6_ (fun V:World=>V.cell? ⟨bf,a,none⟩ = some (.int .i64 fa)∧V.cell? ⟨bx,0,none⟩ = some (.int .i64 c.way)∧V.cell? ⟨bx,1,none⟩ = some (.bool c.more)) (by kernel_rfl) ?_
   rw [hy0]
   clear hy0 hbd
   refine tkZ 0 22 (.int .i64 b) rfl rfl hS0 ?_
   refine tkZ 1 23 (.int .i64 b) rfl rfl hS0 ?_
   refine tkZ 2 24 (.int .i64 a) rfl rfl hS0 ?_
   refine tkZ 3 25 (.pointer (some ⟨bf,a,none⟩)) rfl rfl hS0 ?_
   refine tkZ 4 26 (.int .i64 fa) rfl rfl hS0 ?_
   refine tkZ 5 27 (.int .i64 co) rfl rfl hS0 ?_
   refine tkZ 6 28 (.int .i64 (fa + co)) rfl rfl hS0 ?_
   refine tkZ 7 29 (.agg #[.int .i64 c.way, .bool c.more]) rfl rfl hS0 ?_
   refine tkZ 8 30 (.int .i64 b) rfl rfl hS0 ?_
   refine tkZ 9 31 (.pointer (some ⟨bf,b,none⟩)) rfl rfl hS0 ?_
   refine aHO 10 rfl fun K hK=>?_
   have z0:=cg_ F1.out (xA_ (b:=b) (by omega))
   have z1:=q5_ F1.out (k:=b)
   have F2:=hid (show (y0.setCell ⟨bf,b,none⟩ (.int .i64 (fa + co))).heap[bf]? = some (.cells (iV (s.far.set b (fa + co))) 282 (0,0)) by rw [qe_ F1.out,iV_set])
   have B2:=hid (show (y0.setCell ⟨bf,b,none⟩ (.int .i64 (fa + co))).heap[bb]? = _ from (Below.heap_setCell _ _ _ _ (by simp;omega)).trans B1.out)
   have L2:=hid (show (y0.setCell ⟨bf,b,none⟩ (.int .i64 (fa + co))).heap[bl]? = _ from (Below.heap_setCell _ _ _ _ (by simp;omega)).trans L1.out)
   have C2:=hid (show (y0.setCell ⟨bf,b,none⟩ (.int .i64 (fa + co))).heap[bx]? = _ from (Below.heap_setCell _ _ _ _ (by simp;omega)).trans CN.out)
   have K2:=hid (K1.out.trans (Keep.setCell (A:=y0) (p:=⟨bf,b,none⟩) (v := .int .i64 (fa + co)) (.inl rfl)))
   go_simp
   have hfa2:(y0.setCell ⟨bf,b,none⟩ (.int .i64 (fa + co))).cell? ⟨bf,a,none⟩ = some (.int .i64 fa):=by
    have:=cg_ F2.out (xA_ (b:=a) (by simp;omega))
    rw [zy_ _ _ _ _ _ (by omega),if_neg hab,HFA.out] at this
    exact this
   have hS1:=SC.out _ hfa2 C2.out
   refine hK _ _ ⟨hS1,?_⟩
   have HF2:=hid hfa2
   obtain ⟨y1,hy1⟩:∃ x1,y0.setCell ⟨bf,b,none⟩ (.int .i64 (fa + co)) = x1:=⟨_,rfl⟩
   rw [hy1] at F2 B2 L2 C2 K2 hS1 HF2 ⊢
   clear hK z0 z1 hy1 hS0 F1 B1 L1 CN K1 hfa2
   refine tkZ 11 32 (.pointer (some ⟨bb,b * 2,none⟩)) rfl rfl hS1 ?_
   refine aHO 12 rfl fun K hK=>?_
   have z0:=cg_ B2.out (zH_ (b:=b) (by omega)).1
   have z1:=q5_ B2.out (k:=b * 2)
   have z2:=cg_ B2.out (zH_ (b:=b) (by omega)).2
   have z3:=q5_ B2.out (k:=b * 2 + 1)
   have hot:∀ q,q ≠ bb→((y1.setCell ⟨bb,b * 2,none⟩ (.int .i64 c.way)).setCell ⟨bb,b * 2 + 1,none⟩ (.bool c.more)).heap[q]? = y1.heap[q]?:=fun q hq=>(Below.heap_setCell _ _ _ _ hq).trans (Below.heap_setCell _ _ _ _ hq)
   have F3:=hid ((hot bf hne.1).trans F2.out)
   have B3:=hid (show ((y1.setCell ⟨bb,b * 2,none⟩ (.int .i64 c.way)).setCell ⟨bb,b * 2 + 1,none⟩ (.bool c.more)).heap[bb]? = some (.cells (byV (s.by_.set b c)) 276 (0,0)) by rw [qe_ (qe_ B2.out),byV_set])
   have L3:=hid ((hot bl (Ne.symm hne.2.2)).trans L2.out)
   have C3:=hid ((hot bx (by omega)).trans C2.out)
   have HF3:=hid ((World.cell?_of_block (a:=⟨bf,a,none⟩) (hot bf hne.1)).trans HF2.out)
   have K3:=hid ((K2.out.trans (Keep.setCell (A:=y1) (p:=⟨bb,b * 2,none⟩) (v := .int .i64 c.way) (.inr (.inl rfl)))).trans (Keep.setCell (p:=⟨bb,b * 2 + 1,none⟩) (v := .bool c.more) (.inr (.inl rfl))))
   go_simp
   have hS2:=SC.out _ HF3.out C3.out
   refine hK _ _ ⟨hS2,?_⟩
   obtain ⟨y2,hy2⟩:∃ x1,(y1.setCell ⟨bb,b * 2,none⟩ (.int .i64 c.way)).setCell ⟨bb,b * 2 + 1,none⟩ (.bool c.more) = x1:=⟨_,rfl⟩
   rw [hy2] at F3 B3 L3 C3 K3 hS2 HF3 ⊢
   clear hK z0 z1 z2 z3 hy2 hS1 F2 B2 L2 C2 K2 hot HF2
   refine aHO 13 rfl fun K hK=>?_
   have z0:=cg_ L3.out (k:=0) (v := .int .i64 s.last) rfl
   have z1:=q5_ L3.out (k:=0)
   have hot:∀ q,q ≠ bl→(y2.setCell ⟨bl,0,none⟩ (.int .i64 b)).heap[q]? = y2.heap[q]?:=fun q hq=>Below.heap_setCell _ _ _ _ hq
   have F4:=hid ((hot bf hne.2.1).trans F3.out)
   have B4:=hid ((hot bb hne.2.2).trans B3.out)
   have L4:=hid (show (y2.setCell ⟨bl,0,none⟩ (.int .i64 b)).heap[bl]? = some (.cells #[.int .i64 b] 3 (0,0)) by rw [qe_ L3.out];rfl)
   have C4:=hid ((hot bx (by omega)).trans C3.out)
   have HF4:=hid ((World.cell?_of_block (a:=⟨bf,a,none⟩) (hot bf hne.2.1)).trans HF3.out)
   have K4:=hid (K3.out.trans (Keep.setCell (A:=y2) (p:=⟨bl,0,none⟩) (v := .int .i64 b) (.inr (.inr rfl))))
   go_simp
   have hS3:=SC.out _ HF4.out C4.out
   refine hK _ _ ⟨hS3,?_⟩
   clear hK z0 z1 hS2 hot
   refine q7_ (by kernel_rfl) ?_
   go_simp
   go_wp2_with fail
   go_end0
   rw [HS2.out]
   exact ⟨⟨_,rfl⟩,⟨F4.out,B4.out,L4.out,by simpa using lf,by simpa using lb,HB2.out⟩,K4.out⟩
 · have HS2:=hid (show cSt s a b co c = s by rw [HST.out,if_neg hlt])
   clear HST
   go_wp2_with fail
   go_end0
   rw [HS2.out]
   exact ⟨⟨_,rfl⟩,⟨F1.out,B1.out,L1.out,lf,lb,fun j=>by have:=BD.out j;simp only at this ⊢;omega⟩,K1.out⟩
theorem owns_some {w:World} {base e k n:Nat} {v:Value} {xs:List Value} (h:w.ownsRow base e k v n xs) (hn:0 < n):∃ g c,v = .slice (some ⟨g,0,none⟩) n c∧base ≤ g:=by
 obtain ⟨_,⟨rfl,h0⟩ | ⟨g,cap,cur,rfl,hb,_⟩⟩:=h
 · omega
 · exact ⟨g,cap,rfl,hb⟩
def ChR (r:Option (List Cg)) (q:Nat) (e:Ending) (w':World):Prop:=match r with
 | none=>e = .returned (.slice none 0 0)
 | some l=>∃ a c,e = .returned (.slice (some ⟨a,0,none⟩) l.length c)∧w'.ownsRow q 237 2 (.slice (some ⟨a,0,none⟩) l.length c) l.length (l.flatMap cgL)
theorem chs_len:∀ k,(chs k).length = 2 * k
 | 0=>rfl
 | k + 1=>by rw [chs,List.length_append,chs_len k];simp;omega
theorem yb_ (ws:List Way) (k:Nat):(qN_ ws k).length ≤ 2 * k:=by
 rw [qN_,← chs_len];exact List.length_filter_le _ _
theorem vj_ (B N:Nat) (v:Value) (ws:List Way) (r:Option (List Cg)) (w:World) (hN:NetS B N v ws w) (hW:WB ws) (hlen:ws.length ≤ 100) (hF:Flow ws) (hr:(if (cAll ws).last < 0 then none else cycle ws (cAll ws)) = r) (hr2:¬ (cAll ws).last < 0→r ≠ none∧∀ l,r = some l→l.length ≤ 13) :
 Calls Tryz.prog 117 #[.pointer (some ⟨N,0,none⟩)] w fun e w'=>ChR r w.heap.size e w'∧Below w.heap.size w w':=by
 have NK:=hid hN
 have HW:=hid hW
 have HF:=hid hF
 have HR:=hid hr
 have HR2:=hid hr2
 have hNl:=(ge_ hN.n).1
 have OWV:=hid (fun g (h:v.ownBlock = some g)=>show B ≤ g∧g < w.heap.size from hN.own.lt g h)
 have NLT:=hid hN.lt
 obtain ⟨w3,hw3⟩:∃ w3,((w.alloc (.cells #[.int .i64 0, .int .i64 0, .int .i64 0, .int .i64 0, .int .i64 0, .int .i64 0, .int .i64 0, .int .i64 0, .int .i64 0, .int .i64 0, .int .i64 0, .int .i64 0] 282)).alloc (.cells #[.int .i64 0, .bool false, .int .i64 0, .bool false, .int .i64 0, .bool false, .int .i64 0, .bool false, .int .i64 0, .bool false, .int .i64 0, .bool false, .int .i64 0, .bool false, .int .i64 0, .bool false, .int .i64 0, .bool false, .int .i64 0, .bool false, .int .i64 0, .bool false, .int .i64 0, .bool false] 276)).alloc (.cells #[.int .i64 (-1)] 3) = w3:=⟨_,rfl⟩
 have hz3:w3.heap.size = w.heap.size + 3:=by rw [← hw3];simp
 have hb3:Below w.heap.size w w3:=by rw [← hw3];exact (((Below.refl _ _).alloc (nl_ _) _).alloc (by simp) _).alloc (by simp;omega) _
 have r1:w3.heap[w.heap.size]? = some (.cells (iV c0.far) 282 (0,0)):=by rw [← hw3];exact qb_ _ (qb_ _ (ha_ _ _))
 have r2:w3.heap[w.heap.size + 1]? = some (.cells (byV c0.by_) 276 (0,0)):=by rw [← hw3];have:=qb_ (.cells #[.int .i64 (-1)] 3) (ha_ (w.alloc (.cells #[.int .i64 0, .int .i64 0, .int .i64 0, .int .i64 0, .int .i64 0, .int .i64 0, .int .i64 0, .int .i64 0, .int .i64 0, .int .i64 0, .int .i64 0, .int .i64 0] 282)) (.cells #[.int .i64 0, .bool false, .int .i64 0, .bool false, .int .i64 0, .bool false, .int .i64 0, .bool false, .int .i64 0, .bool false, .int .i64 0, .bool false, .int .i64 0, .bool false, .int .i64 0, .bool false, .int .i64 0, .bool false, .int .i64 0, .bool false, .int .i64 0, .bool false, .int .i64 0, .bool false] 276));rw [show byV c0.by_ = #[.int .i64 0, .bool false, .int .i64 0, .bool false, .int .i64 0, .bool false, .int .i64 0, .bool false, .int .i64 0, .bool false, .int .i64 0, .bool false, .int .i64 0, .bool false, .int .i64 0, .bool false, .int .i64 0, .bool false, .int .i64 0, .bool false, .int .i64 0, .bool false, .int .i64 0, .bool false] from rfl];simpa using this
 have r3:w3.heap[w.heap.size + 2]? = some (.cells #[.int .i64 (-1)] 3 (0,0)):=by
  rw [← hw3];have:=ha_ ((w.alloc (.cells #[.int .i64 0, .int .i64 0, .int .i64 0, .int .i64 0, .int .i64 0, .int .i64 0, .int .i64 0, .int .i64 0, .int .i64 0, .int .i64 0, .int .i64 0, .int .i64 0] 282)).alloc (.cells #[.int .i64 0, .bool false, .int .i64 0, .bool false, .int .i64 0, .bool false, .int .i64 0, .bool false, .int .i64 0, .bool false, .int .i64 0, .bool false, .int .i64 0, .bool false, .int .i64 0, .bool false, .int .i64 0, .bool false, .int .i64 0, .bool false, .int .i64 0, .bool false, .int .i64 0, .bool false] 276)) (.cells #[.int .i64 (-1)] 3)
  simpa using this
 obtain ⟨q,hq⟩:∃ q,w.heap.size = q:=⟨_,rfl⟩
 rw [hq] at r1 r2 r3 hz3 hNl
 have HQ:=hid hq
 have P3:=hid (show CR q (q + 1) (q + 1 + 1) (c0,0) w3 from ⟨r1,r2,r3,by simp [c0],by simp [c0],fun j=>by
  have:c0.far.getD j 0 = 0:=by simp only [c0,List.getD_eq_getElem?_getD,List.getElem?_replicate];split <;> rfl
  rw [this];simp⟩)
 have B3:=hid (show Below q w w3 by rw [← hq];exact hb3)
 have HZ3:=hid hz3
 clear hN hW hF hr hr2 hb3 r1 r2 r3 hq hz3
 go_enter Tryz.func117,Tryz.ntmps117
 go_upto_block 0 with fail
 try rw [hw3]
 simp only [HQ.out]
 clear hw3
 go_wp2_with fail
 go_loopw [9] (fun vi wr=>∃ (j k:Nat),j ≤ 13∧vi = .int .i64 j∧Hid (CR q (q + 1) (q + 1 + 1) (iter (vn_ ws) j c0,k) wr)∧k ≤ 200 * j∧Hid (Below q w wr)∧q + 3 ≤ wr.heap.size) (fun vi _=>13 - (intOf vi).toNat)
 case atStart=>exact ⟨0,0,by omega,rfl,P3.out,by omega,B3.out,by have:=HZ3.out;omega⟩
 case round=>
  obtain ⟨j,k,hj,rfl,HC,hk,HB,hsz⟩:=hrel
  have l0:=cg_ HC.out.l (k:=0) rfl
  have f0:=q5_ HC.out.l (k:=0)
  by_cases hlt:j < 13
  · have hlt':(j:Int) < 13:=by omega
    obtain ⟨s,hs⟩:∃ s,iter (vn_ ws) j c0 = s:=⟨_,rfl⟩
    have hS:iter (vn_ ws) (j + 1) c0 = (qN_ ws ws.length).foldl (w6_ ws) { s with last := -1 }:=by rw [qs_,hs];rfl
    have HSS:=hid hS
    rw [hs] at HC
    obtain ⟨w4,hw4⟩:∃ w4,wr.setCell ⟨q + 1 + 1,0,none⟩ (.int .i64 (-1)) = w4:=⟨_,rfl⟩
    have C4:=hid (show CR q (q + 1) (q + 1 + 1) ({ s with last := -1 },k) w4 from by
     rw [← hw4]
     exact ⟨(Below.heap_setCell _ _ _ _ (by simp;omega)).trans HC.out.f,(Below.heap_setCell _ _ _ _ (by simp)).trans HC.out.b,by rw [qe_ HC.out.l];rfl,HC.out.lf,HC.out.lb,HC.out.bd⟩)
    have B4:=hid (show Below q w w4 by rw [← hw4];exact HB.out.setCell (p:=⟨q + 1 + 1,0,none⟩) (by simp;omega) _)
    have hz4:q + 3 ≤ w4.heap.size:=by rw [← hw4];simpa [World.setCell] using hsz
    have NS4:=hid (show NetS B N v ws w4 from NK.out.below (HQ.out ▸ B4.out:Below w.heap.size w w4))
    have CH:=hid (jI_ 161 enters161 #[.pointer (some ⟨q,0,none⟩), .pointer (some ⟨(q + 1),0,none⟩), .pointer (some ⟨(q + 1 + 1),0,none⟩)] B N v ws (fun pre W=>CR q (q + 1) (q + 1 + 1) (pre.foldl (w6_ ws) { s with last := -1 },k + pre.length) W) (fun x=>x = q ∨ x = q + 1 ∨ x = q + 1 + 1) w4 NS4.out HW.out hlen (fun x hx=>by
     refine ⟨by omega,by have:=NLT.out;have:=HQ.out;omega,fun h=>?_⟩
     have:=OWV.out x h
     have:=HQ.out
     omega) C4.out (fun pre V V' h hk=>⟨(hk _ (.inl rfl)).trans h.f,(hk _ (.inr (.inl rfl))).trans h.b,(hk _ (.inr (.inr rfl))).trans h.l,h.lf,h.lb,h.bd⟩) (fun pre c V hpre h hz=>by
     have hcm:c ∈ qN_ ws ws.length:=hpre.subset (by simp)
     have he:=zt_ HW.out (qp_.1 hcm).1
     have hee:=ends_lt HF.out hcm
     have hlp:pre.length ≤ 200:=by
      have a1:=hpre.length_le
      have a2:=yb_ ws ws.length
      simp at a1;omega
     have:=w2_ q (q + 1) (q + 1 + 1) (eF ws c) (eT ws c) (k + pre.length) (eC ws c) (eR ws c) c _ V h (by omega) he.1 he.2.1 hee.2.2 he.2.2.1 (by omega)
     rw [List.foldl_append,List.length_append]
     exact this))
    clear hs hS HC HB hsz C4 NS4
    go_wp2_with fail
    try rw [hw4]
    clear hw4 l0 f0
    refine CH.out.mono ?_
    rintro e w5 ⟨⟨rv,rfl⟩,hC5,hK5⟩
    have C5:=hid (show CR q (q + 1) (q + 1 + 1) (iter (vn_ ws) (j + 1) c0,k + (qN_ ws ws.length).length) w5 by rw [HSS.out];exact hC5)
    have B5:=hid (B4.out.trans (hK5.below (by omega) (fun b hb h=>by omega)))
    have hz5:=hK5.size
    have hll:=yb_ ws ws.length
    clear hC5 hK5 CH HSS
    go_wp2_with fail
    go_roundw
    case rel=>exact ⟨j + 1,_,by omega,by go_num,C5.out,by omega,B5.out,by omega⟩
    case measure=>simp [intOf];omega
  · obtain rfl:j = 13:=by omega
    obtain ⟨s,hs⟩:∃ s,cAll ws = s:=⟨_,rfl⟩
    have HSA:=hid hs
    have HC2:=hid (show CR q (q + 1) (q + 1 + 1) (s,k) wr by rw [← hs];exact HC.out)
    clear HC l0 f0 hs
    have l0:=cg_ HC2.out.l (k:=0) (v := .int .i64 s.last) rfl
    by_cases hneg:s.last < 0
    · have hrn:r = none:=by rw [← HR.out,HSA.out,if_pos hneg]
      subst hrn
      go_wp2_with fail
      go_ret
      exact ⟨rfl,by rw [HQ.out];exact HB.out⟩
    · have hcy:=cyc_live HF.out (by rw [HSA.out];omega)
      rw [HSA.out] at hcy
      obtain ⟨hr1,hr3⟩:=HR2.out (by rw [HSA.out];omega)
      obtain ⟨l,rfl⟩:∃ l,r = some l:=by cases r with
       | none=>exact absurd rfl hr1
       | some l=>exact ⟨l,rfl⟩
      have hll:=hr3 l rfl
      have hrd:cycle ws s = some l:=by rw [← HR.out,HSA.out,if_neg hneg]
      obtain ⟨ln,hln⟩:∃ ln:Nat,s.last = (ln:Int):=⟨s.last.toNat,by omega⟩
      have hlt0:s.last.toNat = ln:=by omega
      rw [hlt0] at hcy
      obtain ⟨f,hf⟩:∃ f:Nat→Nat,(fun at_=>eF ws (cby s at_)) = f:=⟨_,rfl⟩
      have hfx:∀ x,eF ws (cby s x) = f x:=fun x=>by rw [← hf]
      rw [hf] at hcy
      obtain ⟨a,ha⟩:∃ a,iter f 12 ln = a:=⟨_,rfl⟩
      have hrd2:LS.round ws s.by_ a 13 a = some l:=by
       have:LS.round ws s.by_ (iter (fun at_=>eF ws (s.by_.getD at_ Cg.z)) 12 s.last.toNat) 13 (iter (fun at_=>eF ws (s.by_.getD at_ Cg.z)) 12 s.last.toNat) = some l:=hrd
       rw [show (fun at_=>eF ws (s.by_.getD at_ Cg.z)) = f from hf,hlt0,ha] at this
       exact this
      have HFX:=hid hfx
      have HCY:=hid hcy.2
      have HRD:=hid hrd2
      have HA:=hid ha
      have h12:∀ n,iter f n ln < 12:=by
       intro n
       cases n with
       | zero=>exact hcy.1
       | succ n=>
         rw [qs_,← HFX.out]
         exact (ends_lt HF.out (HCY.out n)).1
      have H12:=hid h12
      have HLL:=hid hll
      rw [hln] at l0 hneg
      have HLN:=hid hln
      obtain ⟨i0,hi0,hy0,hy1,hy2⟩:=info_parts Tryz.info237
      clear hr1 hr3 hll hrd hlt0 hf hfx hcy hrd2 ha h12 hln HSA HR HR2
      go_wp2_with fail
      go_loopw [6,18] (fun va vi wk=>∃ (n:Nat),n ≤ 12∧vi = .int .i64 n∧va = .int .i64 (iter f n ln:Nat)∧Hid (CR q (q + 1) (q + 1 + 1) (s,k) wk)∧Hid (Below q w wk)∧q + 3 ≤ wk.heap.size) (fun _ vi _=>12 - (intOf vi).toNat)
      case atStart=>exact ⟨0,by omega,rfl,rfl,HC2.out,HB.out,hsz⟩
      case round=>
       obtain ⟨n,hn,rfl,rfl,HC3,HB3,hsz3⟩:=hrel
       have hx12:=H12.out n
       have hxl:=HCY.out n
       have hxs:iter f (n + 1) ln = eF ws (cby s (iter f n ln)):=by rw [qs_,HFX.out]
       have HXS:=hid hxs
       by_cases hlt12:n < 12
       · have hlt':(n:Int) < 12:=by omega
         obtain ⟨x,hx⟩:∃ x,iter f n ln = x:=⟨_,rfl⟩
         rw [hx] at hx12 hxl HXS ⊢
         obtain ⟨c,hc⟩:∃ c,cby s x = c:=⟨_,rfl⟩
         rw [hc] at hxl HXS
         have hxI:(x:Int) < 12:=by omega
         have hx0:(0:Int) ≤ (x:Int):=by omega
         have hbg:=zH_ (l:=s.by_) (b:=x) (by have:=HC3.out.lb;simp only at this;omega)
         rw [show s.by_.getD x Cg.z = c from hc] at hbg
         have g0:=cg_ HC3.out.b hbg.1
         have g1:=cg_ HC3.out.b hbg.2
         have EN:=hid (zT_ B N c v ws wr (NK.out.below (HQ.out ▸ HB3.out:Below w.heap.size w wr)) (qp_.1 hxl).1 HW.out)
         clear hbg hx hc hxs
         go_wp2_with fail
         refine EN.out.mono ?_
         rintro e w8 ⟨rfl,hb8⟩
         have C8:=hid (show CR q (q + 1) (q + 1 + 1) (s,k) w8 from ⟨q0_ HC3.out.f hb8,q0_ HC3.out.b hb8,q0_ HC3.out.l hb8,HC3.out.lf,HC3.out.lb,HC3.out.bd⟩)
         have B8:=hid (HB3.out.trans (hb8.mono (by omega)))
         have hz8:=hb8.size
         clear hb8 g0 g1 EN
         rw [← HXS.out]
         go_wp2_with fail
         go_roundw
         case rel=>exact ⟨n + 1,by omega,by go_num,rfl,C8.out,B8.out,by omega⟩
         case measure=>simp [intOf];omega
       · have hn12:n = 12:=by omega
         have hA2:iter f n ln = a:=by rw [hn12];exact HA.out
         rw [hA2]
         rw [hA2] at hx12 hxl
         have hnI:¬ (n:Int) < 12:=by omega
         clear hxs HXS hA2 hn12 hlt12
         go_wp2_with fail
         clear hnI
         go_loopw [6,7] (fun va vo wk=>∃ (kk n:Nat) (l1 l2:List Cg),l = l1 ++ l2∧Hid (LS.round ws s.by_ a kk (iter f n ln) = some l2)∧va = .int .i64 (iter f n ln:Nat)∧wk.ownsRow (q + 3) 237 2 vo l1.length (l1.flatMap cgL)∧Hid (CR q (q + 1) (q + 1 + 1) (s,k) wk)∧Hid (Below q w wk)∧q + 3 ≤ wk.heap.size) (fun _ vo _=>14 - lenOf vo)
         case atStart=>exact ⟨13,12,[],l,rfl,by rw [HA.out];exact HRD.out,by rw [HA.out],World.ownsRow_nil _ _ _ _,HC3.out,HB3.out,hsz3⟩
         case round=>
          obtain ⟨kk,n,l1,l2,hl,hrk,rfl,hown,HC4,HB4,hsz4⟩:=hrel
          obtain ⟨sa,sc,rfl,hsc1,hsc2⟩:=owns_shape hown
          have hy12:=H12.out n
          have hyl:=HCY.out n
          have hys:iter f (n + 1) ln = eF ws (cby s (iter f n ln)):=by rw [qs_,HFX.out]
          obtain ⟨x,hx⟩:∃ x,iter f n ln = x:=⟨_,rfl⟩
          have hrk:=hrk.out
          rw [hx] at hy12 hyl hys hrk ⊢
          obtain ⟨c,hc⟩:∃ c,cby s x = c:=⟨_,rfl⟩
          rw [hc] at hyl hys
          have HYS:=hid hys
          have HCC:=hid hc
          have hxI:(x:Int) < 12:=by omega
          have hx0:(0:Int) ≤ (x:Int):=by omega
          have hbg:=zH_ (l:=s.by_) (b:=x) (by have:=HC4.out.lb;simp only at this;omega)
          rw [show s.by_.getD x Cg.z = c from hc] at hbg
          have g0:=cg_ HC4.out.b hbg.1
          have g1:=cg_ HC4.out.b hbg.2
          have hl2:∃ l3,l2 = c :: l3∧((eF ws c = a∧l3 = []) ∨ (eF ws c ≠ a∧∃ k',LS.round ws s.by_ a k' (eF ws c) = some l3)):=by
           cases kk with
           | zero=>rw [LS.round] at hrk;cases hrk
           | succ kk=>
             rw [LS.round,show s.by_.getD x Cg.z = c from hc] at hrk
             by_cases e:eF ws c = a
             · rw [if_pos e] at hrk
               cases hrk
               exact ⟨[],rfl, .inl ⟨e,rfl⟩⟩
             · rw [if_neg e] at hrk
               obtain ⟨l3,h1,h2⟩:=Option.map_eq_some_iff.1 hrk
               exact ⟨l3,h2.symm, .inr ⟨e,kk,h1⟩⟩
          obtain ⟨l3,rfl,hcase⟩:=hl2
          have hll1:l1.length + 1 ≤ 13:=by
           have:=HLL.out
           rw [hl] at this;simp at this;omega
          have HL:=hid hl
          have HCS:=hid hcase
          obtain ⟨w6,hw6⟩:∃ w6,wr.alloc (.cells #[.int .i64 c.way, .bool c.more] 237) = w6:=⟨_,rfl⟩
          have hb6:Below wr.heap.size wr w6:=by rw [← hw6];exact (Below.refl _ _).alloc (nl_ _) _
          have hn6:w6.heap[wr.heap.size]? = some (.cells #[.int .i64 c.way, .bool c.more] 237 (0,0)):=by rw [← hw6];exact ha_ _ _
          have how6:=ob_ hown hb6 (nl_ _)
          have hnews:∀ ad,(some ⟨wr.heap.size,0,none⟩:Option Addr) = some ad→∀ (j:Nat) (u:Value),(cgL c)[j]? = some u→w6.cell? (ad.add j) = some u:=fun ad had=>by cases had;exact fun j u hj=>World.news_of_block (cs:=#[.int .i64 c.way, .bool c.more]) (t:=237) (fr:=(0,0)) hn6 j u (by simpa [cgL] using hj)
          have hone:∀ u ∈ cgL c,u.oneCell' = true:=by intro u hu;simp [cgL] at hu;rcases hu with rfl | rfl <;> rfl
          have hz6:=hb6.size
          have HB6:=hid hb6
          have hcw:=(qp_.1 hyl).1
          clear hl hcase hbg hn6 hx hc hys hrk hb6
          go_upto_region 19 with (at_builtin;go_loud (refine q9_ _ rfl _ _ _ rfl (q + 3) 237 i0 _ 2 16 Tryz.underlying230 hi0 hy0 hy1 hy2 rfl (by omega) _ l1.length (l1.flatMap cgL) rfl how6 (some ⟨wr.heap.size,0,none⟩) 1 1 (cgL c) rfl rfl (fun h=>by cases h) hnews hone (by unfold maxLen;omega) (by omega) (by omega) ?_);intro a7 c7 w7 hown7 hgrow7 hat7)
          have hz7:=hgrow7.size
          have hrow:∀ g,g < q + 3→some g ≠ (Value.slice sa l1.length sc).ownBlock:=fun g hg e=>by have:=(how6.lt _ e.symm).1;omega
          have C7:=hid (show CR q (q + 1) (q + 1 + 1) (s,k) w7 from ⟨(hgrow7.block _ (by omega) (hrow _ (by omega))).trans (q0_ HC4.out.f HB6.out),(hgrow7.block _ (by omega) (hrow _ (by omega))).trans (q0_ HC4.out.b HB6.out),(hgrow7.block _ (by omega) (hrow _ (by omega))).trans (q0_ HC4.out.l HB6.out),HC4.out.lf,HC4.out.lb,HC4.out.bd⟩)
          have B7:=hid (show Below q w w7 from (HB4.out.trans (HB6.out.mono (by omega))).grown hgrow7 (by omega) (fun b hb=>by have:=(how6.lt b hb).1;omega))
          have OW7:=hid hown7
          have EN:=hid (zT_ B N c v ws w7 (NK.out.below (HQ.out ▸ B7.out:Below w.heap.size w w7)) hcw HW.out)
          have hbg:=zH_ (l:=s.by_) (b:=x) (by have:=HC4.out.lb;simp only at this;omega)
          rw [show s.by_.getD x Cg.z = c from HCC.out] at hbg
          have g0':=cg_ C7.out.b hbg.1
          have g1':=cg_ C7.out.b hbg.2
          clear hown7 hgrow7 hat7 how6 hnews g0 g1 HB6 HC4 HB4 hown hbg
          go_wp2_with fail
          refine EN.out.mono ?_
          rintro e w8 ⟨rfl,hb8⟩
          have C8:=hid (show CR q (q + 1) (q + 1 + 1) (s,k) w8 from ⟨q0_ C7.out.f hb8,q0_ C7.out.b hb8,q0_ C7.out.l hb8,C7.out.lf,C7.out.lb,C7.out.bd⟩)
          have B8:=hid (B7.out.trans (hb8.mono (by omega)))
          have OW8:=hid (ob_ OW7.out hb8 (nl_ _))
          have hz8:=hb8.size
          clear hb8 g0' g1' EN C7 B7 OW7
          obtain ⟨y,hy⟩:∃ y,eF ws c = y:=⟨_,rfl⟩
          rw [hy]
          by_cases hya:y = a
          · have hyI:(y:Int) = (a:Int):=by omega
            have hlf:l = l1 ++ [c]:=by
             rcases HCS.out with ⟨_,h2⟩ | ⟨h1,_⟩
             · rw [HL.out,h2]
             · exact absurd (hy.trans hya) h1
            have HLF:=hid hlf
            subst hya
            clear hy hyI HCS
            go_wp2_with fail
            go_ret
            obtain ⟨g7,c7',he7,_⟩:=owns_some OW8.out (by omega)
            cases he7
            refine ⟨⟨g7,c7,by rw [HLF.out];simp,?_⟩,by rw [HQ.out];exact B8.out⟩
            rw [HLF.out,HQ.out]
            have:=qF_ OW8.out (base':=q) (fun g hg=>by have:=(OW8.out.lt _ hg).1;omega)
            simpa [List.length_append] using this
          · have hyI:¬ (y:Int) = (a:Int):=by omega
            obtain ⟨k',hk'⟩:∃ k',LS.round ws s.by_ a k' y = some l3:=by
             rcases HCS.out with ⟨h1,_⟩ | ⟨_,k',h2⟩
             · exact absurd (hy.symm.trans h1) hya
             · exact ⟨k',hy ▸ h2⟩
            have HK':=hid hk'
            have HYN:=hid (show y = iter f (n + 1) ln from hy.symm.trans HYS.out.symm)
            clear hy hk' HCS
            go_wp2_with fail
            go_roundw
            case rel=>exact ⟨k',n + 1,l1 ++ [c],l3,by rw [HL.out];simp,by rw [← HYN.out];exact HK'.out,by rw [← HYN.out],by simpa [List.length_append] using OW8.out,C8.out,B8.out,by omega⟩
            case measure=>simp [lenOf];omega
end Go.Proofs.LS