/- Parts of the proof of a law of layer 11 (file): LbS17. The conditions stand in each theorem. -/
import Derived.Test.YtffjknkcogmnbaaGreatDoorProg
import Derived.Test.YtffjknkcogmnbaaGreatDoorSpbc
set_option linter.all false
set_option linter.unusedVariables false
set_option linter.unusedSimpArgs false
namespace Go.Proofs.LS
open Go.RowKit Go.Sort Go.Proofs.LF Go.Proofs.LB
set_option maxHeartbeats 4000000
set_option maxRecDepth 100000
attribute [local go_sem] q1_ q2_ q6_
theorem ret164 {fn:Func} {p u:Tmp} (hr:fn.results = #[.tmp u, .cell p 164]) {tmps:Array Value} {W:World} {b:Nat} {x y z:Value} (h:W.heap[b]? = some (.cells #[x,y] 164 (0,0))) (h2:tmps.getD p undef = .pointer (some ⟨b,0,none⟩)) (h3:tmps.getD u undef = z) :
 (results fn tmps).run Tryz.prog W = .ok (.tuple #[z, .agg #[x,y]]) W:=by
 have e0:=cg_ h (k:=0) rfl
 have e1:=cg_ h (k:=1) rfl
 rw [xb_ hr,h2,h3]
 simp [go_sem,e0,e1]
theorem w8_ (S:List St) (C:List Sp) (xs:List Way) (M D b1 Nm:Nat) (as_ ac:Option Addr) (cs_ cc:Nat) (Bl:Nat→Prop) (w:World) (hs:LSl v3_ Bl w (.slice as_ S.length cs_) S) (hc:LSl vO_ Bl w (.slice ac C.length cc) C) (hB:∀ b,Bl b→b < w.heap.size)
 (hD:w.heap[D]? = some (.cells #[.slice as_ S.length cs_, .slice ac C.length cc, .map (some M)] 221 (0,0))) (hM:v4_ M Nm (fM S S.length) w) (h1:w.heap[b1]? = some (.cells #[.func (.func 119) #[.pointer (some ⟨D,0,none⟩)] #[]] 240 (0,0))) (hO:OkSc S C) (h0:Flow (laid S C)) (hw0:WB0 (laid S C)) (hx:Fit xs) (hS:z6_ (laid S C) xs) :
 Calls Tryz.prog 67 #[.pointer (some ⟨D,0,none⟩), .agg #[.func (.func 162) #[] #[.pointer (some ⟨b1,0,none⟩)]]] w fun e w'=>∃ N B v ws',e = .returned (.tuple #[.pointer (some ⟨N,0,none⟩), .agg #[.bool false, .slice none 0 0]])∧w.heap.size ≤ N∧NetS B N v ws' w'∧Fit ws'∧z6_ (laid S C) ws'∧(∀ ys,z6_ (laid S C) ys→Fit ys→costW ws' ≤ costW ys)∧Below w.heap.size w w':=by
 have hlen:(laid S C).length ≤ 41:=by
  have a1:=vc_ S C C.length
  have a2:=hO.s
  have a3:=hO.c
  have a4:C.length * (S.length + 1) ≤ 35:=Nat.le_trans (Nat.mul_le_mul (show C.length ≤ 5 by omega) (show S.length + 1 ≤ 7 by omega)) (nl_ _)
  rw [laid];omega
 obtain ⟨w3,hw3⟩:∃ w3,(w.alloc (.cells #[.func (.func 162) #[] #[.pointer (some ⟨b1,0,none⟩)]] 169)).alloc (.cells #[.bool false, .slice none 0 0] 164) = w3:=⟨_,rfl⟩
 have hz3:w3.heap.size = w.heap.size + 2:=by rw [← hw3];simp
 have hb3:Below w.heap.size w w3:=by rw [← hw3];exact ((Below.refl _ _).alloc (nl_ _) _).alloc (by simp) _
 have r1:w3.heap[w.heap.size]? = some (.cells #[.func (.func 162) #[] #[.pointer (some ⟨b1,0,none⟩)]] 169 (0,0)):=by rw [← hw3];exact qc_ _ (ha_ _ _)
 have r2:w3.heap[w.heap.size + 1]? = some (.cells #[.bool false, .slice none 0 0] 164 (0,0)):=by rw [← hw3];have:=ha_ (w.alloc (.cells #[.func (.func 162) #[] #[.pointer (some ⟨b1,0,none⟩)]] 169)) (.cells #[.bool false, .slice none 0 0] 164);simpa using this
 have LA:=hid (laid_any S C M D b1 Nm as_ ac cs_ cc Bl w3 (hs.agree (q9_ hb3 hB)) (hc.agree (q9_ hb3 hB)) (fun b hb=>by have:=hB b hb;omega) (q0_ hD hb3) (hM.kept (hb3.block M hM.lt)) (q0_ h1 hb3) hO)
 have HX:=hid hx
 have HSX:=hid hS
 have HW0:=hid hw0
 have HF0:=hid h0
 have B3:=hid hb3
 have R2:=hid r2
 have c0:=cg_ r1 (k:=0) (v := .func (.func 162) #[] #[.pointer (some ⟨b1,0,none⟩)]) rfl
 have HZ3:=hid hz3
 clear hs hc hB hD hM h1 hO h0 hw0 hx hS hb3 hz3 r1 r2
 have q230:∀ (w:World) (a:Option Addr) (n c:Nat),(binOp .eql 230 (.slice a n c) (.slice none 0 0)).run Tryz.prog w = .ok (.bool a.isNone) w:=fun w a n c=>Lib.run_eql_slice_nil w 230 237 a n c 0 0 Tryz.underlying230
 go_enter Tryz.func67,Tryz.ntmps67
 go_upto_region 1 with fail
 try rw [hw3]
 obtain ⟨q,hq⟩:∃ q,w.heap.size = q:=⟨_,rfl⟩
 have HQ:=hid hq
 clear hw3
 have hla:=LA.out
 rw [HZ3.out,hq] at hla
 rw [hq] at c0
 try simp only [hq]
 have LA2:=hid hla
 clear hla LA hq
 go_step3
 go_wp2_with fail
 refine LA2.out.mono ?_
 rintro e w4 ⟨v,rfl,hn4,ho4,hb4⟩
 obtain ⟨L,hL⟩:∃ L,(laid S C).length = L:=⟨_,rfl⟩
 obtain ⟨ls,hls⟩:∃ ls,laid S C = ls:=⟨_,rfl⟩
 rw [hL] at hlen
 have HLS:=hid hls
 rw [hls] at hL ho4 HSX HW0 HF0
 rw [hL] at ho4
 have HL:=hid hL
 obtain ⟨N,hN⟩:∃ N,q + 2 + 1 = N:=⟨_,rfl⟩
 obtain ⟨B,hB⟩:∃ B,q + 2 + 3 = B:=⟨_,rfl⟩
 rw [hB] at ho4
 rw [hN] at hn4 ⊢
 have hqN:q + 1 < N:=by omega
 have hNB:N < B:=by omega
 have F4:=hid (show FlS ls q N B v w ls w4 from ⟨⟨hn4,by rw [hL];exact ho4,hNB⟩,(HQ.out ▸ B3.out:Below q w w3).trans (hb4.mono (by omega)),q0_ (HQ.out ▸ R2.out) (HZ3.out ▸ HQ.out ▸ hb4:Below w3.heap.size w3 w4),HF0.out,rfl⟩)
 obtain ⟨va,vc,hve,hvc,_⟩:=owns_shape ho4
 have n0:=cg_ hn4 (k:=0) (v := .slice va L vc) (by rw [hve];rfl)
 clear hn4 ho4 hb4 hN hB hve hvc hL hls LA2 B3 R2 HZ3 c0 HF0
 go_wp2_with fail
 clear n0
 go_loopw [20] (fun vi wr=>∃ (i:Nat) (ws:List Way),i ≤ L∧vi = .int .i64 i∧Hid (FlS ls q N B v w ws wr)∧Hid (∀ j,j < i→(at_ ws j).lo ≤ (at_ ws j).goes)) (fun vi _=>L - (intOf vi).toNat)
 case atStart=>exact ⟨0,ls,by omega,rfl,F4.out,hid fun j hj=>by omega⟩
 case round=>
  clear F4 w4 w3
  obtain ⟨i,ws,hi,rfl,HFS,HD⟩:=hrel
  by_cases hlt:i < L
  · have hlt':(i:Int) < (L:Int):=by omega
    go_wp2_with fail
    go_loopw [] (fun wk=>∃ (ws:List Way),Hid (FlS ls q N B v w ws wk)∧Hid (∀ j,j < i→(at_ ws j).lo ≤ (at_ ws j).goes)) (fun wk=>((at_ (wsOf B N v ls wk) i).lo - (at_ (wsOf B N v ls wk) i).goes).toNat)
    case atStart=>exact ⟨ws,HFS,HD⟩
    case round=>
     clear HFS HD ws
     obtain ⟨ws,HFS,HD⟩:=hrel
     have hwl:ws.length = L:=by rw [← HL.out];exact HFS.out.s.len.symm
     have hiw:i < ws.length:=by omega
     have hF:=HFS.out.f
     have hS:=HFS.out.s
     have hW:=wb_of HW0.out hS.symm hF
     have HWB:=hid hW
     obtain ⟨x,hx⟩:∃ x,ws[i] = x:=⟨_,rfl⟩
     have hax:at_ ws i = x:=(kt_ hiw).trans hx
     have hxW:=hW x (by rw [← hx];exact List.getElem_mem hiw)
     obtain ⟨g,gc,hve,hgB,hgl,hgc1,hgc2,hat⟩:=HFS.out.n.at hiw
     rw [hwl] at hve
     have HNX:=hid (show ∀ V:World,NetS B N v ws V→(∀ j u,(wC x).toList[j]? = some u→V.cell? ⟨g,i * 6 + j,none⟩ = some u∧V.frozen? ⟨g,i * 6 + j,none⟩ = false)∧V.cell? ⟨N,0,none⟩ = some (.slice (some ⟨g,0,none⟩) L gc) from fun V h=>by
      obtain ⟨g2,gc2,hve2,_,_,_,_,hat2⟩:=h.at hiw
      rw [hx] at hat2
      rw [hwl,hve] at hve2
      obtain ⟨rfl,rfl⟩:g = g2∧gc = gc2:=by simpa using hve2
      refine ⟨hat2,?_⟩
      have:=cg_ h.n (k:=0) (v:=v) rfl
      rwa [hve] at this)
     have SC:=hid (fun (V:World) (h:NetS B N v ws V)=>show V.cell? ⟨N,0,none⟩ = some (.slice (some ⟨g,0,none⟩) L gc)∧V.cell? ⟨g,i * 6 + 5,none⟩ = some (.int .i64 x.goes)∧V.cell? ⟨g,i * 6 + 2,none⟩ = some (.int .i64 x.lo) from ⟨(HNX.out V h).2,((HNX.out V h).1 5 _ rfl).1,((HNX.out V h).1 2 _ rfl).1⟩)
     have HVE:=hid hve
     have WSR:=hid (xt_ HFS.out.n HFS.out.s)
     have hi0:(0:Int) ≤ (i:Int):=by omega
     unfold maxLen at hgc2
     clear hat hve hW
     by_cases hneed:x.goes < x.lo
     · have hst:=fill_step HX.out hF (hS.symm.trans HSX.out) hiw (by rw [hax];exact hneed)
       rw [hax] at hst
       obtain ⟨l,met,p1,hl0,hl12,hlc,mF,mS,mUp,mKeep⟩:=hst
       have hnode:=hF.node i hiw
       rw [hax] at hnode
       have MF:=hid mF
       have MS:=hid mS
       have MUP:=hid mUp
       have MK:=hid mKeep
       have HLC:=hid hlc
       have PP:=hid p1
       have HHF:=hid hF
       have HHS:=hid hS
       have HAX:=hid hax
       clear hF hS hax hx mF mS mUp mKeep hlc p1
       go_upto_region 5 with fail
       obtain ⟨x0,hx0⟩:∃ x0,wr.drew = x0:=⟨_,rfl⟩
       have hbd:Below wr.heap.size wr x0:=by rw [← hx0];exact (Below.refl _ wr).drew
       have FX:=hid (HFS.out.below hbd)
       have hS0:=SC.out x0 FX.out.n
       clear hbd HFS
       refine (wpIn_wide (n:=9)).1 ?_
       refine q8_ (fun V:World=>V.cell? ⟨N,0,none⟩ = some (.slice (some ⟨g,0,none⟩) L gc)∧V.cell? ⟨g,i * 6 + 5,none⟩ = some (.int .i64 x.goes)∧V.cell? ⟨g,i * 6 + 2,none⟩ = some (.int .i64 x.lo)) (by kernel_rfl) ?_
       rw [hx0]
       clear hx0
       refine tkZ 0 23 (.pointer (some ⟨N,0,none⟩)) rfl rfl hS0 ?_
       refine tkZ 1 24 (.pointer (some ⟨N,0,none⟩)) rfl rfl hS0 ?_
       refine tkZ 2 25 (.pointer (some ⟨N,0,none⟩)) rfl rfl hS0 ?_
       refine tkZ 3 26 (.slice (some ⟨g,0,none⟩) L gc) rfl rfl hS0 ?_
       refine tkZ 4 27 (.int .i64 i) rfl rfl hS0 ?_
       refine tkZ 5 28 (.pointer (some ⟨g,i * 6,none⟩)) rfl rfl hS0 ?_
       refine tkZ 6 29 (.pointer (some ⟨g,i * 6 + 5,none⟩)) rfl rfl hS0 ?_
       refine tkZ 7 30 (.int .i64 x.goes) rfl rfl hS0 ?_
       refine tkZ 8 31 (.pointer (some ⟨N,0,none⟩)) rfl rfl hS0 ?_
       refine tkZ 9 32 (.pointer (some ⟨N,0,none⟩)) rfl rfl hS0 ?_
       refine tkZ 10 33 (.pointer (some ⟨N,0,none⟩)) rfl rfl hS0 ?_
       refine tkZ 11 34 (.slice (some ⟨g,0,none⟩) L gc) rfl rfl hS0 ?_
       refine tkZ 12 35 (.int .i64 i) rfl rfl hS0 ?_
       refine tkZ 13 36 (.pointer (some ⟨g,i * 6,none⟩)) rfl rfl hS0 ?_
       refine tkZ 14 37 (.pointer (some ⟨g,i * 6 + 2,none⟩)) rfl rfl hS0 ?_
       refine tkZ 15 38 (.int .i64 x.lo) rfl rfl hS0 ?_
       refine tkZ 16 39 (.bool true) rfl rfl hS0 ?_
       refine q7_ (by kernel_rfl) ?_
       go_simp
       clear hS0
       obtain ⟨w6,hw6⟩:∃ w6,x0.alloc (.cells #[.int .i64 x.f, .int .i64 x.t, .int .i64 x.lo, .int .i64 x.hi, .int .i64 x.cost, .int .i64 x.goes] 229) = w6:=⟨_,rfl⟩
       have hb6:Below x0.heap.size x0 w6:=by rw [← hw6];exact (Below.refl _ _).alloc (nl_ _) _
       have hn6:w6.heap[x0.heap.size]? = some (.cells (wC x) 229 (0,0)):=by rw [← hw6];exact ha_ _ _
       have hz6:w6.heap.size = x0.heap.size + 1:=by rw [← hw6];simp
       obtain ⟨bx,hbx⟩:∃ b,x0.heap.size = b:=⟨_,rfl⟩
       have hvx:∀ g,v.ownBlock = some g→g < bx:=fun g hg=>by rw [← hbx];exact (FX.out.n.own.lt g hg).2
       have hqx:q + 1 < bx:=by rw [← hbx];exact (ge_ FX.out.r).1
       have hNx:N < bx:=by rw [← hbx];exact (ge_ FX.out.n.n).1
       have HVX:=hid hvx
       have F6:=hid (FX.out.below hb6)
       rw [hbx] at hn6 hz6
       have N6:=hid hn6
       have PA:=hid (path_any B N x.t x.f v ws l met w6 F6.out.n HWB.out (by omega) HHF.out (by omega) (by omega) (fun e=>hnode.2.2 e.symm) PP.out)
       have z0:=cg_ hn6 (k:=0) (v := .int .i64 x.f) rfl
       have z1:=cg_ hn6 (k:=1) (v := .int .i64 x.t) rfl
       have e0:=((HNX.out x0 FX.out.n).1 0 _ rfl).1
       rw [Nat.add_zero] at e0
       have e1:=((HNX.out x0 FX.out.n).1 1 _ rfl).1
       have e2:=((HNX.out x0 FX.out.n).1 2 _ rfl).1
       have e3:=((HNX.out x0 FX.out.n).1 3 _ rfl).1
       have e4:=((HNX.out x0 FX.out.n).1 4 _ rfl).1
       have e5:=((HNX.out x0 FX.out.n).1 5 _ rfl).1
       have n0:=(HNX.out x0 FX.out.n).2
       clear hb6 hn6 hvx PP
       go_wp2_with fail
       refine PA.out.mono ?_
       rintro e w7 ⟨vl,rfl,hown,hnil,hml,hb7⟩
       have F7:=hid (F6.out.below hb7)
       have N7:=hid (q0_ N6.out hb7)
       rw [hz6] at hown hb7
       have hz7:=hb7.size
       rw [hz6] at hz7
       obtain ⟨gl,cl,rfl,hgl'⟩:=owns_some hown (by cases l with | nil=>exact absurd rfl hl0 | cons a b=>simp)
       have hms:(mV met).size = 12:=by simp [mV,hml]
       have hst:=run_storeCells_new (P:=Tryz.prog) w7 231 #[.bool false, .bool false, .bool false, .bool false, .bool false, .bool false, .bool false, .bool false, .bool false, .bool false, .bool false, .bool false] (mV met) (by rw [hms];kernel_rfl) (by rw [hms];rfl) (by simp [mV,Value.oneCell'])
       obtain ⟨w8,hw8⟩:∃ w8,w7.alloc (.cells (mV met) 231) = w8:=⟨_,rfl⟩
       have hb8:Below w7.heap.size w7 w8:=by rw [← hw8];exact (Below.refl _ _).alloc (nl_ _) _
       have F8:=hid (F7.out.below hb8)
       have N8:=hid (q0_ N7.out hb8)
       have OWL:=hid (ob_ hown hb8 (nl_ _))
       have hz8:=hb8.size
       clear hnil hown hb7 hb8 PA F6 N6 FX e0 e1 e2 e3 e4 e5 n0 z0 z1 hw6 hbx F7 N7
       obtain ⟨i0,hi0',hy0,hy1,hy2⟩:=info_parts Tryz.info237
       have hsz8:bx < w8.heap.size:=(ge_ N8.out).1
       have hwp:IntKind.i64.wrap (x.lo - x.goes) = x.lo - x.goes:=IntWalk.i64_in _ (by omega)
       go_upto_region 10 with fail
       try rw [hw8]
       clear hst hw8 hms
       obtain ⟨x1,hx1⟩:∃ x,w8.drew = x:=⟨_,rfl⟩
       have hbd:Below w8.heap.size w8 x1:=by rw [← hx1];exact (Below.refl _ w8).drew
       have F9:=hid (F8.out.below hbd)
       have N9:=hid (q0_ N8.out hbd)
       have OW9:=hid (ob_ OWL.out hbd (nl_ _))
       have hz9:=hbd.size
       have SN:=hid (fun (V:World) (h:V.heap[bx]? = some (.cells (wC x) 229 (0,0)))=>show V.cell? ⟨bx,2,none⟩ = some (.int .i64 x.lo)∧V.cell? ⟨bx,5,none⟩ = some (.int .i64 x.goes) from ⟨cg_ h (k:=2) rfl,cg_ h (k:=5) rfl⟩)
       have hS0:=SN.out x1 N9.out
       clear hbd F8 N8 OWL
       refine (wpIn_wide (n:=9)).1 ?_
       refine q8_ (fun V:World=>V.cell? ⟨bx,2,none⟩ = some (.int .i64 x.lo)∧V.cell? ⟨bx,5,none⟩ = some (.int .i64 x.goes)) (by kernel_rfl) ?_
       rw [hx1]
       clear hx1
       refine tkZ 0 62 (.pointer (some ⟨N,0,none⟩)) rfl rfl hS0 ?_
       refine tkZ 1 63 (.slice (some ⟨gl,0,none⟩) l.length cl) rfl rfl hS0 ?_
       refine tkZ 2 64 (.int .i64 i) rfl rfl hS0 ?_
       refine tkZ 3 65 (.agg #[.int .i64 i, .bool true]) rfl rfl hS0 ?_
       refine tkZ 6 68 (.pointer (some ⟨bx,2,none⟩)) rfl rfl hS0 ?_
       refine tkZ 7 69 (.int .i64 x.lo) rfl rfl hS0 ?_
       refine tkZ 8 70 (.pointer (some ⟨bx,5,none⟩)) rfl rfl hS0 ?_
       refine tkZ 9 71 (.int .i64 x.goes) rfl rfl hS0 ?_
       refine tkZ 10 72 (.int .i64 (x.lo - x.goes)) rfl rfl hS0 ?_
       refine aHO 4 rfl fun K hK=>?_
       go_simp
       obtain ⟨x2,hx2⟩:∃ x,x1.alloc (.cells #[.int .i64 i, .bool true] 237) = x:=⟨_,rfl⟩
       have hb2:Below x1.heap.size x1 x2:=by rw [← hx2];exact (Below.refl _ _).alloc (nl_ _) _
       have hn2:x2.heap[x1.heap.size]? = some (.cells #[.int .i64 i, .bool true] 237 (0,0)):=by rw [← hx2];exact ha_ _ _
       obtain ⟨bk,hbk⟩:∃ b,x1.heap.size = b:=⟨_,rfl⟩
       rw [hx2]
       simp only [hbk]
       have F10:=hid (F9.out.below hb2)
       have N10:=hid (q0_ N9.out hb2)
       have OW10:=ob_ OW9.out hb2 (nl_ _)
       have hz10:=hb2.size
       rw [hbk] at hn2
       refine hK _ _ ⟨SN.out x2 N10.out,?_⟩
       clear hK hS0 hx2 hbk hb2
       refine aHO 5 rfl fun K hK=>?_
       obtain ⟨a5,c5,x3,hr,hown5,hg5,hat5⟩:=run_append_ao (P:=Tryz.prog) (w:=x2) 230 230 (bx + 1) 237 i0 _ 2 16 Tryz.underlying230 hi0' hy0 hy1 hy2 rfl (by omega) _ l.length _ OW10 (some ⟨bk,0,none⟩) 1 1 (cgL ⟨i,true⟩) rfl (fun h=>by cases h) (fun ad had=>by cases had;exact fun j u hj=>World.news_of_block (cs:=#[.int .i64 i, .bool true]) (t:=237) (fr:=(0,0)) hn2 j u (by simpa [cgL] using hj)) (by intro u hu;simp [cgL] at hu;rcases hu with rfl | rfl <;> rfl) (by unfold maxLen;omega) (by omega) (by omega)
       refine wa_ rfl rfl rfl hr ?_
       have hog:∀ b,(Value.slice (some ⟨gl,0,none⟩) l.length cl).ownBlock = some b→b = gl:=fun b hb=>by simpa [Value.ownBlock] using hb.symm
       have F11:=hid (F10.out.other (Keep.grown (O:=fun b=>b = gl) hg5 hog) fun b hb=>⟨by omega,by omega,fun e=>by have:=HVX.out b e;omega⟩)
       have N11:=hid ((hg5.block bx (by omega) (fun e=>by have:=hog _ e.symm;omega)).trans N10.out)
       have OW11:=hid hown5
       have hz11:=hg5.size
       refine hK _ _ ⟨SN.out x3 N11.out,?_⟩
       clear hK hr hown5 hg5 hat5 OW10 hn2 F9 F10 N9 N10 OW9
       refine aHO 11 rfl fun K hK=>?_
       have MA:=hid (yH_ B N v ws a5 c5 (l ++ [⟨i,true⟩]) (x.lo - x.goes) (Rg (bx + 1) x3.heap.size) x3 F11.out.n HWB.out (by omega) (by
        have:=SlC.of_owns OW11.out
        rw [show (l ++ [(⟨i,true⟩:Cg)]).length = l.length + 1 by simp,List.flatMap_append,show List.flatMap cgL [(⟨i,true⟩:Cg)] = cgL ⟨i,true⟩ by simp]
        exact this) (fun b hb=>⟨hb.2,fun e=>by have:=HVX.out b e;have:=hb.1;omega⟩) HLC.out (by simp;omega) ⟨by omega,by omega⟩)
       rw [show (l ++ [(⟨i,true⟩:Cg)]).length = l.length + 1 by simp] at MA
       go_simp
       refine ⟨trivial,(callsIn_wide.2 MA.out).mono ?_⟩
       rintro e x4 ⟨⟨rv,rfl⟩,hn4,hk4⟩
       have F12:=hid (F11.out.keep hqN hn4 hk4 MF.out MS.out)
       have N12:=(hk4.block bx (by omega) (fun e=>by have:=HVX.out bx e;omega)).trans N11.out
       refine hK _ _ ⟨SN.out x4 N12,?_⟩
       clear hK hn4 hk4 N12 N11 F11 MA OW11 SN
       refine q7_ (by kernel_rfl) ?_
       go_simp
       go_wp2_with fail
       go_roundw
       case rel=>exact ⟨_,F12,hid fun j hj=>by
        have h1:=MK.out j (by omega) (HD.out j hj)
        have h2:=MS.out.at j
        omega⟩
       case measure=>
        rw [xt_ F12.out.n F12.out.s,WSR.out,HAX.out]
        have h2:=MS.out.at i
        rw [HAX.out] at h2
        have h3:=MUP.out
        omega
     · have HAX:=hid hax
       clear hF hS hx hax
       go_upto_region 5 with fail
       obtain ⟨x0,hx0⟩:∃ x0,wr.drew = x0:=⟨_,rfl⟩
       have hbd:Below wr.heap.size wr x0:=by rw [← hx0];exact (Below.refl _ wr).drew
       have FX:=hid (HFS.out.below hbd)
       have hS0:=SC.out x0 FX.out.n
       clear hbd HFS
       refine (wpIn_wide (n:=9)).1 ?_
       refine q8_ (fun V:World=>V.cell? ⟨N,0,none⟩ = some (.slice (some ⟨g,0,none⟩) L gc)∧V.cell? ⟨g,i * 6 + 5,none⟩ = some (.int .i64 x.goes)∧V.cell? ⟨g,i * 6 + 2,none⟩ = some (.int .i64 x.lo)) (by kernel_rfl) ?_
       rw [hx0]
       clear hx0
       refine tkZ 0 23 (.pointer (some ⟨N,0,none⟩)) rfl rfl hS0 ?_
       refine tkZ 1 24 (.pointer (some ⟨N,0,none⟩)) rfl rfl hS0 ?_
       refine tkZ 2 25 (.pointer (some ⟨N,0,none⟩)) rfl rfl hS0 ?_
       refine tkZ 3 26 (.slice (some ⟨g,0,none⟩) L gc) rfl rfl hS0 ?_
       refine tkZ 4 27 (.int .i64 i) rfl rfl hS0 ?_
       refine tkZ 5 28 (.pointer (some ⟨g,i * 6,none⟩)) rfl rfl hS0 ?_
       refine tkZ 6 29 (.pointer (some ⟨g,i * 6 + 5,none⟩)) rfl rfl hS0 ?_
       refine tkZ 7 30 (.int .i64 x.goes) rfl rfl hS0 ?_
       refine tkZ 8 31 (.pointer (some ⟨N,0,none⟩)) rfl rfl hS0 ?_
       refine tkZ 9 32 (.pointer (some ⟨N,0,none⟩)) rfl rfl hS0 ?_
       refine tkZ 10 33 (.pointer (some ⟨N,0,none⟩)) rfl rfl hS0 ?_
       refine tkZ 11 34 (.slice (some ⟨g,0,none⟩) L gc) rfl rfl hS0 ?_
       refine tkZ 12 35 (.int .i64 i) rfl rfl hS0 ?_
       refine tkZ 13 36 (.pointer (some ⟨g,i * 6,none⟩)) rfl rfl hS0 ?_
       refine tkZ 14 37 (.pointer (some ⟨g,i * 6 + 2,none⟩)) rfl rfl hS0 ?_
       refine tkZ 15 38 (.int .i64 x.lo) rfl rfl hS0 ?_
       refine tkZ 16 39 (.bool false) rfl rfl hS0 ?_
       refine q7_ (by kernel_rfl) ?_
       go_simp
       clear hS0
       go_wp2_with fail
       go_roundw
       case rel=>exact ⟨i + 1,ws,by omega,by go_num,FX.out,hid fun j hj=>by
        by_cases e:j = i
        · rw [e,HAX.out];omega
        · exact HD.out j (by omega)⟩
       case measure=>simp [intOf];omega
  · have hiL:i = L:=by omega
    have hnI:¬ (i:Int) < (L:Int):=by omega
    go_wp2_with fail
    clear hnI
    go_step3
    go_wp2_with fail
    go_loopw [] (fun wk=>∃ (ws:List Way),Hid (FlS ls q N B v w ws wk)∧Hid (∀ j,j < ws.length→(at_ ws j).lo ≤ (at_ ws j).goes)) (fun wk=>(costW (wsOf B N v ls wk)).toNat)
    case atStart=>exact ⟨ws,HFS,hid fun j hj=>HD.out j (by have:=HFS.out.s.len;have:=HL.out;omega)⟩
    case round=>
     clear HFS HD ws
     obtain ⟨ws,HFS,HD⟩:=hrel
     have hwl:ws.length = L:=by rw [← HL.out];exact HFS.out.s.len.symm
     have HFit:=hid (show Fit ws from ⟨HFS.out.f,HD.out⟩)
     have HWB:=hid (wb_of HW0.out HFS.out.s.symm HFS.out.f)
     have hcost:∀ i,i < ws.length→0 ≤ (at_ ws i).cost:=fun i hi=>by
      have h1:=HW0.out i (by rw [HFS.out.s.len];exact hi)
      have h2:=HFS.out.s.at i
      omega
     have WSR:=hid (xt_ HFS.out.n HFS.out.s)
     have hvx:∀ g,v.ownBlock = some g→g < wr.heap.size:=fun g hg=>(HFS.out.n.own.lt g hg).2
     have HVX:=hid hvx
     clear hvx
     by_cases hneg:(cAll ws).last < 0
     · have CH:=hid (vt_ B N v ws none wr HFS.out.n HWB.out (by omega) HFS.out.f (if_pos hneg) (fun h=>absurd hneg h))
       have OPT:=hid (fun ys (h1:z6_ ls ys) (h2:Fit ys)=>wb_ HFit.out hneg (HFS.out.s.symm.trans h1) h2)
       clear hcost hneg
       go_wp2_with fail
       refine CH.out.mono ?_
       rintro e w5 ⟨he,hb5⟩
       obtain rfl:e = .returned (.slice none 0 0):=he
       have F5:=hid (HFS.out.below hb5)
       have f0:=cg_ F5.out.r (k:=0) (v := .bool false) rfl
       have f1:=cg_ F5.out.r (k:=1) (v := .slice none 0 0) rfl
       have g0:=cells_frz F5.out.r (k:=0)
       have g1:=cells_frz F5.out.r (k:=1)
       clear CH hb5 HFS
       go_wp2_with fail
       obtain ⟨w6,hw6⟩:∃ x,(w5.setCell ⟨q + 1,0,none⟩ (.bool false)).setCell ⟨q + 1,1,none⟩ (.slice none 0 0) = x:=⟨_,rfl⟩
       have h6:w6.heap[q + 1]? = some (.cells #[.bool false, .slice none 0 0] 164 (0,0)):=by
        rw [← hw6]
        exact (q4_ (q4_ F5.out.r)).trans (by rfl)
       have hne:∀ b,b ≠ q + 1→w6.heap[b]? = w5.heap[b]?:=fun b hb=>by rw [← hw6];exact (Below.heap_setCell _ _ _ _ hb).trans (Below.heap_setCell _ _ _ _ hb)
       have hbl:Below q w w6:=by rw [← hw6];exact (F5.out.b.setCell (p:=⟨q + 1,0,none⟩) (by simp) _).setCell (p:=⟨q + 1,1,none⟩) (by simp) _
       have hns:NetS B N v ws w6:=⟨(hne _ (by omega)).trans F5.out.n.n,owns_agree F5.out.n.own fun g hg=>hne g (by have:=(F5.out.n.own.lt g hg).1;omega),hNB⟩
       have H6:=hid h6
       rw [hw6]
       have HNS:=hid hns
       have HBL:=hid hbl
       have HSS:=hid F5.out.s
       clear f0 f1 g0 g1 hw6 h6 hne hbl hns F5
       simp only [Exit.noGoto]
       refine bodyPost_ret (ret164 rfl H6.out rfl rfl) rfl ?_
       refine ⟨N,B,v,ws,rfl,by rw [HQ.out];omega,HNS.out,HFit.out,by rw [HLS.out];exact HSS.out,fun ys h1 h2=>OPT.out ys (by rw [← HLS.out];exact h1) h2,by rw [HQ.out];exact HBL.out⟩
     · obtain ⟨l,c1,c2,c3,c4,c5,c6,c7,c8⟩:=cheap_step HFit.out hcost hneg
       have CH:=hid (vt_ B N v ws (some l) wr HFS.out.n HWB.out (by omega) HFS.out.f (by rw [if_neg hneg];exact c1) (fun _=>⟨by simp,fun l' h=>by cases h;exact c3⟩))
       have C4:=hid c4
       have C5:=hid c5
       have C6:=hid c6
       have C7:=hid (show (costW (kP_ ws l 1000000)).toNat < (costW ws).toNat by omega)
       clear hcost hneg c1 c4 c5 c6 c7 c8
       go_wp2_with fail
       refine CH.out.mono ?_
       rintro e w5 ⟨⟨a5,k5,rfl,ho5⟩,hb5⟩
       have F5:=hid (HFS.out.below hb5)
       have MA:=hid (yH_ B N v ws (some ⟨a5,0,none⟩) k5 l 1000000 (Rg wr.heap.size w5.heap.size) w5 F5.out.n HWB.out (by omega) (SlC.of_owns ho5) (fun b hb=>⟨hb.2,fun e=>by have:=HVX.out b e;have:=hb.1;omega⟩) C4.out (by omega) ⟨by omega,by omega⟩)
       clear CH hb5 ho5 HFS C4
       go_wp2_with fail
       refine MA.out.mono ?_
       rintro e w6 ⟨⟨rv,rfl⟩,hn6,hk6⟩
       have F6:=hid (F5.out.keep hqN hn6 hk6 C5.out.toFlow C6.out)
       clear hn6 hk6 MA F5
       go_wp2_with fail
       go_roundw
       case rel=>exact ⟨_,F6,hid C5.out.need⟩
       case measure=>
        rw [xt_ F6.out.n F6.out.s,WSR.out]
        exact C7.out
end Go.Proofs.LS