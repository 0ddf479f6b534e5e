/- Parts of the proof of a law of layer 11 (file): LbS15, LbS16, LbS16p. The conditions stand in each theorem. -/
import Derived.Test.YtffjknkcogmnbaaGreatDoorProg
import Derived.WalkMore
import Derived.Test.YtffjknkcogmnbaaGreatDoorSpam
import Derived.Test.YtffjknkcogmnbaaGreatDoorSpao
import Derived.Test.YtffjknkcogmnbaaGreatDoorSpbb
set_option linter.all false
set_option linter.unusedVariables false
set_option linter.unusedSimpArgs false
namespace Go.Proofs.LS
open Go.RowKit Go.Sort Go.Proofs.LF Go.Proofs.LB
set_option maxHeartbeats 4000000
set_option maxRecDepth 100000
attribute [local go_sem] q1_ q2_ q6_
def iV (l:List Int):Array Value:=(l.map (Value.int .i64)).toArray
theorem iV_set (l:List Int) (b:Nat) (x:Int):(iV l).setIfInBounds b (.int .i64 x) = iV (l.set b x):=by simp [iV,List.map_set]
theorem xY_ {l:List Int} {b:Nat} (h:b < l.length):(iV l)[b]? = some (.int .i64 (l.getD b 0)):=by
 simp [iV,List.getD_eq_getElem?_getD,List.getElem?_eq_getElem h]
structure CR (bf bb bl:Nat) (s:CS × Nat) (W:World):Prop where
 f:W.heap[bf]? = some (.cells (iV s.1.far) 282 (0,0))
 b:W.heap[bb]? = some (.cells (byV s.1.by_) 276 (0,0))
 l:W.heap[bl]? = some (.cells #[.int .i64 s.1.last] 3 (0,0))
 lf:s.1.far.length = 12
 lb:s.1.by_.length = 12
 bd:∀ j, -(s.2:Int) ≤ s.1.far.getD j 0∧s.1.far.getD j 0 ≤ 0
theorem enters161:LF.z5_ 161:=by intro args W;simp [go_sem]
def cSt (s:CS) (a b:Nat) (co:Int) (c:Cg):CS:=if s.far.getD a 0 + co < s.far.getD b 0 then ⟨s.far.set b (s.far.getD a 0 + co),s.by_.set b c,(b:Nat)⟩ else s
theorem bd_set {l:List Int} {k a b:Nat} {co:Int} (hl:l.length = 12) (hb:b < 12) (h:∀ j, -(k:Int) ≤ l.getD j 0∧l.getD j 0 ≤ 0) (hc : -1 ≤ co) (hlt:l.getD a 0 + co < l.getD b 0):∀ j, -((k + 1:Nat):Int) ≤ (l.set b (l.getD a 0 + co)).getD j 0∧(l.set b (l.getD a 0 + co)).getD j 0 ≤ 0:=by
 intro j
 have h1:=h a
 have h2:=h b
 have h3:=h j
 rw [zz_ _ _ _ _ _ (by omega)]
 split <;> omega
theorem wt_ (bf bb bl a b k:Nat) (co ro:Int) (c:Cg) (s:CS) (w:World) (hR:CR bf bb bl (s,k) w) (hne:bf ≠ bb∧bf ≠ bl∧bb ≠ bl) (ha:a < 12) (hb:b < 12) (hab:a ≠ b) (hco : -1 ≤ co∧co ≤ 1) (hk:k ≤ 100000) :
 Calls Tryz.prog 161 #[.agg #[.int .i64 c.way, .bool c.more], .int .i64 a, .int .i64 b, .int .i64 co, .int .i64 ro, .pointer (some ⟨bf,0,none⟩), .pointer (some ⟨bb,0,none⟩), .pointer (some ⟨bl,0,none⟩)] w fun e w'=>(∃ r,e = .returned r)∧CR bf bb bl (cSt s a b co c,k + 1) w'∧Keep (fun q=>q = bf ∨ q = bb ∨ q = bl) w w':=by
 obtain ⟨w1,hw1⟩:∃ w1,w.alloc (.cells #[.int .i64 c.way, .bool c.more] 237) = w1:=⟨_,rfl⟩
 have hb1:Below w.heap.size w w1:=by rw [← hw1];exact (Below.refl _ _).alloc (nl_ _) _
 have hn1:w1.heap[w.heap.size]? = some (.cells #[.int .i64 c.way, .bool c.more] 237 (0,0)):=by rw [← hw1];exact ha_ _ _
 have hbfl:=(ge_ hR.f).1
 have hbbl:=(ge_ hR.b).1
 have hbll:=(ge_ hR.l).1
 have F1:=hid (q0_ hR.f hb1)
 have B1:=hid (q0_ hR.b hb1)
 have L1:=hid (q0_ hR.l hb1)
 have lf:=hR.lf
 have lb:=hR.lb
 have BD:=hid hR.bd
 have CN:=hid hn1
 have K1:=hid (Keep.of_below (O:=fun q=>q = bf ∨ q = bb ∨ q = bl) hb1)
 obtain ⟨fa,hfa⟩:∃ x,s.far.getD a 0 = x:=⟨_,rfl⟩
 obtain ⟨fb,hfb⟩:∃ x,s.far.getD b 0 = x:=⟨_,rfl⟩
 have hfab:=hR.bd a
 simp only [hfa] at hfab
 obtain ⟨bx,hbx⟩:∃ x,w.heap.size = x:=⟨_,rfl⟩
 rw [hbx] at CN hbfl hbbl hbll
 have haI:(a:Int) < 12:=by omega
 have hbI:(b:Int) < 12:=by omega
 have ha0:(0:Int) ≤ (a:Int):=by omega
 have hb0:(0:Int) ≤ (b:Int):=by omega
 have hwr:IntKind.i64.wrap (fa + co) = fa + co:=IntWalk.i64_in _ (by omega)
 have HFA:=hid hfa
 have HFB:=hid hfb
 have HST:=hid (show cSt s a b co c = if fa + co < fb then ⟨s.far.set b (fa + co),s.by_.set b c,(b:Nat)⟩ else s by rw [cSt,hfa,hfb])
 clear hR hb1 hn1 hfa hfb
 go_enter Tryz.func161,Tryz.ntmps161
 go_upto_region 1 with fail
 try rw [hw1]
 try simp only [hbx]
 clear hw1 hbx
 obtain ⟨x0,hx0⟩:∃ x0,w1.drew = x0:=⟨_,rfl⟩
 have hbd:Below w1.heap.size w1 x0:=by rw [← hx0];exact (Below.refl _ w1).drew
 replace F1:=hid (q0_ F1.out hbd)
 replace B1:=hid (q0_ B1.out hbd)
 replace L1:=hid (q0_ L1.out hbd)
 replace CN:=hid (q0_ CN.out hbd)
 replace K1:=hid (K1.out.trans (Keep.of_below hbd))
 have hS0:x0.cell? ⟨bf,a,none⟩ = some (.int .i64 fa)∧x0.cell? ⟨bf,b,none⟩ = some (.int .i64 fb):=⟨by rw [← HFA.out];exact cg_ F1.out (xY_ (by omega)),by rw [← HFB.out];exact cg_ F1.out (xY_ (by omega))⟩
 refine (wpIn_wide (n:=9)).1 ?_
 refine q8_ (fun V:World=>V.cell? ⟨bf,a,none⟩ = some (.int .i64 fa)∧V.cell? ⟨bf,b,none⟩ = some (.int .i64 fb)) (by kernel_rfl) ?_
 rw [hx0]
 clear hx0 hbd
 refine tkZ 0 13 (.int .i64 a) rfl rfl hS0 ?_
 refine tkZ 1 14 (.pointer (some ⟨bf,a,none⟩)) rfl rfl hS0 ?_
 refine tkZ 2 15 (.int .i64 fa) rfl rfl hS0 ?_
 refine tkZ 3 16 (.int .i64 co) rfl rfl hS0 ?_
 refine tkZ 4 17 (.int .i64 (fa + co)) rfl rfl hS0 ?_
 refine tkZ 5 18 (.int .i64 b) rfl rfl hS0 ?_
 refine tkZ 6 19 (.pointer (some ⟨bf,b,none⟩)) rfl rfl hS0 ?_
 refine tkZ 7 20 (.int .i64 fb) rfl rfl hS0 ?_
 refine tkZ 8 21 (.bool (decide (fa + co < fb))) rfl rfl hS0 ?_
 refine q7_ (by kernel_rfl) ?_
 go_simp
 clear hS0
 by_cases hlt:fa + co < fb
 · have HS2:=hid (show cSt s a b co c = ⟨s.far.set b (fa + co),s.by_.set b c,(b:Nat)⟩ by rw [HST.out,if_pos hlt])
   have HB2:=hid (show ∀ j, -((k + 1:Nat):Int) ≤ (s.far.set b (fa + co)).getD j 0∧(s.far.set b (fa + co)).getD j 0 ≤ 0 by
    have:=bd_set (a:=a) lf hb BD.out hco.1 (by rw [HFA.out,HFB.out];exact hlt)
    rwa [HFA.out] at this)
   clear HST BD
   go_wp2_with fail
   obtain ⟨y0,hy0⟩:∃ y0,x0.drew = y0:=⟨_,rfl⟩
   have hbd:Below x0.heap.size x0 y0:=by rw [← hy0];exact (Below.refl _ x0).drew
   replace F1:=hid (q0_ F1.out hbd)
   replace B1:=hid (q0_ B1.out hbd)
   replace L1:=hid (q0_ L1.out hbd)
   replace CN:=hid (q0_ CN.out hbd)
   replace K1:=hid (K1.out.trans (Keep.of_below hbd))
   have SC:=hid (fun (V:World) (h1:V.cell? ⟨bf,a,none⟩ = some (.int .i64 fa)) (h2:V.heap[bx]? = some (.cells #[.int .i64 c.way, .bool c.more] 237 (0,0)))=>show V.cell? ⟨bf,a,none⟩ = some (.int .i64 fa)∧V.cell? ⟨bx,0,none⟩ = some (.int .i64 c.way)∧V.cell? ⟨bx,1,none⟩ = some (.bool c.more) from ⟨h1,cg_ h2 (k:=0) rfl,cg_ h2 (k:=1) rfl⟩)
   have hS0:=SC.out y0 (by rw [← HFA.out];exact cg_ F1.out (xY_ (by omega))) CN.out
   refine (wpIn_wide (n:=9)).1 ?_
   refine q8_ (fun V:World=>V.cell? ⟨bf,a,none⟩ = some (.int .i64 fa)∧V.cell? ⟨bx,0,none⟩ = some (.int .i64 c.way)∧V.cell? ⟨bx,1,none⟩ = some (.bool c.more)) (by kernel_rfl) ?_
   rw [hy0]
   clear hy0 hbd
   refine tkZ 0 22 (.int .i64 b) rfl rfl hS0 ?_
   refine tkZ 1 23 (.int .i64 b) rfl rfl hS0 ?_
   refine tkZ 2 24 (.int .i64 a) rfl rfl hS0 ?_
   refine tkZ 3 25 (.pointer (some ⟨bf,a,none⟩)) rfl rfl hS0 ?_
   refine tkZ 4 26 (.int .i64 fa) rfl rfl hS0 ?_
   refine tkZ 5 27 (.int .i64 co) rfl rfl hS0 ?_
   refine tkZ 6 28 (.int .i64 (fa + co)) rfl rfl hS0 ?_
   refine tkZ 7 29 (.agg #[.int .i64 c.way, .bool c.more]) rfl rfl hS0 ?_
   refine tkZ 8 30 (.int .i64 b) rfl rfl hS0 ?_
   refine tkZ 9 31 (.pointer (some ⟨bf,b,none⟩)) rfl rfl hS0 ?_
   refine aHO 10 rfl fun K hK=>?_
   have z0:=cg_ F1.out (xY_ (b:=b) (by omega))
   have z1:=cells_frz F1.out (k:=b)
   have F2:=hid (show (y0.setCell ⟨bf,b,none⟩ (.int .i64 (fa + co))).heap[bf]? = some (.cells (iV (s.far.set b (fa + co))) 282 (0,0)) by rw [q4_ F1.out,iV_set])
   have B2:=hid (show (y0.setCell ⟨bf,b,none⟩ (.int .i64 (fa + co))).heap[bb]? = _ from (Below.heap_setCell _ _ _ _ (by simp;omega)).trans B1.out)
   have L2:=hid (show (y0.setCell ⟨bf,b,none⟩ (.int .i64 (fa + co))).heap[bl]? = _ from (Below.heap_setCell _ _ _ _ (by simp;omega)).trans L1.out)
   have C2:=hid (show (y0.setCell ⟨bf,b,none⟩ (.int .i64 (fa + co))).heap[bx]? = _ from (Below.heap_setCell _ _ _ _ (by simp;omega)).trans CN.out)
   have K2:=hid (K1.out.trans (Keep.setCell (A:=y0) (p:=⟨bf,b,none⟩) (v := .int .i64 (fa + co)) (.inl rfl)))
   go_simp
   have hfa2:(y0.setCell ⟨bf,b,none⟩ (.int .i64 (fa + co))).cell? ⟨bf,a,none⟩ = some (.int .i64 fa):=by
    have:=cg_ F2.out (xY_ (b:=a) (by simp;omega))
    rw [zz_ _ _ _ _ _ (by omega),if_neg hab,HFA.out] at this
    exact this
   have hS1:=SC.out _ hfa2 C2.out
   refine hK _ _ ⟨hS1,?_⟩
   have HF2:=hid hfa2
   obtain ⟨y1,hy1⟩:∃ x1,y0.setCell ⟨bf,b,none⟩ (.int .i64 (fa + co)) = x1:=⟨_,rfl⟩
   rw [hy1] at F2 B2 L2 C2 K2 hS1 HF2 ⊢
   clear hK z0 z1 hy1 hS0 F1 B1 L1 CN K1 hfa2
   refine tkZ 11 32 (.pointer (some ⟨bb,b * 2,none⟩)) rfl rfl hS1 ?_
   refine aHO 12 rfl fun K hK=>?_
   have z0:=cg_ B2.out (zE_ (b:=b) (by omega)).1
   have z1:=cells_frz B2.out (k:=b * 2)
   have z2:=cg_ B2.out (zE_ (b:=b) (by omega)).2
   have z3:=cells_frz B2.out (k:=b * 2 + 1)
   have hot:∀ q,q ≠ bb→((y1.setCell ⟨bb,b * 2,none⟩ (.int .i64 c.way)).setCell ⟨bb,b * 2 + 1,none⟩ (.bool c.more)).heap[q]? = y1.heap[q]?:=fun q hq=>(Below.heap_setCell _ _ _ _ hq).trans (Below.heap_setCell _ _ _ _ hq)
   have F3:=hid ((hot bf hne.1).trans F2.out)
   have B3:=hid (show ((y1.setCell ⟨bb,b * 2,none⟩ (.int .i64 c.way)).setCell ⟨bb,b * 2 + 1,none⟩ (.bool c.more)).heap[bb]? = some (.cells (byV (s.by_.set b c)) 276 (0,0)) by rw [q4_ (q4_ B2.out),byV_set])
   have L3:=hid ((hot bl (Ne.symm hne.2.2)).trans L2.out)
   have C3:=hid ((hot bx (by omega)).trans C2.out)
   have HF3:=hid ((World.cell?_of_block (a:=⟨bf,a,none⟩) (hot bf hne.1)).trans HF2.out)
   have K3:=hid ((K2.out.trans (Keep.setCell (A:=y1) (p:=⟨bb,b * 2,none⟩) (v := .int .i64 c.way) (.inr (.inl rfl)))).trans (Keep.setCell (p:=⟨bb,b * 2 + 1,none⟩) (v := .bool c.more) (.inr (.inl rfl))))
   go_simp
   have hS2:=SC.out _ HF3.out C3.out
   refine hK _ _ ⟨hS2,?_⟩
   obtain ⟨y2,hy2⟩:∃ x1,(y1.setCell ⟨bb,b * 2,none⟩ (.int .i64 c.way)).setCell ⟨bb,b * 2 + 1,none⟩ (.bool c.more) = x1:=⟨_,rfl⟩
   rw [hy2] at F3 B3 L3 C3 K3 hS2 HF3 ⊢
   clear hK z0 z1 z2 z3 hy2 hS1 F2 B2 L2 C2 K2 hot HF2
   refine aHO 13 rfl fun K hK=>?_
   have z0:=cg_ L3.out (k:=0) (v := .int .i64 s.last) rfl
   have z1:=cells_frz L3.out (k:=0)
   have hot:∀ q,q ≠ bl→(y2.setCell ⟨bl,0,none⟩ (.int .i64 b)).heap[q]? = y2.heap[q]?:=fun q hq=>Below.heap_setCell _ _ _ _ hq
   have F4:=hid ((hot bf hne.2.1).trans F3.out)
   have B4:=hid ((hot bb hne.2.2).trans B3.out)
   have L4:=hid (show (y2.setCell ⟨bl,0,none⟩ (.int .i64 b)).heap[bl]? = some (.cells #[.int .i64 b] 3 (0,0)) by rw [q4_ L3.out];rfl)
   have C4:=hid ((hot bx (by omega)).trans C3.out)
   have HF4:=hid ((World.cell?_of_block (a:=⟨bf,a,none⟩) (hot bf hne.2.1)).trans HF3.out)
   have K4:=hid (K3.out.trans (Keep.setCell (A:=y2) (p:=⟨bl,0,none⟩) (v := .int .i64 b) (.inr (.inr rfl))))
   go_simp
   have hS3:=SC.out _ HF4.out C4.out
   refine hK _ _ ⟨hS3,?_⟩
   clear hK z0 z1 hS2 hot
   refine q7_ (by kernel_rfl) ?_
   go_simp
   go_wp2_with fail
   go_end0
   rw [HS2.out]
   exact ⟨⟨_,rfl⟩,⟨F4.out,B4.out,L4.out,by simpa using lf,by simpa using lb,HB2.out⟩,K4.out⟩
 · have HS2:=hid (show cSt s a b co c = s by rw [HST.out,if_neg hlt])
   clear HST
   go_wp2_with fail
   go_end0
   rw [HS2.out]
   exact ⟨⟨_,rfl⟩,⟨F1.out,B1.out,L1.out,lf,lb,fun j=>by have:=BD.out j;simp only at this ⊢;omega⟩,K1.out⟩
theorem owns_some {w:World} {base e k n:Nat} {v:Value} {xs:List Value} (h:w.ownsRow base e k v n xs) (hn:0 < n):∃ g c,v = .slice (some ⟨g,0,none⟩) n c∧base ≤ g:=by
 obtain ⟨_,⟨rfl,h0⟩ | ⟨g,cap,cur,rfl,hb,_⟩⟩:=h
 · omega
 · exact ⟨g,cap,rfl,hb⟩
def ChR (r:Option (List Cg)) (q:Nat) (e:Ending) (w':World):Prop:=match r with
 | none=>e = .returned (.slice none 0 0)
 | some l=>∃ a c,e = .returned (.slice (some ⟨a,0,none⟩) l.length c)∧w'.ownsRow q 237 2 (.slice (some ⟨a,0,none⟩) l.length c) l.length (l.flatMap cgL)
theorem chs_len:∀ k,(chs k).length = 2 * k
 | 0=>rfl
 | k + 1=>by rw [chs,List.length_append,chs_len k];simp;omega
theorem ya_ (ws:List Way) (k:Nat):(qM_ ws k).length ≤ 2 * k:=by
 rw [qM_,← chs_len];exact List.length_filter_le _ _
theorem vt_ (B N:Nat) (v:Value) (ws:List Way) (r:Option (List Cg)) (w:World) (hN:NetS B N v ws w) (hW:WB ws) (hlen:ws.length ≤ 100) (hF:Flow ws) (hr:(if (cAll ws).last < 0 then none else cycle ws (cAll ws)) = r) (hr2:¬ (cAll ws).last < 0→r ≠ none∧∀ l,r = some l→l.length ≤ 13) :
 Calls Tryz.prog 117 #[.pointer (some ⟨N,0,none⟩)] w fun e w'=>ChR r w.heap.size e w'∧Below w.heap.size w w':=by
 have NK:=hid hN
 have HW:=hid hW
 have HF:=hid hF
 have HR:=hid hr
 have HR2:=hid hr2
 have hNl:=(ge_ hN.n).1
 have OWV:=hid (fun g (h:v.ownBlock = some g)=>show B ≤ g∧g < w.heap.size from hN.own.lt g h)
 have NLT:=hid hN.lt
 obtain ⟨w3,hw3⟩:∃ w3,((w.alloc (.cells #[.int .i64 0, .int .i64 0, .int .i64 0, .int .i64 0, .int .i64 0, .int .i64 0, .int .i64 0, .int .i64 0, .int .i64 0, .int .i64 0, .int .i64 0, .int .i64 0] 282)).alloc (.cells #[.int .i64 0, .bool false, .int .i64 0, .bool false, .int .i64 0, .bool false, .int .i64 0, .bool false, .int .i64 0, .bool false, .int .i64 0, .bool false, .int .i64 0, .bool false, .int .i64 0, .bool false, .int .i64 0, .bool false, .int .i64 0, .bool false, .int .i64 0, .bool false, .int .i64 0, .bool false] 276)).alloc (.cells #[.int .i64 (-1)] 3) = w3:=⟨_,rfl⟩
 have hz3:w3.heap.size = w.heap.size + 3:=by rw [← hw3];simp
 have hb3:Below w.heap.size w w3:=by rw [← hw3];exact (((Below.refl _ _).alloc (nl_ _) _).alloc (by simp) _).alloc (by simp;omega) _
 have r1:w3.heap[w.heap.size]? = some (.cells (iV c0.far) 282 (0,0)):=by rw [← hw3];exact qc_ _ (qc_ _ (ha_ _ _))
 have r2:w3.heap[w.heap.size + 1]? = some (.cells (byV c0.by_) 276 (0,0)):=by rw [← hw3];have:=qc_ (.cells #[.int .i64 (-1)] 3) (ha_ (w.alloc (.cells #[.int .i64 0, .int .i64 0, .int .i64 0, .int .i64 0, .int .i64 0, .int .i64 0, .int .i64 0, .int .i64 0, .int .i64 0, .int .i64 0, .int .i64 0, .int .i64 0] 282)) (.cells #[.int .i64 0, .bool false, .int .i64 0, .bool false, .int .i64 0, .bool false, .int .i64 0, .bool false, .int .i64 0, .bool false, .int .i64 0, .bool false, .int .i64 0, .bool false, .int .i64 0, .bool false, .int .i64 0, .bool false, .int .i64 0, .bool false, .int .i64 0, .bool false, .int .i64 0, .bool false] 276));rw [show byV c0.by_ = #[.int .i64 0, .bool false, .int .i64 0, .bool false, .int .i64 0, .bool false, .int .i64 0, .bool false, .int .i64 0, .bool false, .int .i64 0, .bool false, .int .i64 0, .bool false, .int .i64 0, .bool false, .int .i64 0, .bool false, .int .i64 0, .bool false, .int .i64 0, .bool false, .int .i64 0, .bool false] from rfl];simpa using this
 have r3:w3.heap[w.heap.size + 2]? = some (.cells #[.int .i64 (-1)] 3 (0,0)):=by
  rw [← hw3];have:=ha_ ((w.alloc (.cells #[.int .i64 0, .int .i64 0, .int .i64 0, .int .i64 0, .int .i64 0, .int .i64 0, .int .i64 0, .int .i64 0, .int .i64 0, .int .i64 0, .int .i64 0, .int .i64 0] 282)).alloc (.cells #[.int .i64 0, .bool false, .int .i64 0, .bool false, .int .i64 0, .bool false, .int .i64 0, .bool false, .int .i64 0, .bool false, .int .i64 0, .bool false, .int .i64 0, .bool false, .int .i64 0, .bool false, .int .i64 0, .bool false, .int .i64 0, .bool false, .int .i64 0, .bool false, .int .i64 0, .bool false] 276)) (.cells #[.int .i64 (-1)] 3)
  simpa using this
 obtain ⟨q,hq⟩:∃ q,w.heap.size = q:=⟨_,rfl⟩
 rw [hq] at r1 r2 r3 hz3 hNl
 have HQ:=hid hq
 have P3:=hid (show CR q (q + 1) (q + 1 + 1) (c0,0) w3 from ⟨r1,r2,r3,by simp [c0],by simp [c0],fun j=>by
  have:c0.far.getD j 0 = 0:=by simp only [c0,List.getD_eq_getElem?_getD,List.getElem?_replicate];split <;> rfl
  rw [this];simp⟩)
 have B3:=hid (show Below q w w3 by rw [← hq];exact hb3)
 have HZ3:=hid hz3
 clear hN hW hF hr hr2 hb3 r1 r2 r3 hq hz3
 go_enter Tryz.func117,Tryz.ntmps117
 go_upto_block 0 with fail
 try rw [hw3]
 simp only [HQ.out]
 clear hw3
 go_wp2_with fail
 go_loopw [9] (fun vi wr=>∃ (j k:Nat),j ≤ 13∧vi = .int .i64 j∧Hid (CR q (q + 1) (q + 1 + 1) (iter (vq_ ws) j c0,k) wr)∧k ≤ 200 * j∧Hid (Below q w wr)∧q + 3 ≤ wr.heap.size) (fun vi _=>13 - (intOf vi).toNat)
 case atStart=>exact ⟨0,0,by omega,rfl,P3.out,by omega,B3.out,by have:=HZ3.out;omega⟩
 case round=>
  obtain ⟨j,k,hj,rfl,HC,hk,HB,hsz⟩:=hrel
  have l0:=cg_ HC.out.l (k:=0) rfl
  have f0:=cells_frz HC.out.l (k:=0)
  by_cases hlt:j < 13
  · have hlt':(j:Int) < 13:=by omega
    obtain ⟨s,hs⟩:∃ s,iter (vq_ ws) j c0 = s:=⟨_,rfl⟩
    have hS:iter (vq_ ws) (j + 1) c0 = (qM_ ws ws.length).foldl (wu_ ws) { s with last := -1 }:=by rw [qx_,hs];rfl
    have HSS:=hid hS
    rw [hs] at HC
    obtain ⟨w4,hw4⟩:∃ w4,wr.setCell ⟨q + 1 + 1,0,none⟩ (.int .i64 (-1)) = w4:=⟨_,rfl⟩
    have C4:=hid (show CR q (q + 1) (q + 1 + 1) ({ s with last := -1 },k) w4 from by
     rw [← hw4]
     exact ⟨(Below.heap_setCell _ _ _ _ (by simp;omega)).trans HC.out.f,(Below.heap_setCell _ _ _ _ (by simp)).trans HC.out.b,by rw [q4_ HC.out.l];rfl,HC.out.lf,HC.out.lb,HC.out.bd⟩)
    have B4:=hid (show Below q w w4 by rw [← hw4];exact HB.out.setCell (p:=⟨q + 1 + 1,0,none⟩) (by simp;omega) _)
    have hz4:q + 3 ≤ w4.heap.size:=by rw [← hw4];simpa [World.setCell] using hsz
    have NS4:=hid (show NetS B N v ws w4 from NK.out.below (HQ.out ▸ B4.out:Below w.heap.size w w4))
    have CH:=hid (jx_ 161 enters161 #[.pointer (some ⟨q,0,none⟩), .pointer (some ⟨(q + 1),0,none⟩), .pointer (some ⟨(q + 1 + 1),0,none⟩)] B N v ws (fun pre W=>CR q (q + 1) (q + 1 + 1) (pre.foldl (wu_ ws) { s with last := -1 },k + pre.length) W) (fun x=>x = q ∨ x = q + 1 ∨ x = q + 1 + 1) w4 NS4.out HW.out hlen (fun x hx=>by
     refine ⟨by omega,by have:=NLT.out;have:=HQ.out;omega,fun h=>?_⟩
     have:=OWV.out x h
     have:=HQ.out
     omega) C4.out (fun pre V V' h hk=>⟨(hk _ (.inl rfl)).trans h.f,(hk _ (.inr (.inl rfl))).trans h.b,(hk _ (.inr (.inr rfl))).trans h.l,h.lf,h.lb,h.bd⟩) (fun pre c V hpre h hz=>by
     have hcm:c ∈ qM_ ws ws.length:=hpre.subset (by simp)
     have he:=zr_ HW.out (qu_.1 hcm).1
     have hee:=ends_lt HF.out hcm
     have hlp:pre.length ≤ 200:=by
      have a1:=hpre.length_le
      have a2:=ya_ ws ws.length
      simp at a1;omega
     have:=wt_ q (q + 1) (q + 1 + 1) (eF ws c) (eT ws c) (k + pre.length) (eC ws c) (eR ws c) c _ V h (by omega) he.1 he.2.1 hee.2.2 he.2.2.1 (by omega)
     rw [List.foldl_append,List.length_append]
     exact this))
    clear hs hS HC HB hsz C4 NS4
    go_wp2_with fail
    try rw [hw4]
    clear hw4 l0 f0
    refine CH.out.mono ?_
    rintro e w5 ⟨⟨rv,rfl⟩,hC5,hK5⟩
    have C5:=hid (show CR q (q + 1) (q + 1 + 1) (iter (vq_ ws) (j + 1) c0,k + (qM_ ws ws.length).length) w5 by rw [HSS.out];exact hC5)
    have B5:=hid (B4.out.trans (hK5.below (by omega) (fun b hb h=>by omega)))
    have hz5:=hK5.size
    have hll:=ya_ ws ws.length
    clear hC5 hK5 CH HSS
    go_wp2_with fail
    go_roundw
    case rel=>exact ⟨j + 1,_,by omega,by go_num,C5.out,by omega,B5.out,by omega⟩
    case measure=>simp [intOf];omega
  · obtain rfl:j = 13:=by omega
    obtain ⟨s,hs⟩:∃ s,cAll ws = s:=⟨_,rfl⟩
    have HSA:=hid hs
    have HC2:=hid (show CR q (q + 1) (q + 1 + 1) (s,k) wr by rw [← hs];exact HC.out)
    clear HC l0 f0 hs
    have l0:=cg_ HC2.out.l (k:=0) (v := .int .i64 s.last) rfl
    by_cases hneg:s.last < 0
    · have hrn:r = none:=by rw [← HR.out,HSA.out,if_pos hneg]
      subst hrn
      go_wp2_with fail
      go_ret
      exact ⟨rfl,by rw [HQ.out];exact HB.out⟩
    · have hcy:=cyc_live HF.out (by rw [HSA.out];omega)
      rw [HSA.out] at hcy
      obtain ⟨hr1,hr3⟩:=HR2.out (by rw [HSA.out];omega)
      obtain ⟨l,rfl⟩:∃ l,r = some l:=by cases r with
       | none=>exact absurd rfl hr1
       | some l=>exact ⟨l,rfl⟩
      have hll:=hr3 l rfl
      have hrd:cycle ws s = some l:=by rw [← HR.out,HSA.out,if_neg hneg]
      obtain ⟨ln,hln⟩:∃ ln:Nat,s.last = (ln:Int):=⟨s.last.toNat,by omega⟩
      have hlt0:s.last.toNat = ln:=by omega
      rw [hlt0] at hcy
      obtain ⟨f,hf⟩:∃ f:Nat→Nat,(fun at_=>eF ws (cby s at_)) = f:=⟨_,rfl⟩
      have hfx:∀ x,eF ws (cby s x) = f x:=fun x=>by rw [← hf]
      rw [hf] at hcy
      obtain ⟨a,ha⟩:∃ a,iter f 12 ln = a:=⟨_,rfl⟩
      have hrd2:LS.round ws s.by_ a 13 a = some l:=by
       have:LS.round ws s.by_ (iter (fun at_=>eF ws (s.by_.getD at_ Cg.z)) 12 s.last.toNat) 13 (iter (fun at_=>eF ws (s.by_.getD at_ Cg.z)) 12 s.last.toNat) = some l:=hrd
       rw [show (fun at_=>eF ws (s.by_.getD at_ Cg.z)) = f from hf,hlt0,ha] at this
       exact this
      have HFX:=hid hfx
      have HCY:=hid hcy.2
      have HRD:=hid hrd2
      have HA:=hid ha
      have h12:∀ n,iter f n ln < 12:=by
       intro n
       cases n with
       | zero=>exact hcy.1
       | succ n=>
         rw [qx_,← HFX.out]
         exact (ends_lt HF.out (HCY.out n)).1
      have H12:=hid h12
      have HLL:=hid hll
      rw [hln] at l0 hneg
      have HLN:=hid hln
      obtain ⟨i0,hi0,hy0,hy1,hy2⟩:=info_parts Tryz.info237
      clear hr1 hr3 hll hrd hlt0 hf hfx hcy hrd2 ha h12 hln HSA HR HR2
      go_wp2_with fail
      go_loopw [6,18] (fun va vi wk=>∃ (n:Nat),n ≤ 12∧vi = .int .i64 n∧va = .int .i64 (iter f n ln:Nat)∧Hid (CR q (q + 1) (q + 1 + 1) (s,k) wk)∧Hid (Below q w wk)∧q + 3 ≤ wk.heap.size) (fun _ vi _=>12 - (intOf vi).toNat)
      case atStart=>exact ⟨0,by omega,rfl,rfl,HC2.out,HB.out,hsz⟩
      case round=>
       obtain ⟨n,hn,rfl,rfl,HC3,HB3,hsz3⟩:=hrel
       have hx12:=H12.out n
       have hxl:=HCY.out n
       have hxs:iter f (n + 1) ln = eF ws (cby s (iter f n ln)):=by rw [qx_,HFX.out]
       have HXS:=hid hxs
       by_cases hlt12:n < 12
       · have hlt':(n:Int) < 12:=by omega
         obtain ⟨x,hx⟩:∃ x,iter f n ln = x:=⟨_,rfl⟩
         rw [hx] at hx12 hxl HXS ⊢
         obtain ⟨c,hc⟩:∃ c,cby s x = c:=⟨_,rfl⟩
         rw [hc] at hxl HXS
         have hxI:(x:Int) < 12:=by omega
         have hx0:(0:Int) ≤ (x:Int):=by omega
         have hbg:=zE_ (l:=s.by_) (b:=x) (by have:=HC3.out.lb;simp only at this;omega)
         rw [show s.by_.getD x Cg.z = c from hc] at hbg
         have g0:=cg_ HC3.out.b hbg.1
         have g1:=cg_ HC3.out.b hbg.2
         have EN:=hid (zW_ B N c v ws wr (NK.out.below (HQ.out ▸ HB3.out:Below w.heap.size w wr)) (qu_.1 hxl).1 HW.out)
         clear hbg hx hc hxs
         go_wp2_with fail
         refine EN.out.mono ?_
         rintro e w8 ⟨rfl,hb8⟩
         have C8:=hid (show CR q (q + 1) (q + 1 + 1) (s,k) w8 from ⟨q0_ HC3.out.f hb8,q0_ HC3.out.b hb8,q0_ HC3.out.l hb8,HC3.out.lf,HC3.out.lb,HC3.out.bd⟩)
         have B8:=hid (HB3.out.trans (hb8.mono (by omega)))
         have hz8:=hb8.size
         clear hb8 g0 g1 EN
         rw [← HXS.out]
         go_wp2_with fail
         go_roundw
         case rel=>exact ⟨n + 1,by omega,by go_num,rfl,C8.out,B8.out,by omega⟩
         case measure=>simp [intOf];omega
       · have hn12:n = 12:=by omega
         have hA2:iter f n ln = a:=by rw [hn12];exact HA.out
         rw [hA2]
         rw [hA2] at hx12 hxl
         have hnI:¬ (n:Int) < 12:=by omega
         clear hxs HXS hA2 hn12 hlt12
         go_wp2_with fail
         clear hnI
         go_loopw [6,7] (fun va vo wk=>∃ (kk n:Nat) (l1 l2:List Cg),l = l1 ++ l2∧Hid (LS.round ws s.by_ a kk (iter f n ln) = some l2)∧va = .int .i64 (iter f n ln:Nat)∧wk.ownsRow (q + 3) 237 2 vo l1.length (l1.flatMap cgL)∧Hid (CR q (q + 1) (q + 1 + 1) (s,k) wk)∧Hid (Below q w wk)∧q + 3 ≤ wk.heap.size) (fun _ vo _=>14 - lenOf vo)
         case atStart=>exact ⟨13,12,[],l,rfl,by rw [HA.out];exact HRD.out,by rw [HA.out],World.ownsRow_nil _ _ _ _,HC3.out,HB3.out,hsz3⟩
         case round=>
          obtain ⟨kk,n,l1,l2,hl,hrk,rfl,hown,HC4,HB4,hsz4⟩:=hrel
          obtain ⟨sa,sc,rfl,hsc1,hsc2⟩:=owns_shape hown
          have hy12:=H12.out n
          have hyl:=HCY.out n
          have hys:iter f (n + 1) ln = eF ws (cby s (iter f n ln)):=by rw [qx_,HFX.out]
          obtain ⟨x,hx⟩:∃ x,iter f n ln = x:=⟨_,rfl⟩
          have hrk:=hrk.out
          rw [hx] at hy12 hyl hys hrk ⊢
          obtain ⟨c,hc⟩:∃ c,cby s x = c:=⟨_,rfl⟩
          rw [hc] at hyl hys
          have HYS:=hid hys
          have HCC:=hid hc
          have hxI:(x:Int) < 12:=by omega
          have hx0:(0:Int) ≤ (x:Int):=by omega
          have hbg:=zE_ (l:=s.by_) (b:=x) (by have:=HC4.out.lb;simp only at this;omega)
          rw [show s.by_.getD x Cg.z = c from hc] at hbg
          have g0:=cg_ HC4.out.b hbg.1
          have g1:=cg_ HC4.out.b hbg.2
          have hl2:∃ l3,l2 = c :: l3∧((eF ws c = a∧l3 = []) ∨ (eF ws c ≠ a∧∃ k',LS.round ws s.by_ a k' (eF ws c) = some l3)):=by
           cases kk with
           | zero=>rw [LS.round] at hrk;cases hrk
           | succ kk=>
             rw [LS.round,show s.by_.getD x Cg.z = c from hc] at hrk
             by_cases e:eF ws c = a
             · rw [if_pos e] at hrk
               cases hrk
               exact ⟨[],rfl, .inl ⟨e,rfl⟩⟩
             · rw [if_neg e] at hrk
               obtain ⟨l3,h1,h2⟩:=Option.map_eq_some_iff.1 hrk
               exact ⟨l3,h2.symm, .inr ⟨e,kk,h1⟩⟩
          obtain ⟨l3,rfl,hcase⟩:=hl2
          have hll1:l1.length + 1 ≤ 13:=by
           have:=HLL.out
           rw [hl] at this;simp at this;omega
          have HL:=hid hl
          have HCS:=hid hcase
          obtain ⟨w6,hw6⟩:∃ w6,wr.alloc (.cells #[.int .i64 c.way, .bool c.more] 237) = w6:=⟨_,rfl⟩
          have hb6:Below wr.heap.size wr w6:=by rw [← hw6];exact (Below.refl _ _).alloc (nl_ _) _
          have hn6:w6.heap[wr.heap.size]? = some (.cells #[.int .i64 c.way, .bool c.more] 237 (0,0)):=by rw [← hw6];exact ha_ _ _
          have how6:=ob_ hown hb6 (nl_ _)
          have hnews:∀ ad,(some ⟨wr.heap.size,0,none⟩:Option Addr) = some ad→∀ (j:Nat) (u:Value),(cgL c)[j]? = some u→w6.cell? (ad.add j) = some u:=fun ad had=>by cases had;exact fun j u hj=>World.news_of_block (cs:=#[.int .i64 c.way, .bool c.more]) (t:=237) (fr:=(0,0)) hn6 j u (by simpa [cgL] using hj)
          have hone:∀ u ∈ cgL c,u.oneCell' = true:=by intro u hu;simp [cgL] at hu;rcases hu with rfl | rfl <;> rfl
          have hz6:=hb6.size
          have HB6:=hid hb6
          have hcw:=(qu_.1 hyl).1
          clear hl hcase hbg hn6 hx hc hys hrk hb6
          go_upto_region 19 with (at_builtin;go_loud (refine q5_ _ rfl _ _ _ rfl (q + 3) 237 i0 _ 2 16 Tryz.underlying230 hi0 hy0 hy1 hy2 rfl (by omega) _ l1.length (l1.flatMap cgL) rfl how6 (some ⟨wr.heap.size,0,none⟩) 1 1 (cgL c) rfl rfl (fun h=>by cases h) hnews hone (by unfold maxLen;omega) (by omega) (by omega) ?_);intro a7 c7 w7 hown7 hgrow7 hat7)
          have hz7:=hgrow7.size
          have hrow:∀ g,g < q + 3→some g ≠ (Value.slice sa l1.length sc).ownBlock:=fun g hg e=>by have:=(how6.lt _ e.symm).1;omega
          have C7:=hid (show CR q (q + 1) (q + 1 + 1) (s,k) w7 from ⟨(hgrow7.block _ (by omega) (hrow _ (by omega))).trans (q0_ HC4.out.f HB6.out),(hgrow7.block _ (by omega) (hrow _ (by omega))).trans (q0_ HC4.out.b HB6.out),(hgrow7.block _ (by omega) (hrow _ (by omega))).trans (q0_ HC4.out.l HB6.out),HC4.out.lf,HC4.out.lb,HC4.out.bd⟩)
          have B7:=hid (show Below q w w7 from (HB4.out.trans (HB6.out.mono (by omega))).grown hgrow7 (by omega) (fun b hb=>by have:=(how6.lt b hb).1;omega))
          have OW7:=hid hown7
          have EN:=hid (zW_ B N c v ws w7 (NK.out.below (HQ.out ▸ B7.out:Below w.heap.size w w7)) hcw HW.out)
          have hbg:=zE_ (l:=s.by_) (b:=x) (by have:=HC4.out.lb;simp only at this;omega)
          rw [show s.by_.getD x Cg.z = c from HCC.out] at hbg
          have g0':=cg_ C7.out.b hbg.1
          have g1':=cg_ C7.out.b hbg.2
          clear hown7 hgrow7 hat7 how6 hnews g0 g1 HB6 HC4 HB4 hown hbg
          go_wp2_with fail
          refine EN.out.mono ?_
          rintro e w8 ⟨rfl,hb8⟩
          have C8:=hid (show CR q (q + 1) (q + 1 + 1) (s,k) w8 from ⟨q0_ C7.out.f hb8,q0_ C7.out.b hb8,q0_ C7.out.l hb8,C7.out.lf,C7.out.lb,C7.out.bd⟩)
          have B8:=hid (B7.out.trans (hb8.mono (by omega)))
          have OW8:=hid (ob_ OW7.out hb8 (nl_ _))
          have hz8:=hb8.size
          clear hb8 g0' g1' EN C7 B7 OW7
          obtain ⟨y,hy⟩:∃ y,eF ws c = y:=⟨_,rfl⟩
          rw [hy]
          by_cases hya:y = a
          · have hyI:(y:Int) = (a:Int):=by omega
            have hlf:l = l1 ++ [c]:=by
             rcases HCS.out with ⟨_,h2⟩ | ⟨h1,_⟩
             · rw [HL.out,h2]
             · exact absurd (hy.trans hya) h1
            have HLF:=hid hlf
            subst hya
            clear hy hyI HCS
            go_wp2_with fail
            go_ret
            obtain ⟨g7,c7',he7,_⟩:=owns_some OW8.out (by omega)
            cases he7
            refine ⟨⟨g7,c7,by rw [HLF.out];simp,?_⟩,by rw [HQ.out];exact B8.out⟩
            rw [HLF.out,HQ.out]
            have:=qp_ OW8.out (base':=q) (fun g hg=>by have:=(OW8.out.lt _ hg).1;omega)
            simpa [List.length_append] using this
          · have hyI:¬ (y:Int) = (a:Int):=by omega
            obtain ⟨k',hk'⟩:∃ k',LS.round ws s.by_ a k' y = some l3:=by
             rcases HCS.out with ⟨h1,_⟩ | ⟨_,k',h2⟩
             · exact absurd (hy.symm.trans h1) hya
             · exact ⟨k',hy ▸ h2⟩
            have HK':=hid hk'
            have HYN:=hid (show y = iter f (n + 1) ln from hy.symm.trans HYS.out.symm)
            clear hy hk' HCS
            go_wp2_with fail
            go_roundw
            case rel=>exact ⟨k',n + 1,l1 ++ [c],l3,by rw [HL.out];simp,by rw [← HYN.out];exact HK'.out,by rw [← HYN.out],by simpa [List.length_append] using OW8.out,C8.out,B8.out,by omega⟩
            case measure=>simp [lenOf];omega
def WB0 (ws:List Way):Prop:=∀ i,i < ws.length→(at_ ws i).lo ≤ 1000000∧(at_ ws i).hi ≤ 1000000∧0 ≤ (at_ ws i).cost∧(at_ ws i).cost ≤ 1
theorem kt_ {ws:List Way} {i:Nat} (hi:i < ws.length):at_ ws i = ws[i]:=by rw [at_,List.getD_eq_getElem?_getD,List.getElem?_eq_getElem hi];rfl
theorem wb_of {ws xs:List Way} (h0:WB0 xs) (hS:z6_ ws xs) (hF:Flow ws):WB ws:=by
 intro x hx
 obtain ⟨i,hi,rfl⟩:=List.mem_iff_getElem.1 hx
 rw [← kt_ hi]
 have h1:=hF.node i hi
 have h2:=hF.low i hi
 have h3:=hF.lim i hi
 have h4:=h0 i (by rw [← hS.len];exact hi)
 have h5:=hS.at i
 refine ⟨h1.1,h1.2.1,⟨h2,by omega⟩,⟨by omega,by omega⟩,⟨h3.1,by omega⟩,by omega,by omega⟩
theorem net_uniq {B N:Nat} {v:Value} {ws xs ls:List Way} {W:World} (h:NetS B N v ws W) (k:NetS B N v xs W) (hs:z6_ ls ws) (ks:z6_ ls xs):ws = xs:=by
 have hl:ws.length = xs.length:=by rw [← hs.len,ks.len]
 refine List.ext_getElem hl fun i hi hi'=>?_
 have b1:=hs.at i
 have b2:=ks.at i
 obtain ⟨g,c,e1,_,_,_,_,c1⟩:=h.at hi
 obtain ⟨g',c',e2,_,_,_,_,c2⟩:=k.at hi'
 rw [e1] at e2
 obtain rfl:g = g':=by simp only [Value.slice.injEq,Option.some.injEq,Addr.mk.injEq] at e2;exact e2.1.1
 have d1:=(c1 5 _ rfl).1
 have d2:=(c2 5 _ rfl).1
 rw [d1] at d2
 have d3:ws[i].goes = xs[i].goes:=by simpa using d2
 rw [kt_ hi] at b1
 rw [kt_ hi'] at b2
 obtain ⟨f1,t1,l1,h1,k1⟩:=b1
 obtain ⟨f2,t2,l2,h2,k2⟩:=b2
 rw [f1] at f2;rw [t1] at t2;rw [l1] at l2;rw [h1] at h2;rw [k1] at k2
 cases hx:ws[i]
 cases hy:xs[i]
 rw [hx,hy] at d3 f2 t2 l2 h2 k2
 simp only at d3 f2 t2 l2 h2 k2
 subst d3 f2 t2 l2 h2 k2
 rfl
open Classical in
noncomputable def wsOf (B N:Nat) (v:Value) (ls:List Way) (W:World):List Way:=if h:∃ ws,NetS B N v ws W∧z6_ ls ws then h.choose else []
theorem xt_ {B N:Nat} {v:Value} {ws ls:List Way} {W:World} (h:NetS B N v ws W) (hs:z6_ ls ws):wsOf B N v ls W = ws:=by
 have hx:∃ ws,NetS B N v ws W∧z6_ ls ws:=⟨ws,h,hs⟩
 rw [wsOf,dif_pos hx]
 exact net_uniq hx.choose_spec.1 h hx.choose_spec.2 hs
structure FlS (ls:List Way) (q N B:Nat) (v:Value) (w:World) (ws:List Way) (W:World):Prop where
 n:NetS B N v ws W
 b:Below q w W
 r:W.heap[q + 1]? = some (.cells #[.bool false, .slice none 0 0] 164 (0,0))
 f:Flow ws
 s:z6_ ls ws
theorem FlS.below {ls:List Way} {q N B:Nat} {v:Value} {w:World} {ws:List Way} {W W':World} (h:FlS ls q N B v w ws W) (hb:Below W.heap.size W W'):FlS ls q N B v w ws W':=
 ⟨h.n.below hb,h.b.trans (hb.mono (by have:=(ge_ h.r).1;omega)),q0_ h.r hb,h.f,h.s⟩
theorem FlS.keep {ls:List Way} {q N B:Nat} {v:Value} {w:World} {ws xs:List Way} {W W':World} (h:FlS ls q N B v w ws W) (hqN:q + 1 < N) (hn:NetS B N v xs W') (hk:Keep (fun b=>v.ownBlock = some b) W W') (hf:Flow xs) (hs:z6_ ws xs):FlS ls q N B v w xs W':=by
 have hq:=(ge_ h.r).1
 have hno:∀ b,b ≤ q + 1→v.ownBlock ≠ some b:=fun b hb e=>by have:=(h.n.own.lt b e).1;have:=h.n.lt;omega
 exact ⟨hn,h.b.trans (hk.below (by omega) fun b hb e=>hno b (by omega) e),(hk.block _ (by omega) (hno _ (nl_ _))).trans h.r,hf,h.s.trans hs⟩
theorem FlS.other {ls:List Way} {q N B:Nat} {v:Value} {w:World} {ws:List Way} {W W':World} {O:Nat→Prop} (h:FlS ls q N B v w ws W) (hk:Keep O W W') (ho:∀ b,O b→q + 1 < b∧b ≠ N∧v.ownBlock ≠ some b):FlS ls q N B v w ws W':=by
 have hq:=(ge_ h.r).1
 have hN:=(ge_ h.n.n).1
 exact ⟨⟨(hk.block N hN fun e=>(ho N e).2.1 rfl).trans h.n.n,owns_agree h.n.own fun g hg=>hk.block g (h.n.own.lt g hg).2 fun e=>(ho g e).2.2 hg,h.n.lt⟩,h.b.trans (hk.below (by omega) fun b hb e=>by have:=ho b e;omega),(hk.block _ hq fun e=>by have:=ho _ e;omega).trans h.r,h.f,h.s⟩
end Go.Proofs.LS