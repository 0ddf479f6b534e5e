/- Parts of the proof of a law of layer 11 (file): LbB12. The conditions stand in each theorem. -/
import Derived.Test.YtffjknkcogmnbaaGreatDoorProg
import Derived.Test.YtffjknkcogmnbaaGreatDoorTyba
set_option linter.all false
set_option linter.unusedVariables false
set_option linter.unusedSimpArgs false
namespace Go.Proofs.LB
open Go.RowKit Go.Sort Go.Proofs.LF
set_option maxHeartbeats 4000000
set_option maxRecDepth 100000
attribute [local go_sem] q1_ q2_ q8_
def LvR (room first uns:Int) (ms:List Mo) (ns:Nat) (am as_:Option Addr) (cm cs_ M D p1 p2 p3 p4 m:Nat) (n:Int) (x:Mo) (W:World):Prop:=
 W.heap[D]? = some (.cells #[.int .i64 room, .int .i64 first, .int .i64 uns, .slice am ms.length cm, .slice as_ ns cs_, .map (some M)] 271 (0,0))∧W.heap[p1]? = some (.cells #[.pointer (some ⟨D,0,none⟩)] 135 (0,0))∧W.heap[p2]? = some (.cells #[.int .i64 m] 3 (0,0))∧W.heap[p3]? = some (.cells #[.int .i64 n] 3 (0,0))∧W.heap[p4]? = some (.cells (moC x) 79 (0,0))
def LvC (room first uns:Int) (ms:List Mo) (ns:Nat) (am as_:Option Addr) (cm cs_ D p1 p2 p3 p4 m:Nat) (n:Int) (x:Mo) (W:World):Prop:=
 W.cell? ⟨D,0,none⟩ = some (.int .i64 room)∧W.cell? ⟨D,1,none⟩ = some (.int .i64 first)∧W.cell? ⟨D,2,none⟩ = some (.int .i64 uns)∧W.cell? ⟨D,3,none⟩ = some (.slice am ms.length cm)∧W.cell? ⟨D,4,none⟩ = some (.slice as_ ns cs_) ∧
 W.cell? ⟨p1,0,none⟩ = some (.pointer (some ⟨D,0,none⟩))∧W.cell? ⟨p2,0,none⟩ = some (.int .i64 m)∧W.cell? ⟨p3,0,none⟩ = some (.int .i64 n) ∧
 W.cell? ⟨p4,0,none⟩ = some (.int .i64 x.g)∧W.cell? ⟨p4,1,none⟩ = some (.int .i64 x.r)∧W.cell? ⟨p4,2,none⟩ = some (.int .i64 x.sl)∧W.cell? ⟨p4,3,none⟩ = some (.int .i64 x.sh)∧W.cell? ⟨p4,4,none⟩ = some (.int .i64 x.tl)∧W.cell? ⟨p4,5,none⟩ = some (.int .i64 x.th)
theorem LvR.cells {room first uns:Int} {ms:List Mo} {ns:Nat} {am as_:Option Addr} {cm cs_ M D p1 p2 p3 p4 m:Nat} {n:Int} {x:Mo} {W:World} (h:LvR room first uns ms ns am as_ cm cs_ M D p1 p2 p3 p4 m n x W):LvC room first uns ms ns am as_ cm cs_ D p1 p2 p3 p4 m n x W:=by
 obtain ⟨h1,h2,h3,h4,h5⟩:=h
 exact ⟨cg_ h1 (k:=0) rfl,cg_ h1 (k:=1) rfl,cg_ h1 (k:=2) rfl,cg_ h1 (k:=3) rfl,cg_ h1 (k:=4) rfl,cg_ h2 (k:=0) rfl,cg_ h3 (k:=0) rfl,cg_ h4 (k:=0) rfl,cg_ h5 (k:=0) rfl,cg_ h5 (k:=1) rfl,cg_ h5 (k:=2) rfl,cg_ h5 (k:=3) rfl,cg_ h5 (k:=4) rfl,cg_ h5 (k:=5) rfl⟩
theorem LvR.kept {room first uns:Int} {ms:List Mo} {ns:Nat} {am as_:Option Addr} {cm cs_ M D p1 p2 p3 p4 m:Nat} {n:Int} {x:Mo} {W W':World} (h:LvR room first uns ms ns am as_ cm cs_ M D p1 p2 p3 p4 m n x W) (hk:∀ b,(b = D ∨ b = p1 ∨ b = p2 ∨ b = p3 ∨ b = p4)→W'.heap[b]? = W.heap[b]?):LvR room first uns ms ns am as_ cm cs_ M D p1 p2 p3 p4 m n x W':=
 ⟨(hk _ (.inl rfl)).trans h.1,(hk _ (.inr (.inl rfl))).trans h.2.1,(hk _ (.inr (.inr (.inl rfl)))).trans h.2.2.1,(hk _ (.inr (.inr (.inr (.inl rfl))))).trans h.2.2.2.1,(hk _ (.inr (.inr (.inr (.inr rfl))))).trans h.2.2.2.2⟩
theorem LvR.lt {room first uns:Int} {ms:List Mo} {ns:Nat} {am as_:Option Addr} {cm cs_ M D p1 p2 p3 p4 m:Nat} {n:Int} {x:Mo} {W:World} (h:LvR room first uns ms ns am as_ cm cs_ M D p1 p2 p3 p4 m n x W):∀ b,(b = D ∨ b = p1 ∨ b = p2 ∨ b = p3 ∨ b = p4)→b < W.heap.size:=by
 rintro b (rfl | rfl | rfl | rfl | rfl)
 · exact (ge_ h.1).1
 · exact (ge_ h.2.1).1
 · exact (ge_ h.2.2.1).1
 · exact (ge_ h.2.2.2.1).1
 · exact (ge_ h.2.2.2.2).1
theorem LvR.below {room first uns:Int} {ms:List Mo} {ns:Nat} {am as_:Option Addr} {cm cs_ M D p1 p2 p3 p4 m:Nat} {n:Int} {x:Mo} {W W':World} (h:LvR room first uns ms ns am as_ cm cs_ M D p1 p2 p3 p4 m n x W) (hb:Below W.heap.size W W'):LvR room first uns ms ns am as_ cm cs_ M D p1 p2 p3 p4 m n x W':=
 h.kept fun b hB=>hb.block b (h.lt b hB)
theorem vK_ (room first uns:Int) (ms:List Mo) (ns:Nat) (am as_:Option Addr) (cm cs_ M D:Nat) (S:Nat→Prop) (m:Nat) (x:Mo) (n:Int) (w:World) (hm:LSl yn_ S w (.slice am ms.length cm) ms) (hS:∀ b,S b→b < w.heap.size) (hx:ms[m]? = some x)
 (hD:w.heap[D]? = some (.cells #[.int .i64 room, .int .i64 first, .int .i64 uns, .slice am ms.length cm, .slice as_ ns cs_, .map (some M)] 271 (0,0))) :
 Calls Tryz.prog 150 #[.pointer (some ⟨D,0,none⟩), .int .i64 m, .int .i64 n] w fun e w'=>e = .returned (.func (.func 195) #[] #[.pointer (some ⟨w.heap.size,0,none⟩), .pointer (some ⟨(w.heap.size + 1),0,none⟩), .pointer (some ⟨(w.heap.size + 2),0,none⟩), .pointer (some ⟨(w.heap.size + 3),0,none⟩)])∧LvR room first uns ms ns am as_ cm cs_ M D w.heap.size (w.heap.size + 1) (w.heap.size + 2) (w.heap.size + 3) m n x w'∧w'.heap.size = w.heap.size + 4∧Below w.heap.size w w':=by
 obtain ⟨_,_,he,_,hmm,hat⟩:=LSl.at hm
 cases he
 obtain ⟨hlt,hxe⟩:=List.getElem?_eq_some_iff.1 hx
 obtain ⟨g,o,cs,rfl,hg1,hc,hcell⟩:=hat m hlt
 rw [hxe] at hc
 have hc:cs = (moC x).toList:=hc
 subst hc
 have e0:=hcell 0 _ rfl
 have e1:=hcell 1 _ rfl
 have e2:=hcell 2 _ rfl
 have e3:=hcell 3 _ rfl
 have e4:=hcell 4 _ rfl
 have e5:=hcell 5 _ rfl
 rw [Nat.add_zero] at e0
 rw [← Nat.add_assoc] at e1 e2 e3 e4 e5
 have hgl:=hS g hg1
 unfold maxLen at hmm
 have hDl:=(ge_ hD).1
 have hmI:(m:Int) < (ms.length:Int):=by omega
 have hm0:(0:Int) ≤ (m:Int):=by omega
 have d3:=cg_ hD (k:=3) (v := .slice (some ⟨g,o,none⟩) ms.length cm) rfl
 clear hat hcell hm hS hxe hg1
 obtain ⟨w3,hw3⟩:∃ w3,((w.alloc (.cells #[.pointer (some ⟨D,0,none⟩)] 135)).alloc (.cells #[.int .i64 m] 3)).alloc (.cells #[.int .i64 n] 3) = w3:=⟨_,rfl⟩
 have hz3:w3.heap.size = w.heap.size + 3:=by rw [← hw3];simp
 have hb3:Below w.heap.size w w3:=by rw [← hw3];exact (((Below.refl _ _).alloc (nl_ _) _).alloc (by simp) _).alloc (by simp;omega) _
 have r1:w3.heap[w.heap.size]? = some (.cells #[.pointer (some ⟨D,0,none⟩)] 135 (0,0)):=by rw [← hw3];exact qb_ _ (qb_ _ (ha_ _ _))
 have r2:w3.heap[w.heap.size + 1]? = some (.cells #[.int .i64 m] 3 (0,0)):=by rw [← hw3];have:=qb_ (.cells #[.int .i64 n] 3) (ha_ (w.alloc (.cells #[.pointer (some ⟨D,0,none⟩)] 135)) (.cells #[.int .i64 m] 3));simpa using this
 have r3:w3.heap[w.heap.size + 2]? = some (.cells #[.int .i64 n] 3 (0,0)):=by rw [← hw3];have:=ha_ ((w.alloc (.cells #[.pointer (some ⟨D,0,none⟩)] 135)).alloc (.cells #[.int .i64 m] 3)) (.cells #[.int .i64 n] 3);simpa using this
 have rD:=(hb3.block D hDl).trans hD
 have c1:=cg_ r1 (k:=0) (v := .pointer (some ⟨D,0,none⟩)) rfl
 have c2:=cg_ r2 (k:=0) (v := .int .i64 m) rfl
 have c3:=cg_ r3 (k:=0) (v := .int .i64 n) rfl
 have d3:=bc_ hb3 hDl d3
 have f0:=bc_ hb3 hgl e0
 have f1:=bc_ hb3 hgl e1
 have f2:=bc_ hb3 hgl e2
 have f3:=bc_ hb3 hgl e3
 have f4:=bc_ hb3 hgl e4
 have f5:=bc_ hb3 hgl e5
 have HB:=hid hb3
 have HR:=hid (show w3.heap[D]? = _∧w3.heap[w.heap.size]? = _∧w3.heap[w.heap.size + 1]? = _∧w3.heap[w.heap.size + 2]? = _ from ⟨rD,r1,r2,r3⟩)
 have HZ:=hid hz3
 clear e0 e1 e2 e3 e4 e5 hb3 rD r1 r2 r3 hD
 go_enter Tryz.func150,Tryz.ntmps150
 go_wp2_with fail
 try rw [hw3]
 have hl3:w.heap.size < w3.heap.size∧w.heap.size + 1 < w3.heap.size∧D < w3.heap.size∧g < w3.heap.size:=by omega
 have SC:=hid (fun (W:World) (h:Below w3.heap.size w3 W)=>show W.cell? ⟨w.heap.size,0,none⟩ = some (.pointer (some ⟨D,0,none⟩))∧W.cell? ⟨w.heap.size + 1,0,none⟩ = some (.int .i64 m)∧W.cell? ⟨D,3,none⟩ = some (.slice (some ⟨g,o,none⟩) ms.length cm)∧W.cell? ⟨g,o + m * 6,none⟩ = some (.int .i64 x.g)∧W.cell? ⟨g,o + m * 6 + 1,none⟩ = some (.int .i64 x.r)∧W.cell? ⟨g,o + m * 6 + 2,none⟩ = some (.int .i64 x.sl)∧W.cell? ⟨g,o + m * 6 + 3,none⟩ = some (.int .i64 x.sh)∧W.cell? ⟨g,o + m * 6 + 4,none⟩ = some (.int .i64 x.tl)∧W.cell? ⟨g,o + m * 6 + 5,none⟩ = some (.int .i64 x.th) from ⟨bc_ h hl3.1 c1,bc_ h hl3.2.1 c2,bc_ h hl3.2.2.1 d3,bc_ h hl3.2.2.2 f0,bc_ h hl3.2.2.2 f1,bc_ h hl3.2.2.2 f2,bc_ h hl3.2.2.2 f3,bc_ h hl3.2.2.2 f4,bc_ h hl3.2.2.2 f5⟩)
 have hS0:=SC.out _ (Below.refl _ w3).drew
 refine (wpIn_wide (n:=9)).1 ?_
 refine q6_ (fun W:World=>W.cell? ⟨w.heap.size,0,none⟩ = some (.pointer (some ⟨D,0,none⟩))∧W.cell? ⟨w.heap.size + 1,0,none⟩ = some (.int .i64 m)∧W.cell? ⟨D,3,none⟩ = some (.slice (some ⟨g,o,none⟩) ms.length cm)∧W.cell? ⟨g,o + m * 6,none⟩ = some (.int .i64 x.g)∧W.cell? ⟨g,o + m * 6 + 1,none⟩ = some (.int .i64 x.r)∧W.cell? ⟨g,o + m * 6 + 2,none⟩ = some (.int .i64 x.sl)∧W.cell? ⟨g,o + m * 6 + 3,none⟩ = some (.int .i64 x.sh)∧W.cell? ⟨g,o + m * 6 + 4,none⟩ = some (.int .i64 x.tl)∧W.cell? ⟨g,o + m * 6 + 5,none⟩ = some (.int .i64 x.th)) (by kernel_rfl) ?_
 refine tkZ 0 8 (.pointer (some ⟨D,0,none⟩)) rfl rfl hS0 ?_
 refine tkZ 1 9 (.pointer (some ⟨D,0,none⟩)) rfl rfl hS0 ?_
 refine tkZ 2 10 (.pointer (some ⟨D,0,none⟩)) rfl rfl hS0 ?_
 refine tkZ 3 11 (.pointer (some ⟨D,3,none⟩)) rfl rfl hS0 ?_
 refine tkZ 4 12 (.slice (some ⟨g,o,none⟩) ms.length cm) rfl rfl hS0 ?_
 refine tkZ 5 13 (.int .i64 m) rfl rfl hS0 ?_
 refine tkZ 6 14 (.pointer (some ⟨g,o + m * 6,none⟩)) rfl rfl hS0 ?_
 refine tkZ 7 15 (.agg #[.int .i64 x.g, .int .i64 x.r, .int .i64 x.sl, .int .i64 x.sh, .int .i64 x.tl, .int .i64 x.th]) rfl rfl hS0 ?_
 refine aHO 8 rfl fun K hK=>?_
 go_simp
 refine hK _ _ ⟨SC.out _ ((Below.refl _ w3).alloc (nl_ _) _).drew,?_⟩
 clear hK
 refine aHO 9 rfl fun K hK=>?_
 go_simp
 refine hK _ _ ⟨SC.out _ ((Below.refl _ w3).alloc (nl_ _) _).drew,?_⟩
 clear hK
 refine q7_ (by kernel_rfl) ?_
 go_simp
 go_wp2_with fail
 go_ret
 obtain ⟨rD,r1,r2,r3⟩:=HR.out
 have hz:=HZ.out
 have hbN:=((Below.refl _ w3).alloc (nl_ _) (.cells (moC x) 79)).drew
 refine ⟨rfl,⟨(hbN.block D (by omega)).trans rD,(hbN.block _ (by omega)).trans r1,(hbN.block _ (by omega)).trans r2,(hbN.block _ (by omega)).trans r3,?_⟩,by simp [hz],HB.out.trans (hbN.mono (by omega))⟩
 rw [← hz]
 exact ha_ w3 (.cells (moC x) 79)
def lvs (room:Int) (x:Mo) (n:Int):List Int:=(List.range (lvHi room x n - lvLo room x n + 1).toNat).map fun i:Nat=>lvLo room x n + (i:Int)
theorem lv_bnd {room n:Int} {x:Mo} (hx:OkMo room x) (hr:0 ≤ room∧room ≤ 120):0 ≤ lvLo room x n∧lvLo room x n ≤ 120 ∧ -120 ≤ lvHi room x n∧lvHi room x n ≤ 120:=by
 have h1:=hx.g
 have h2:=hx.r
 have h3:=hx.s
 have h4:=hx.t
 simp only [lvLo,lvHi,grs]
 omega
theorem vS_ (room first uns:Int) (ms:List Mo) (ns:Nat) (am as_:Option Addr) (cm cs_ M D p1 p2 p3 p4:Nat) (S:Nat→Prop) (m:Nat) (x:Mo) (n:Int) (w:World) (hR:LvR room first uns ms ns am as_ cm cs_ M D p1 p2 p3 p4 m n x w) (hm:LSl yn_ S w (.slice am ms.length cm) ms) (hS:∀ b,S b→b < w.heap.size) (hx:ms[m]? = some x) (hO:OkMo room x) (hr:0 ≤ room∧room ≤ 120) (hn:0 ≤ n∧n ≤ room) :
 SeqI Tryz.prog 195 #[.pointer (some ⟨p1,0,none⟩), .pointer (some ⟨p2,0,none⟩), .pointer (some ⟨p3,0,none⟩), .pointer (some ⟨p4,0,none⟩)] (fun k:Int=>k) (fun k=>#[.int .i64 k]) (fun _ _ _=>True) (lvs room x n) w (fun b=>S b ∨ b = D ∨ b = p1 ∨ b = p2 ∨ b = p3 ∨ b = p4):=by
 intro l J Jx O W hb hT hOw hJ hJx hY h0 N
 refine callsIn_of_wp Tryz.func195 rfl trivial ?_ rfl
 simp only [Tryz.ntmps195,List.size_toArray,List.length_cons,List.length_nil,Nat.reduceAdd,Nat.reduceSub,Array.replicate_succ,Array.replicate_zero,List.push_toArray,List.append_toArray,List.nil_append,List.cons_append]
 have HT:=hid hT
 have HOw:=hid hOw
 have HJ:=hid hJ
 have HY:=hid hY
 have SD:=hid (fun b (h:S b)=>show b < W.heap.size by have:=hS b h;have:=hb.size;omega)
 have LR:=hid (hR.below hb)
 have LM:=hid (hm.agree (qc_ hb hS))
 have H0:=hid h0
 obtain ⟨lo,hlo⟩:∃ lo,lvLo room x n = lo:=⟨_,rfl⟩
 obtain ⟨hi,hhi⟩:∃ hi,lvHi room x n = hi:=⟨_,rfl⟩
 obtain ⟨b1,b2,b3,b4⟩:=lv_bnd (n:=n) hO hr
 rw [hlo] at b1 b2
 rw [hhi] at b3 b4
 have gb:0 ≤ grs room x.g n x.sl x.th∧grs room x.g n x.sl x.th ≤ 120∧0 ≤ grs room x.g n x.sh x.tl∧grs room x.g n x.sh x.tl ≤ 120:=by
  have h3:=hO.s
  have h4:=hO.t
  simp only [grs]
  omega
 have hxr:=hO.r
 have hwr1:IntKind.i64.wrap (grs room x.g n x.sl x.th - x.r) = grs room x.g n x.sl x.th - x.r:=IntWalk.i64_in _ (by omega)
 have hwr2:IntKind.i64.wrap (grs room x.g n x.sh x.tl - x.r) = grs room x.g n x.sh x.tl - x.r:=IntWalk.i64_in _ (by omega)
 have LO:=hid (show max 0 (grs room x.g n x.sl x.th - x.r) = lo from hlo)
 have HI:=hid (show grs room x.g n x.sh x.tl - x.r = hi from hhi)
 have hX:=hx
 have OG:=hid hO
 clear hb hT hOw hJ hJx hY hm hR h0
 have LC:=hid fun W' (h:LvR room first uns ms ns am as_ cm cs_ M D p1 p2 p3 p4 m n x W')=>h.cells
 have CW:=hid fun W' (h:Below W.heap.size W W')=>(worst_any x W')
 have CB2:=hid (best_any x)
 have CG:=hid fun W' (h:Below W.heap.size W W') (s t:Int) (hs:0 ≤ s∧s ≤ 60) (ht:0 ≤ t∧t ≤ 60)=>xE_ room first uns ms am cm (.slice as_ ns cs_) m x n s t S W' (LM.out.agree (qc_ h SD.out)) (fun b hb=>by have:=SD.out b hb;have:=h.size;omega) hX ⟨hn.1,by omega⟩ OG.out.g hs ht hr
 unfold moC at CW CB2
 unfold z7_ at CG
 gi_wp2_with fail
 have SC:=hid (fun (W':World) (h:Below W.heap.size W W')=>(LR.out.below h).cells)
 have BD:=hid (show Below W.heap.size W W.drew from (Below.refl _ W).drew)
 have hS0:=SC.out _ BD.out
 refine q6_ (fun W':World=>LvC room first uns ms ns am as_ cm cs_ D p1 p2 p3 p4 m n x W') (by kernel_rfl) ?_
 refine tkZ 0 7 (.pointer (some ⟨D,0,none⟩)) rfl rfl hS0 ?_
 refine tkZ 1 8 (.pointer (some ⟨D,0,none⟩)) rfl rfl hS0 ?_
 refine tkZ 2 9 (.pointer (some ⟨D,0,none⟩)) rfl rfl hS0 ?_
 refine tkZ 3 10 (.agg #[.int .i64 room, .int .i64 first, .int .i64 uns, .slice am ms.length cm, .slice as_ ns cs_]) rfl rfl hS0 ?_
 refine tkZ 4 11 (.int .i64 m) rfl rfl hS0 ?_
 refine tkZ 5 12 (.int .i64 n) rfl rfl hS0 ?_
 refine tkZ 6 13 (.agg #[.int .i64 x.g, .int .i64 x.r, .int .i64 x.sl, .int .i64 x.sh, .int .i64 x.tl, .int .i64 x.th]) rfl rfl hS0 ?_
 refine tkZ 9 16 (.pointer (some ⟨p4,1,none⟩)) rfl rfl hS0 ?_
 refine tkZ 10 17 (.int .i64 x.r) rfl rfl hS0 ?_
 obtain ⟨w3,hw3⟩:∃ w3,W.drew = w3:=⟨_,rfl⟩
 rw [hw3] at BD ⊢
 clear hw3 hS0
 refine aHO 7 rfl fun K hK=>?_
 go_simp
 refine ⟨trivial,fun h=>(by cases h),(callsIn_wide.2 (CW.out _ BD.out)).mono ?_⟩
 rintro e w4 ⟨rfl,hb4⟩
 have BE:=hid (BD.out.trans (hb4.mono BD.out.size))
 refine hK _ _ ⟨SC.out _ BE.out,?_⟩
 clear hK hb4
 refine aHO 8 rfl fun K hK=>?_
 go_simp
 refine ⟨trivial,fun h=>(by cases h),(callsIn_wide.2 (CG.out _ BE.out _ _ ⟨OG.out.s.1,by have:=OG.out.s;omega⟩ ⟨by have:=OG.out.t;omega,OG.out.t.2.2⟩)).mono ?_⟩
 rintro e w5 ⟨rfl,hb5⟩
 have BF:=hid (BE.out.trans (hb5.mono BE.out.size))
 refine hK _ _ ⟨SC.out _ BF.out,?_⟩
 clear hK hb5
 have hS1:=SC.out _ BF.out
 refine tkZ 11 18 (.int .i64 (grs room x.g n x.sl x.th - x.r)) rfl rfl hS1 ?_
 refine aHO 12 rfl fun K hK=>?_
 go_simp
 have hb:=(Below.refl w5.heap.size w5).alloc (nl_ _) (.cells #[.int .i64 (grs room x.g n x.sl x.th - x.r)] 3)
 have hk:=ha_ w5 (.cells #[.int .i64 (grs room x.g n x.sl x.th - x.r)] 3)
 obtain ⟨w6,hw6⟩:∃ w6,w5.alloc (.cells #[.int .i64 (grs room x.g n x.sl x.th - x.r)] 3) = w6:=⟨_,rfl⟩
 rw [hw6] at hb hk ⊢
 have BG:=hid (BF.out.trans (hb.mono BF.out.size))
 have c4:=cg_ hk (k:=0) rfl
 have GR:=hid (great1 0 (grs room x.g n x.sl x.th - x.r) w5.heap.size 0 1 w6 c4)
 refine hK _ _ ⟨SC.out _ BG.out,?_⟩
 clear hK hb hk hw6 c4
 refine aHO 13 rfl fun K hK=>?_
 go_simp
 refine ⟨trivial,fun h=>(by cases h),(callsIn_wide.2 GR.out).mono ?_⟩
 rintro e w7 ⟨rfl,hw7⟩
 subst hw7
 rw [LO.out]
 refine hK _ _ ⟨SC.out _ BG.out,?_⟩
 clear hK GR
 have hS9:=SC.out _ BG.out
 refine tkY 14 6 (.int .i64 lo) rfl rfl hS9 (fun w' hs=>?_) ?_
 · go_simp
 refine q7_ (by kernel_rfl) ?_
 go_simp
 gi_wp2_with fail
 gi_loopw [6] (fun v wr=>∃ (k:Nat) (O':Nat→Prop),v = .int .i64 (lo + (k:Int))∧(k:Int) ≤ 121∧((k:Int) ≤ hi - lo + 1 ∨ k = 0)∧Hid (J ((List.range k).map fun i:Nat=>lo + (i:Int)) O' wr)∧Hid (∀ b,(S b ∨ b = D ∨ b = p1 ∨ b = p2 ∨ b = p3 ∨ b = p4)→¬ O' b)∧Hid (∀ b,O' b→b < wr.heap.size)∧Hid (qg_ (fun b=>S b ∨ b = D ∨ b = p1 ∨ b = p2 ∨ b = p3 ∨ b = p4) W wr)∧W.heap.size ≤ wr.heap.size) (fun v _=>(hi + 1 - intOf v).toNat)
 case atStart=>
  refine ⟨0,O,by simp,by omega, .inr rfl,HJ.out _ _ _ _ H0.out BG.out,HT.out,fun b h=>by have:=HOw.out b h;have:=BG.out.size;omega,fun b h=>BG.out.block b ?_,BG.out.size⟩
  rcases h with h | h
  · exact SD.out b h
  · exact LR.out.lt b h
 case round=>
  obtain ⟨k,O',rfl,hk1,hk2,JK,TK,OK,AK,hz⟩:=hrel
  have LR2:=hid (LR.out.kept (W':=wr) fun b hb=>AK.out b (.inr hb))
  have SD2:=hid (fun b (h:S b)=>show b < wr.heap.size by have:=SD.out b h;omega)
  have LM2:=hid (LM.out.agree (show qg_ S W wr from fun b hb=>AK.out b (.inl hb)))
  have TD:=hid (fun b (h:S b ∨ b = D ∨ b = p1 ∨ b = p2 ∨ b = p3 ∨ b = p4)=>show b < W.heap.size by
   rcases h with h | h
   · exact SD.out b h
   · exact LR.out.lt b h)
  have CG2:=hid fun W' (h:Below wr.heap.size wr W') (s t:Int) (hs:0 ≤ s∧s ≤ 60) (ht:0 ≤ t∧t ≤ 60)=>xE_ room first uns ms am cm (.slice as_ ns cs_) m x n s t S W' (LM2.out.agree (qc_ h SD2.out)) (fun b hb=>by have:=SD2.out b hb;have:=h.size;omega) hX ⟨hn.1,by omega⟩ OG.out.g hs ht hr
  unfold z7_ at CG2
  have SC2:=hid (fun (W':World) (h:Below wr.heap.size wr W')=>(LR2.out.below h).cells)
  clear hS1 hS9
  gi_wp2_with fail
  have BX:=hid (show Below wr.heap.size wr wr.drew from (Below.refl _ wr).drew)
  have hS0:=SC2.out _ BX.out
  refine q6_ (fun W':World=>LvC room first uns ms ns am as_ cm cs_ D p1 p2 p3 p4 m n x W') (by kernel_rfl) ?_
  refine tkZ 0 21 (.int .i64 (lo + (k:Int))) rfl rfl hS0 ?_
  refine tkZ 1 22 (.pointer (some ⟨D,0,none⟩)) rfl rfl hS0 ?_
  refine tkZ 2 23 (.pointer (some ⟨D,0,none⟩)) rfl rfl hS0 ?_
  refine tkZ 3 24 (.pointer (some ⟨D,0,none⟩)) rfl rfl hS0 ?_
  refine tkZ 4 25 (.agg #[.int .i64 room, .int .i64 first, .int .i64 uns, .slice am ms.length cm, .slice as_ ns cs_]) rfl rfl hS0 ?_
  refine tkZ 5 26 (.int .i64 m) rfl rfl hS0 ?_
  refine tkZ 6 27 (.int .i64 n) rfl rfl hS0 ?_
  refine tkZ 7 28 (.agg #[.int .i64 x.g, .int .i64 x.r, .int .i64 x.sl, .int .i64 x.sh, .int .i64 x.tl, .int .i64 x.th]) rfl rfl hS0 ?_
  refine tkZ 10 31 (.pointer (some ⟨p4,1,none⟩)) rfl rfl hS0 ?_
  refine tkZ 11 32 (.int .i64 x.r) rfl rfl hS0 ?_
  obtain ⟨v3,hv3⟩:∃ v3,wr.drew = v3:=⟨_,rfl⟩
  rw [hv3] at BX ⊢
  clear hv3 hS0
  refine aHO 8 rfl fun K hK=>?_
  go_simp
  refine ⟨trivial,fun h=>(by cases h),(callsIn_wide.2 (CB2.out v3)).mono ?_⟩
  rintro e v4 ⟨rfl,hb4⟩
  have BE:=hid (BX.out.trans (hb4.mono BX.out.size))
  refine hK _ _ ⟨SC2.out _ BE.out,?_⟩
  clear hK hb4
  refine aHO 9 rfl fun K hK=>?_
  go_simp
  refine ⟨trivial,fun h=>(by cases h),(callsIn_wide.2 (CG2.out _ BE.out _ _ ⟨by have:=OG.out.s;omega,OG.out.s.2.2⟩ ⟨OG.out.t.1,by have:=OG.out.t;omega⟩)).mono ?_⟩
  rintro e v5 ⟨rfl,hb5⟩
  have BF:=hid (BE.out.trans (hb5.mono BE.out.size))
  refine hK _ _ ⟨SC2.out _ BF.out,?_⟩
  clear hK hb5
  have hS1:=SC2.out _ BF.out
  refine tkZ 12 33 (.int .i64 (grs room x.g n x.sh x.tl - x.r)) rfl rfl hS1 ?_
  refine tkY 13 34 (.bool (decide (lo + (k:Int) ≤ hi))) rfl rfl hS1 (fun w' hs=>?_) ?_
  · rw [← HI.out]
    go_simp
  refine q7_ (by kernel_rfl) ?_
  go_simp
  have BZ:=BF.out.size
  have JK2:=hid (HJ.out _ _ _ _ JK.out BF.out)
  by_cases hle:lo + (k:Int) ≤ hi
  · have hD:decide (lo + (k:Int) ≤ hi) = true:=decide_eq_true hle
    have hpre:((List.range k).map fun i:Nat=>lo + (i:Int)) ++ [lo + (k:Int)] = (List.range (k + 1)).map fun i:Nat=>lo + (i:Int):=by rw [List.range_succ];simp
    have hpx:((List.range k).map fun i:Nat=>lo + (i:Int)) ++ [lo + (k:Int)] <+: lvs room x n:=by
     rw [hpre,lvs,hlo,hhi]
     obtain ⟨d,hd⟩:∃ d,(hi - lo + 1).toNat = (k + 1) + d:=⟨(hi - lo + 1).toNat - (k + 1),by omega⟩
     have er:=List.range_add (n:=k + 1) (m:=d)
     rw [hd,er,List.map_append]
     exact List.prefix_append _ _
    have HPX:=hid hpx
    obtain ⟨fn,tmps,assign,body,hy,hRR⟩:=HY.out (N - 1) _ (lo + (k:Int)) _ _ JK2.out hpx trivial
    have HR:=hid hRR
    clear hRR hpx
    gi_wp2_with fail
    refine ⟨fun h=>(by cases h),HR.out.mono ?_⟩
    rintro e W5 (⟨rfl,O2,hJ5,hk5,hO5,hO6⟩ | ⟨rfl,O2,hJ5,hk5⟩)
    · rw [hpre] at hJ5
      have J5:=hid hJ5
      have K5:=hid hk5
      have O5:=hid hO5
      have O6:=hid hO6
      clear hJ5 hk5 hO5 hO6
      gi_wp2_with fail
      go_roundw
      case rel=>
       refine ⟨k + 1,O2,by simp [Int.add_assoc],by omega, .inl (by omega),J5.out,fun b h h2=>?_,O6.out,fun b h=>?_,by have:=K5.out.size;omega⟩
       · rcases O5.out b h2 with h3 | h3
         · exact TK.out b h h3
         · have:=TD.out b h;omega
       · have hd:=TD.out b h
         exact (K5.out.block b (by omega) (TK.out b h)).trans ((BF.out.block b (by omega)).trans (AK.out b h))
      case measure=>simp [intOf];omega
    · have J5:=hid hJ5
      clear hJ5
      gi_wp2_with fail
      refine bodyPost_ret (results_none rfl _ _ _) rfl ?_
      refine ⟨⟨_,rfl⟩, .inr ⟨_,O2,?_,J5.out⟩⟩
      exact HPX.out
  · have hD:decide (lo + (k:Int) ≤ hi) = false:=decide_eq_false hle
    gi_wp2_with fail
    go_end0
    refine ⟨⟨_,rfl⟩, .inl ⟨O',?_⟩⟩
    rw [lvs,hlo,hhi]
    have:(hi - lo + 1).toNat = k:=by omega
    rw [this]
    exact JK2.out
end Go.Proofs.LB