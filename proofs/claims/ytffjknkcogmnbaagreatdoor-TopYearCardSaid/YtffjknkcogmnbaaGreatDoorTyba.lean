/- Parts of the proof of a law of layer 11 (file): LbB10, LbS4, LbB11, LbSMap. The conditions stand in each theorem. -/
import Derived.ChangeKeys
import Derived.DeepKeys4
import Derived.Test.YtffjknkcogmnbaaGreatDoorProg
import Derived.Test.YtffjknkcogmnbaaGreatDoorTyax
import Derived.Test.YtffjknkcogmnbaaGreatDoorTyay
import Derived.Test.YtffjknkcogmnbaaGreatDoorTyaz
set_option linter.all false
set_option linter.unusedVariables false
set_option linter.unusedSimpArgs false
namespace Go.Proofs.LB
open Go.RowKit Go.Sort Go.Proofs.LF
set_option maxHeartbeats 4000000
set_option maxRecDepth 100000
attribute [local go_sem] q1_ q2_ q8_
theorem all1_any (n:Int) (w:World):Calls Tryz.prog 151 #[.int .i64 n] w fun e w'=>e = .returned (.bool true)∧w' = w:=by
 go_enter Tryz.func151,Tryz.ntmps151
 go_wp2_with fail
 go_ret
 exact ⟨rfl,rfl⟩
theorem enters151:LF.zn_ 151:=by intro args W;simp [go_sem]
theorem enters220:LF.zn_ 220:=by intro args W;simp [go_sem]
theorem c220_ok (room first uns:Int) (ms:List Mo) (ss:List Su) (am as_:Option Addr) (cm cs_ M D:Nat) (S:Nat→Prop) (p1 p2 p3:Nat) (n:Int) (i:Nat) (hi:i < ss.length) (W:World) (hs:LSl vQ_ S W (.slice as_ ss.length cs_) ss) (hD:W.heap[D]? = some (.cells #[.int .i64 room, .int .i64 first, .int .i64 uns, .slice am ms.length cm, .slice as_ ss.length cs_, .map (some M)] 271 (0,0)))
 (h1:W.cell? ⟨p1,0,none⟩ = some (.pointer (some ⟨D,0,none⟩))) (h2:W.cell? ⟨p2,0,none⟩ = some (.func (.func 151) #[] #[])) (h3:W.cell? ⟨p3,0,none⟩ = some (.int .i64 n)) (l1:p1 < W.heap.size) (l2:p2 < W.heap.size) (l3:p3 < W.heap.size) :
 Calls Tryz.prog 220 #[.int .i64 i, .pointer (some ⟨p1,0,none⟩), .pointer (some ⟨p2,0,none⟩), .pointer (some ⟨p3,0,none⟩)] W fun e w'=>e = .returned (.bool (inI n ss[i].lo ss[i].hi))∧Below W.heap.size W w':=by
 obtain ⟨_,_,he,_,hmm,hat⟩:=LSl.at hs
 cases he
 unfold maxLen at hmm
 obtain ⟨g,o,cs1,rfl,hg,hc,hcell⟩:=hat i hi
 have hc:cs1 = (suC ss[i]).toList:=hc
 obtain ⟨s,hse⟩:∃ s,ss[i] = s:=⟨_,rfl⟩
 rw [hse] at hc
 subst hc
 have e1:=hcell 1 _ rfl
 have e2:=hcell 2 _ rfl
 rw [← Nat.add_assoc] at e1 e2
 have d4:=cg_ hD (k:=4) rfl
 have hE':∀ (args:Array Value) (W:World),Sem.run Tryz.prog (callFunc 151 args) W = .ok (.enter 151 args) W:=enters151
 rw [hse]
 have hii:(i:Int) < (ss.length:Int):=by omega
 have hi0:(0:Int) ≤ (i:Int):=by omega
 clear hat hcell hse hs
 obtain ⟨W1,hW1⟩:∃ W1,W.alloc (.cells #[.int .i64 s.lo, .int .i64 s.hi] 35) = W1:=⟨_,rfl⟩
 have hb:Below W.heap.size W W1:=by rw [← hW1];exact (Below.refl _ _).alloc (nl_ _) _
 have sn:W1.heap[W.heap.size]? = some (.cells #[.int .i64 s.lo, .int .i64 s.hi] 35 (0,0)):=by rw [← hW1];exact ha_ _ _
 have q0:=cg_ sn (k:=0) rfl
 have q1:=cg_ sn (k:=1) rfl
 have r2:=bc_ hb l2 h2
 have r3:=bc_ hb l3 h3
 have HB:=hid hb
 clear hb sn
 have A1:=hid (all1_any i W1)
 have I1:=hid (ze_ n s.lo s.hi W1)
 go_enter Tryz.func220,Tryz.ntmps220
 go_wp2_with fail
 refine A1.out.mono ?_
 rintro e w1 ⟨rfl,hw1⟩
 subst hw1
 go_wp2_with fail
 refine I1.out.mono ?_
 rintro e w1 ⟨rfl,hw1⟩
 subst hw1
 go_wp2_with fail
 go_ret
 exact ⟨rfl,HB.out⟩
end Go.Proofs.LB
namespace Go.Proofs.LS
open Go.RowKit Go.Sort Go.Proofs.LF Go.Proofs.LB
set_option maxHeartbeats 4000000
set_option maxRecDepth 100000
attribute [local go_sem] q1_ q2_ q8_
structure OkSc (S:List St) (C:List Sp):Prop where
 s:1 ≤ S.length∧S.length ≤ 6
 c:1 ≤ C.length∧C.length ≤ 5
 sp:∀ x ∈ qO_ S C,okSp x = true∧x.lo ≤ x.hi
 te:∀ x ∈ S,0 ≤ x.t∧x.t < (C.length:Int)
 go:∀ x ∈ S,0 ≤ (kh_ x).hi
theorem v4_ {x:Sp} (h:okSp x = true):(0 ≤ x.lo∧x.lo ≤ 30)∧0 ≤ x.hi∧x.hi ≤ 30:=by
 rw [okSp,Bool.and_eq_true,inI,inI,Bool.and_eq_true,Bool.and_eq_true,decide_eq_true_iff,decide_eq_true_iff,decide_eq_true_iff,decide_eq_true_iff] at h
 exact h
theorem OkSc.sm {S:List St} {C:List Sp} (h:OkSc S C) {x:St} (hx:x ∈ S):SmSt x:=by
 have hm:∀ y ∈ spL x,y ∈ qO_ S C:=fun y hy=>List.mem_append_right _ (List.mem_flatMap.2 ⟨x,hx,hy⟩)
 have h1:=v4_ (h.sp _ (hm ⟨x.ll,x.lh⟩ (by simp [spL]))).1
 have h2:=v4_ (h.sp _ (hm ⟨x.sl,x.sh⟩ (by simp [spL]))).1
 have h3:=v4_ (h.sp _ (hm ⟨x.el,x.eh⟩ (by simp [spL]))).1
 have h4:=h.te x hx
 have h5:=h.c
 simp only at h1 h2 h3
 constructor <;> omega
theorem enters61:LF.zn_ 61:=by intro args W;simp [go_sem]
theorem enters108:LF.zn_ 108:=by intro args W;simp [go_sem]
theorem enters109:LF.zn_ 109:=by intro args W;simp [go_sem]
theorem enters110:LF.zn_ 110:=by intro args W;simp [go_sem]
theorem c108_ok (as_ ac:Option Addr) (n m cs_ cc bf:Nat) (x:St) (W:World) (hb:W.heap[bf]? = some (.cells #[.func (.func 60) #[.agg #[.slice as_ n cs_, .slice ac m cc]] #[]] 145 (0,0))) (hx:0 ≤ x.t∧x.t < (m:Int)) (hn:n ≤ 1000) (hm:m ≤ 1000) :
 Calls Tryz.prog 108 #[.agg (stC x), .pointer (some ⟨bf,0,none⟩)] W fun e w'=>e = .returned (.bool true)∧Below W.heap.size W w':=by
 obtain ⟨W1,hW1⟩:∃ W1,W.alloc (.cells (stC x) 72) = W1:=⟨_,rfl⟩
 have hb1:Below W.heap.size W W1:=by rw [← hW1];exact (Below.refl _ _).alloc (nl_ _) _
 have hn1:W1.heap[W.heap.size]? = some (.cells (stC x) 72 (0,0)):=by rw [← hW1];exact ha_ _ _
 have hbb:=q0_ hb hb1
 unfold stC at *
 have s0:=cg_ hn1 (k:=0) (v := .int .i64 x.t) rfl
 have b0:=cg_ hbb (k:=0) (v := .func (.func 60) #[.agg #[.slice as_ n cs_, .slice ac m cc]] #[]) rfl
 have TE:=hid (w3_ as_ ac n m cs_ cc x.t W1 hn hm)
 have HR:=hid (show inI x.t 0 ((m:Int) - 1) = true by rw [inI,Bool.and_eq_true,decide_eq_true_iff,decide_eq_true_iff];omega)
 have HB:=hid hb1
 clear hn1 hbb hb hb1
 go_enter Tryz.func108,Tryz.ntmps108
 go_wp2_with fail
 refine TE.out.mono ?_
 rintro e w2 ⟨rfl,hb2⟩
 go_wp2_with fail
 go_ret
 rw [HR.out]
 exact ⟨rfl,HB.out.trans (hb2.mono HB.out.size)⟩
theorem in_yes {n lo hi:Int} (w:World) (h:lo ≤ n∧n ≤ hi):Calls Tryz.prog 104 #[.int .i64 n, .int .i64 lo, .int .i64 hi] w fun e w'=>e = .returned (.bool true)∧w' = w:=by
 have:=ze_ n lo hi w
 rw [inI,decide_eq_true h.1,decide_eq_true h.2] at this
 exact this
theorem x3_ (S:List St) (C:List Sp) (as_ ac:Option Addr) (cs_ cc:Nat) (B:Nat→Prop) (w:World) (hs:LSl rdSt B w (.slice as_ S.length cs_) S) (hc:LSl rdSp B w (.slice ac C.length cc) C) (hB:∀ b,B b→b < w.heap.size) (hO:OkSc S C) :
 Calls Tryz.prog 59 #[.agg #[.slice as_ S.length cs_, .slice ac C.length cc]] w fun e w'=>e = .returned (.int .i64 0)∧Below w.heap.size w w':=by
 obtain ⟨w1,hw1⟩:∃ w1,w.alloc (.cells #[.slice as_ S.length cs_, .slice ac C.length cc] 60) = w1:=⟨_,rfl⟩
 have hb1:Below w.heap.size w w1:=by rw [← hw1];exact (Below.refl _ _).alloc (nl_ _) _
 have hn1:w1.heap[w.heap.size]? = some (.cells #[.slice as_ S.length cs_, .slice ac C.length cc] 60 (0,0)):=by rw [← hw1];exact ha_ _ _
 have hz1:w1.heap.size = w.heap.size + 1:=by rw [← hw1];simp
 obtain ⟨w2,hw2⟩:∃ w2,w1.alloc (.cells #[.func (.func 60) #[.agg #[.slice as_ S.length cs_, .slice ac C.length cc]] #[]] 145) = w2:=⟨_,rfl⟩
 have hb2:Below w1.heap.size w1 w2:=by rw [← hw2];exact (Below.refl _ _).alloc (nl_ _) _
 have hn2:w2.heap[w1.heap.size]? = some (.cells #[.func (.func 60) #[.agg #[.slice as_ S.length cs_, .slice ac C.length cc]] #[]] 145 (0,0)):=by rw [← hw2];exact ha_ _ _
 have BN:=hid (q0_ hn1 hb2)
 have FN:=hid hn2
 have BW:=hid (hb1.trans (hb2.mono hb1.size))
 have HSs:=hid hs
 have HCs:=hid hc
 have HB:=hid hB
 have HO:=hid hO
 have r1:(1:Int) ≤ (S.length:Int)∧(S.length:Int) ≤ 6:=by have:=hO.s;omega
 have r2:(1:Int) ≤ (C.length:Int)∧(C.length:Int) ≤ 5:=by have:=hO.c;omega
 obtain ⟨ba,hba⟩:∃ b,w.heap.size = b:=⟨_,rfl⟩
 obtain ⟨bf,hbf⟩:∃ b,w1.heap.size = b:=⟨_,rfl⟩
 rw [hba] at BN
 rw [hbf] at FN
 have c0:=cg_ hn1 (k:=0) (v := .slice as_ S.length cs_) rfl
 have c1:=cg_ hn1 (k:=1) (v := .slice ac C.length cc) rfl
 rw [hba] at c0 c1
 clear hs hc hB hO hb1 hb2 hn1 hn2 hz1
 go_enter Tryz.func59,Tryz.ntmps59
 go_upto_block 0 with fail
 try rw [hw1]
 try simp only [hba,hbf]
 try rw [hw2]
 clear hw1 hw2 hba hbf c0 c1
 have b0:=cg_ BN.out (k:=0) (v := .slice as_ S.length cs_) rfl
 have b1:=cg_ BN.out (k:=1) (v := .slice ac C.length cc) rfl
 go_wp2_with fail
 refine (in_yes _ r1).mono ?_
 rintro e v1 ⟨rfl,hq⟩
 subst hq
 clear b0 b1
 have b0:=cg_ BN.out (k:=0) (v := .slice as_ S.length cs_) rfl
 have b1:=cg_ BN.out (k:=1) (v := .slice ac C.length cc) rfl
 go_wp2_with fail
 refine (in_yes _ r2).mono ?_
 rintro e v2 ⟨rfl,hq⟩
 subst hq
 clear b0 b1
 obtain ⟨w9,hw9⟩:∃ w9,w9 = v2:=⟨_,rfl⟩
 subst hw9
 have SP:=hid (xT_ S C as_ ac cs_ cc B w9 (HSs.out.agree (qc_ BW.out HB.out)) (HCs.out.agree (qc_ BW.out HB.out)) (fun b hb=>by have:=HB.out b hb;have:=BW.out.size;omega) (by omega) (by omega))
 have b0:=cg_ BN.out (k:=0) (v := .slice as_ S.length cs_) rfl
 have b1:=cg_ BN.out (k:=1) (v := .slice ac C.length cc) rfl
 go_wp2_with fail
 refine (SP.out).mono ?_
 rintro e w9s ⟨av,cv,rfl,ho,hb⟩
 clear b0 b1
 have HSP:=hid (SlC.of_owns ho)
 clear ho SP
 replace BN:=hid (q0_ BN.out hb)
 replace FN:=hid (q0_ FN.out hb)
 replace BW:=hid (BW.out.trans (hb.mono BW.out.size))
 clear hb
 have EV:=y0_ 61 enters61 (fun _=>true) [] (qO_ S C).length av cv (spV (qO_ S C)) _ w9s HSP.out (fun b hb=>hb.2) (by rw [qO_,List.length_append,jm_];omega) (fun i hi W hW=>by
  rw [show qB_ 2 (spV (qO_ S C)) i = _ from jK_ (lcs_sp (fun _=>True) W (qO_ S C)) i hi]
  have:=j8_ (qO_ S C)[i] W
  rw [(HO.out.sp _ (List.getElem_mem hi)).1] at this
  exact this)
 rw [zg_] at EV
 have EV:=hid EV
 have b0:=cg_ BN.out (k:=0) (v := .slice as_ S.length cs_) rfl
 have b1:=cg_ BN.out (k:=1) (v := .slice ac C.length cc) rfl
 go_wp2_with fail
 refine (EV.out).mono ?_
 rintro e w10 ⟨rfl,hb⟩
 clear b0 b1
 clear EV HSP
 replace BN:=hid (q0_ BN.out hb)
 replace FN:=hid (q0_ FN.out hb)
 replace BW:=hid (BW.out.trans (hb.mono BW.out.size))
 clear hb
 obtain ⟨csS,hsc,hsl⟩:=HSs.out
 have EV:=yv_ 108 enters108 (fun _=>true) [.pointer (some ⟨bf,0,none⟩)] S.length as_ cs_ csS B w10 (hsc.agree (qc_ BW.out HB.out)) (fun b hb=>by have:=HB.out b hb;have:=BW.out.size;omega) (by omega) (fun i hi W hW=>by
  rw [jQ_ hsl i hi]
  exact c108_ok as_ ac S.length C.length cs_ cc bf S[i] W (q0_ FN.out hW) (HO.out.te _ (List.getElem_mem hi)) (by omega) (by omega))
 rw [zg_] at EV
 have EV:=hid EV
 clear hsc hsl
 have b0:=cg_ BN.out (k:=0) (v := .slice as_ S.length cs_) rfl
 have b1:=cg_ BN.out (k:=1) (v := .slice ac C.length cc) rfl
 go_wp2_with fail
 refine (EV.out).mono ?_
 rintro e w11 ⟨rfl,hb⟩
 clear b0 b1
 clear EV
 replace BN:=hid (q0_ BN.out hb)
 replace FN:=hid (q0_ FN.out hb)
 replace BW:=hid (BW.out.trans (hb.mono BW.out.size))
 clear hb
 have SP:=hid (xT_ S C as_ ac cs_ cc B w11 (HSs.out.agree (qc_ BW.out HB.out)) (HCs.out.agree (qc_ BW.out HB.out)) (fun b hb=>by have:=HB.out b hb;have:=BW.out.size;omega) (by omega) (by omega))
 have b0:=cg_ BN.out (k:=0) (v := .slice as_ S.length cs_) rfl
 have b1:=cg_ BN.out (k:=1) (v := .slice ac C.length cc) rfl
 go_wp2_with fail
 refine (SP.out).mono ?_
 rintro e w11s ⟨av,cv,rfl,ho,hb⟩
 clear b0 b1
 have HSP:=hid (SlC.of_owns ho)
 clear ho SP
 replace BN:=hid (q0_ BN.out hb)
 replace FN:=hid (q0_ FN.out hb)
 replace BW:=hid (BW.out.trans (hb.mono BW.out.size))
 clear hb
 have EV:=y0_ 109 enters109 (fun _=>true) [] (qO_ S C).length av cv (spV (qO_ S C)) _ w11s HSP.out (fun b hb=>hb.2) (by rw [qO_,List.length_append,jm_];omega) (fun i hi W hW=>by
  rw [show qB_ 2 (spV (qO_ S C)) i = _ from jK_ (lcs_sp (fun _=>True) W (qO_ S C)) i hi]
  have:=ordS_any (qO_ S C)[i] W
  rw [decide_eq_true (HO.out.sp _ (List.getElem_mem hi)).2] at this
  exact this)
 rw [zg_] at EV
 have EV:=hid EV
 have b0:=cg_ BN.out (k:=0) (v := .slice as_ S.length cs_) rfl
 have b1:=cg_ BN.out (k:=1) (v := .slice ac C.length cc) rfl
 go_wp2_with fail
 refine (EV.out).mono ?_
 rintro e w12 ⟨rfl,hb⟩
 clear b0 b1
 clear EV HSP
 replace BN:=hid (q0_ BN.out hb)
 replace FN:=hid (q0_ FN.out hb)
 replace BW:=hid (BW.out.trans (hb.mono BW.out.size))
 clear hb
 obtain ⟨csS,hsc,hsl⟩:=HSs.out
 have EV:=yv_ 110 enters110 (fun _=>true) [] S.length as_ cs_ csS B w12 (hsc.agree (qc_ BW.out HB.out)) (fun b hb=>by have:=HB.out b hb;have:=BW.out.size;omega) (by omega) (fun i hi W hW=>by
  rw [jQ_ hsl i hi]
  have:=yQ_ S[i] W (HO.out.sm (List.getElem_mem hi))
  rw [decide_eq_true (HO.out.go _ (List.getElem_mem hi))] at this
  exact this)
 rw [zg_] at EV
 have EV:=hid EV
 clear hsc hsl
 have b0:=cg_ BN.out (k:=0) (v := .slice as_ S.length cs_) rfl
 have b1:=cg_ BN.out (k:=1) (v := .slice ac C.length cc) rfl
 go_wp2_with fail
 refine (EV.out).mono ?_
 rintro e w13 ⟨rfl,hb⟩
 clear b0 b1
 clear EV
 replace BN:=hid (q0_ BN.out hb)
 replace FN:=hid (q0_ FN.out hb)
 replace BW:=hid (BW.out.trans (hb.mono BW.out.size))
 clear hb
 go_wp2_with fail
 go_ret
 exact ⟨rfl,BW.out⟩
end Go.Proofs.LS
namespace Go.Proofs.LB
open Go.RowKit Go.Sort Go.Proofs.LF
set_option maxHeartbeats 4000000
set_option maxRecDepth 100000
attribute [local go_sem] q1_ q2_ q8_
theorem allN_iff {p:Nat→Bool} {n:Nat}:wq_ p n = true ↔ ∀ j,j < n→p j = true:=by
 simp [wq_,wc_]
theorem ji_ {ss:List Su} {k m i:Nat}:i ∈ plc ss k m ↔ i < k∧(ss.getD i ⟨0,0,0⟩).m = m:=by simp [plc]
theorem agr_plc (ss:List Su) (m:Nat) (n:Int):wq_ (fun j=>inI n (ss.getD ((plc ss ss.length m).getD j 0) ⟨0,0,0⟩).lo (ss.getD ((plc ss ss.length m).getD j 0) ⟨0,0,0⟩).hi) (plc ss ss.length m).length = agr ss m n:=by
 rw [Bool.eq_iff_iff,allN_iff,agr,List.all_eq_true]
 constructor
 · intro h s hs
   obtain ⟨i,hi,rfl⟩:=List.getElem_of_mem hs
   have hg:ss.getD i ⟨0,0,0⟩ = ss[i]:=by simp [List.getD_eq_getElem?_getD,List.getElem?_eq_getElem hi]
   by_cases e:ss[i].m = m
   · have hm:i ∈ plc ss ss.length m:=ji_.2 ⟨hi,by rw [hg];exact e⟩
     obtain ⟨j,hj,hje⟩:=List.getElem_of_mem hm
     have:=h j hj
     have hgj:(plc ss ss.length m).getD j 0 = i:=by simp [List.getD_eq_getElem?_getD,List.getElem?_eq_getElem hj,hje]
     rw [hgj,hg] at this
     simp only [inI] at this
     simp [e,this]
   · simp [e]
 · intro h j hj
   have hgj:(plc ss ss.length m).getD j 0 = (plc ss ss.length m)[j]:=by simp [List.getD_eq_getElem?_getD,List.getElem?_eq_getElem hj]
   obtain ⟨h1,h2⟩:=ji_.1 (List.getElem_mem hj)
   rw [hgj]
   obtain ⟨i,hi⟩:∃ i,(plc ss ss.length m)[j] = i:=⟨_,rfl⟩
   rw [hi] at h1 h2 ⊢
   have hg:ss.getD i ⟨0,0,0⟩ = ss[i]:=by simp [List.getD_eq_getElem?_getD,List.getElem?_eq_getElem h1]
   rw [hg] at h2 ⊢
   have:=h ss[i] (List.getElem_mem h1)
   simp only [h2,bne_self_eq_false,Bool.false_or] at this
   exact this
theorem nI_elem {l:List Nat} {j:Nat} (hj:j < l.length):qB_ 1 (nI l) j = .int .i64 (l.getD j 0:Nat):=by
 simp [qB_,nI,List.getD_eq_getElem?_getD,List.getElem?_eq_getElem hj]
theorem jE_.get {B M n:Nat} {L:Nat→List Nat} {w:World} (h:jE_ B M n L w) (m:Nat) (hm:m ≤ 1000):∃ v,(Instr.lookup 269 (.map (some M)) (.int .i64 m) false).run Tryz.prog w = .ok v w∧w.ownsRow B 3 1 v (L m).length (nI (L m)):=by
 obtain ⟨f,f1,f2,f3,f4⟩:=h
 have hr:=vy_.look f1 Tryz.underlying269 Tryz.underlying3 (zero27 w) m hm
 refine ⟨_,hr,?_⟩
 by_cases h0:L m = []
 · rw [f2 _ h0,h0]
   exact World.ownsRow_nil _ _ _ _
 · obtain ⟨u,hu,hr⟩:=f3 _ h0
   rw [hu];exact hr
theorem xV_ (room first uns:Int) (ms:List Mo) (ss:List Su) (am as_:Option Addr) (cm cs_ M D B n0:Nat) (S:Nat→Prop) (m:Nat) (n:Int) (w:World) (hs:LSl vQ_ S w (.slice as_ ss.length cs_) ss) (hS:∀ b,S b→b < w.heap.size) (hD:w.heap[D]? = some (.cells #[.int .i64 room, .int .i64 first, .int .i64 uns, .slice am ms.length cm, .slice as_ ss.length cs_, .map (some M)] 271 (0,0)))
 (hM:jE_ B M n0 (plc ss ss.length) w) (hm:m ≤ 1000) (hmany:ss.length ≤ 1000) :
 Calls Tryz.prog 194 #[.pointer (some ⟨D,0,none⟩), .agg #[.func (.func 151) #[] #[]], .int .i64 m, .int .i64 n] w fun e w'=>e = .returned (.bool (agr ss m n))∧Below w.heap.size w w':=by
 obtain ⟨w1,hw1⟩:∃ w1,w.alloc (.cells #[.pointer (some ⟨D,0,none⟩)] 135) = w1:=⟨_,rfl⟩
 have hb1:Below w.heap.size w w1:=by rw [← hw1];exact (Below.refl _ _).alloc (nl_ _) _
 have n1:w1.heap[w.heap.size]? = some (.cells #[.pointer (some ⟨D,0,none⟩)] 135 (0,0)):=by rw [← hw1];exact ha_ _ _
 obtain ⟨w2,hw2⟩:∃ w2,w1.alloc (.cells #[.func (.func 151) #[] #[]] 211) = w2:=⟨_,rfl⟩
 have hb2:Below w1.heap.size w1 w2:=by rw [← hw2];exact (Below.refl _ _).alloc (nl_ _) _
 have n2:w2.heap[w1.heap.size]? = some (.cells #[.func (.func 151) #[] #[]] 211 (0,0)):=by rw [← hw2];exact ha_ _ _
 obtain ⟨w3,hw3⟩:∃ w3,w2.alloc (.cells #[.int .i64 n] 3) = w3:=⟨_,rfl⟩
 have hb3:Below w2.heap.size w2 w3:=by rw [← hw3];exact (Below.refl _ _).alloc (nl_ _) _
 have n3:w3.heap[w2.heap.size]? = some (.cells #[.int .i64 n] 3 (0,0)):=by rw [← hw3];exact ha_ _ _
 have hb12:=hb1.trans (hb2.mono hb1.size)
 have hb:=hb12.trans (hb3.mono hb12.size)
 have N1:=hid (q0_ (q0_ n1 hb2) hb3)
 have N2:=hid (q0_ n2 hb3)
 have N3:=hid n3
 have DN:=hid (q0_ hD hb)
 have HSU:=hid (hs.agree (qc_ hb hS))
 obtain ⟨v,hr,hown⟩:=(hM.below hb).get m hm
 obtain ⟨av,cv,rfl,_,_⟩:=owns_shape hown
 have HB:=hid hb
 obtain ⟨p1,hp1⟩:∃ b,w.heap.size = b:=⟨_,rfl⟩
 obtain ⟨p2,hp2⟩:∃ b,w1.heap.size = b:=⟨_,rfl⟩
 obtain ⟨p3,hp3⟩:∃ b,w2.heap.size = b:=⟨_,rfl⟩
 rw [hp1] at N1
 rw [hp2] at N2
 rw [hp3] at N3
 have hS3:=hid (show ∀ b,S b→b < w3.heap.size from fun b hx=>by have:=hS b hx;have:=hb.size;omega)
 have EV:=every_i 220 enters220 (fun j=>inI n (ss.getD ((plc ss ss.length m).getD j 0) ⟨0,0,0⟩).lo (ss.getD ((plc ss ss.length m).getD j 0) ⟨0,0,0⟩).hi) [.pointer (some ⟨p1,0,none⟩), .pointer (some ⟨p2,0,none⟩), .pointer (some ⟨p3,0,none⟩)] (plc ss ss.length m).length av cv _ (fun b=>b < w3.heap.size) w3 ((SlC.of_owns hown).wide fun b hx=>hx.2) (fun _ h=>h) (by have:=plc_len ss ss.length m;omega) (fun j hj W hW=>by
  rw [nI_elem hj]
  have hgj:(plc ss ss.length m).getD j 0 = (plc ss ss.length m)[j]:=by simp [List.getD_eq_getElem?_getD,List.getElem?_eq_getElem hj]
  obtain ⟨h1,_⟩:=ji_.1 (List.getElem_mem hj)
  rw [hgj]
  obtain ⟨i,hi⟩:∃ i,(plc ss ss.length m)[j] = i:=⟨_,rfl⟩
  rw [hi] at h1 ⊢
  have hg:ss.getD i ⟨0,0,0⟩ = ss[i]:=by simp [List.getD_eq_getElem?_getD,List.getElem?_eq_getElem h1]
  rw [hg]
  have a1:=q0_ N1.out hW
  have a2:=q0_ N2.out hW
  have a3:=q0_ N3.out hW
  exact c220_ok room first uns ms ss am as_ cm cs_ M D S p1 p2 p3 n i h1 W (HSU.out.agree (qc_ hW hS3.out)) (q0_ DN.out hW) (cg_ a1 (k:=0) rfl) (cg_ a2 (k:=0) rfl) (cg_ a3 (k:=0) rfl) (ge_ a1).1 (ge_ a2).1 (ge_ a3).1)
 rw [agr_plc] at EV
 have EV:=hid EV
 have b0:=cg_ N1.out (k:=0) rfl
 have b5:=cg_ DN.out (k:=5) (v := .map (some M)) rfl
 clear hb1 n1 hb2 n2 hb3 n3 hb12 hb hs hS hD hM hown hS3
 go_enter Tryz.func194,Tryz.ntmps194
 go_wp2_with fail
 refine EV.out.mono ?_
 rintro e w4 ⟨rfl,hb⟩
 go_wp2_with fail
 go_ret
 exact ⟨rfl,HB.out.trans (hb.mono HB.out.size)⟩
end Go.Proofs.LB
namespace Go.Proofs.LS
open Go.RowKit Go.Proofs.LF Go.Proofs.LB
def pk (t k:Nat):Lit := .string (keyBytes [.int .i64 t, .int .i64 k])
theorem vI_ {n:Nat} (h:n ≤ 1000):(Lit.int .i64 (n:Int)).wf = true:=by simp [Lit.wf,IntKind.min,IntKind.max,IntKind.signed,IntKind.bits];omega
theorem keyT:Tryz.prog.keyType 223 = true:=by kernel_rfl
theorem yL_:Tryz.prog.cellsOf 223 = 2:=by kernel_rfl
theorem cells3:Tryz.prog.cellsOf 3 = 1:=by kernel_rfl
theorem size_t:Tryz.prog.types.size + 1 = Tryz.prog.types.size - 1 + 2:=by kernel_rfl
theorem lawP:Maps.Keyed Tryz.prog 223:=Maps.Keyed.of_law (deep_law_laid (by kernel_rfl) (m:=3) (by omega) (of_decide_eq_true (by kernel_rfl)) (by kernel_rfl) (by kernel_rfl))
theorem keyP (t k:Nat) (ht:t ≤ 1000) (hk:k ≤ 1000):keyOf Tryz.prog 223 (.agg #[.int .i64 t, .int .i64 k]) = some (pk t k):=by
 have h1:=vI_ ht
 have h2:=vI_ hk
 have hf:(Value.agg #[.int .i64 (t:Int), .int .i64 (k:Int)]).formed Tryz.prog 223 = true:=by
  simp [Value.formed,Tryz.underlying223,yL_]
 unfold keyOf
 rw [Tryz.underlying223]
 simp only [keyT,hf,Bool.and_self,if_true,Value.cells]
 rw [size_t]
 obtain ⟨m,hm⟩:∃ m,Tryz.prog.types.size - 1 = m:=⟨_,rfl⟩
 rw [hm]
 simp [Program.keyLits,Tryz.underlying223,Tryz.underlying3,yL_,cells3,h1,h2,pk]
theorem pk_inj {t k t' k':Nat} (ht:t ≤ 1000) (hk:k ≤ 1000) (ht':t' ≤ 1000) (hk':k' ≤ 1000) (h:pk t k = pk t' k'):t = t'∧k = k':=by
 have e:=keyBytes_inj (l:=[.int .i64 t, .int .i64 k]) (l':=[.int .i64 t', .int .i64 k']) ⟨rfl,rfl,trivial⟩ (by
  intro a ha
  simp at ha
  rcases ha with rfl | rfl
  · exact vI_ ht
  · exact vI_ hk) (by
  intro a ha
  simp at ha
  rcases ha with rfl | rfl
  · exact vI_ ht'
  · exact vI_ hk') (by simpa [pk] using h)
 simp at e
 omega
def kK_ (b n:Nat) (f:Nat→Nat→Bool) (w:World):Prop:=
 ∃ D:DataW Value,w.ownsMap Tryz.prog 223 heldI b n D∧∀ t k:Nat,t ≤ 1000→k ≤ 1000→Maps.has D (pk t k) = f t k∧(f t k = true→∀ z,D.atKey (pk t k) z = .held (.bool true))
theorem kK_.made (w:World):kK_ w.heap.size 0 (fun _ _=>false) (w.alloc (.map #[] 0)):=
 ⟨_,World.ownsMap_made _ _ _ _,fun s _ _ _=>⟨by simp [Maps.has],fun h=>by cases h⟩⟩
theorem kK_.kept {b n:Nat} {f:Nat→Nat→Bool} {w w':World} (h:kK_ b n f w) (hb:w'.heap[b]? = w.heap[b]?):kK_ b n f w':=by
 obtain ⟨D,⟨es,clock,h1,h2⟩,h3⟩:=h
 exact ⟨D,⟨es,clock,hb.trans h1,h2⟩,h3⟩
theorem kK_.lt {b n:Nat} {f:Nat→Nat→Bool} {w:World} (h:kK_ b n f w):b < w.heap.size:=let ⟨_,h1,_⟩:=h;h1.lt
theorem zero4 (w:World):(zeroValue 4).run Tryz.prog w = .ok (.bool false) w:=by kernel_rfl
theorem kK_.look {b n:Nat} {f:Nat→Nat→Bool} {w:World} (h:kK_ b n f w) (t k:Nat) (ht:t ≤ 1000) (hk:k ≤ 1000):(Instr.lookup 219 (.map (some b)) (.agg #[.int .i64 t, .int .i64 k]) false).run Tryz.prog w = .ok (.bool (f t k)) w:=by
 obtain ⟨D,h1,h2⟩:=h
 obtain ⟨v,ps,hrun,hv⟩:=h1.lookup lawP Tryz.underlying219 (zd := .held (.bool false)) (zp:=[]) (zero4 w) rfl (keyP t k ht hk)
 obtain ⟨h3,h4⟩:=h2 t k ht hk
 rw [hrun]
 simp only [heldI,Option.some.injEq,Prod.mk.injEq] at hv
 cases hf:f t k with
 | false=>
   rw [hf] at h3
   rw [Maps.atKey_of_not_has h3] at hv
   have:v = .bool false:=by simpa using hv.1
   rw [this]
 | true=>
   rw [h4 hf] at hv
   have:v = .bool true:=by simpa using hv.1
   rw [this]
theorem kK_.put {b n:Nat} {f:Nat→Nat→Bool} {w:World} (h:kK_ b n f w) (t k:Nat) (ht:t ≤ 1000) (hk:k ≤ 1000) (hn:n < maxLen):∃ w',(Instr.mapUpdate 219 (.map (some b)) (.agg #[.int .i64 t, .int .i64 k]) (.bool true)).run Tryz.prog w = .ok () w'∧kK_ b (n + 1) (fun t' k'=>f t' k' || (decide (t' = t) && decide (k' = k))) w'∧w.grownBy w' (some b):=by
 obtain ⟨D,h1,h2⟩:=h
 obtain ⟨w',hrun,h3,h4⟩:=h1.update lawP Tryz.underlying219 hn (keyP t k ht hk) (val := .bool true) (d := .held (.bool true)) (ps:=[]) rfl
 refine ⟨w',hrun,⟨_,h3,fun t' k' ht' hk'=>?_⟩,h4⟩
 by_cases hq:t' = t∧k' = k
 · obtain ⟨rfl,rfl⟩:=hq
   refine ⟨by rw [Maps.has_put_same h1.isMap (by trivial)];simp,fun _ z=>?_⟩
   rw [Maps.atKey_put_same h1.isMap (by trivial)]
 · obtain ⟨h5,h6⟩:=h2 t' k' ht' hk'
   have hne:pk t' k' ≠ pk t k:=fun e=>hq (pk_inj ht' hk' ht hk e)
   have hd:(decide (t' = t) && decide (k' = k)) = false:=by
    rw [Bool.and_eq_false_iff,decide_eq_false_iff_not,decide_eq_false_iff_not]
    by_cases e:t' = t
    · exact .inr fun e2=>hq ⟨e,e2⟩
    · exact .inl e
   simp only [hd,Bool.or_false]
   refine ⟨by rw [Maps.has_put_other hne,h5],fun hu z=>?_⟩
   rw [Maps.atKey_put_other hne,h6 hu]
end Go.Proofs.LS