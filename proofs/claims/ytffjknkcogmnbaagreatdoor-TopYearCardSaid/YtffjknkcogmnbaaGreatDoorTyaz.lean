/- Parts of the proof of a law of layer 11 (file): LbS3. The conditions stand in each theorem. -/
import Derived.Test.YtffjknkcogmnbaaGreatDoorProg
import Derived.Test.YtffjknkcogmnbaaGreatDoorTyax
set_option linter.all false
set_option linter.unusedVariables false
set_option linter.unusedSimpArgs false
namespace Go.Proofs.LS
open Go.RowKit Go.Sort Go.Proofs.LF Go.Proofs.LB
set_option maxHeartbeats 4000000
set_option maxRecDepth 100000
attribute [local go_sem] q1_ q2_ q8_
theorem jK_ {S:Nat→Prop} {w:World}:∀ {ms:List Sp} {cs:List Value},LCs rdSp S w ms cs→∀ (i:Nat) (hi:i < ms.length),qB_ 2 cs i = .agg (spC ms[i])
 | [],_,_,_,hi=>by simp at hi
 | x :: ms,cs,⟨c,ds,h1,h2,h3⟩,0,_=>by
   have h2:c = (spC x).toList:=h2
   rw [h1,h2];rfl
 | x :: ms,cs,⟨c,ds,h1,h2,h3⟩,i + 1,hi=>by
   have h2:c = (spC x).toList:=h2
   have ih:=jK_ h3 i (by simpa using hi)
   rw [List.getElem_cons_succ,← ih,h1,h2]
   simp only [qB_,spC]
   have e:∀ j,(#[Value.int .i64 x.lo, .int .i64 x.hi].toList ++ ds).getD ((i + 1) * 2 + j) undef = ds.getD (i * 2 + j) undef:=fun j=>by
    rw [show (i + 1) * 2 + j = (i * 2 + j) + 2 by omega];rfl
   simp only [e]
   simp
theorem lcs_sp (S:Nat→Prop) (w:World):∀ (xs:List Sp),LCs rdSp S w xs (xs.flatMap fun x=>(spC x).toList)
 | []=>rfl
 | x :: xs=>⟨(spC x).toList,_,by rw [List.flatMap_cons],rfl,lcs_sp S w xs⟩
theorem j1_ {S:Nat→Prop} {w:World}:∀ {xs:List Sp} {cs:List Value},LCs rdSp S w xs cs→cs = xs.flatMap fun x=>(spC x).toList
 | [],_,h=>h
 | x :: xs,_,⟨c,ds,h1,h2,h3⟩=>by rw [h1,show c = _ from h2,List.flatMap_cons,j1_ h3]
theorem jQ_ {S:Nat→Prop} {w:World}:∀ {ms:List St} {cs:List Value},LCs rdSt S w ms cs→∀ (i:Nat) (hi:i < ms.length),qB_ 7 cs i = .agg (stC ms[i])
 | [],_,_,_,hi=>by simp at hi
 | x :: ms,cs,⟨c,ds,h1,h2,h3⟩,0,_=>by
   have h2:c = (stC x).toList:=h2
   rw [h1,h2];rfl
 | x :: ms,cs,⟨c,ds,h1,h2,h3⟩,i + 1,hi=>by
   have h2:c = (stC x).toList:=h2
   have ih:=jQ_ h3 i (by simpa using hi)
   rw [List.getElem_cons_succ,← ih,h1,h2]
   simp only [qB_,stC]
   have e:∀ j,(#[Value.int .i64 x.t, .int .i64 x.ll, .int .i64 x.lh, .int .i64 x.sl, .int .i64 x.sh, .int .i64 x.el, .int .i64 x.eh].toList ++ ds).getD ((i + 1) * 7 + j) undef = ds.getD (i * 7 + j) undef:=fun j=>by
    rw [show (i + 1) * 7 + j = (i * 7 + j) + 7 by omega];rfl
   simp only [e]
   simp
theorem Tryz.info35:(Tryz.prog.info? 35).map (fun i=>(i.zero,i.size,i.bytes)) = some (some (.agg #[.int .i64 0, .int .i64 0]),2,16):=by kernel_rfl
theorem clone_sp (n:Nat) (cs:List Value) (a:Option Addr) (c:Nat) (S:Nat→Prop) (w:World) (hv:SlC S w 2 (.slice a n c) n cs) (hS:∀ b,S b→b < w.heap.size) (hlen:n ≤ 1000) (h1:∀ u ∈ cs,u.oneCell' = true) :
 Calls Tryz.prog 154 #[.slice a n c] w fun e w'=>∃ v,e = .returned v∧w'.ownsRow w.heap.size 35 2 v n cs∧Below w.heap.size w w':=by
 obtain ⟨j0,hj0,hy0,hy1,hy2⟩:=info_parts Tryz.info35
 have hcaps:=SlC.caps hv
 have hlk:=hv.1
 have q65:∀ (w:World) (a:Option Addr) (n c:Nat),(binOp .eql 50 (.slice a n c) (.slice none 0 0)).run Tryz.prog w = .ok (.bool a.isNone) w:=fun w a n c=>Lib.run_eql_slice_nil w 50 35 a n c 0 0 Tryz.underlying50
 cases a with
 | none=>
   obtain ⟨h0,rfl⟩:=hcaps.2.2 rfl
   subst h0
   obtain rfl:cs = []:=List.eq_nil_of_length_eq_zero (by simpa using hlk)
   go_enter Tryz.func154,Tryz.ntmps154
   go_wp2_with fail
   go_ret
   exact ⟨_,rfl,World.ownsRow_nil _ _ _ _,Below.refl _ _⟩
 | some ad=>
   have hbel:Below w.heap.size w (w.alloc (.cells #[] 35)):=(Below.refl _ _).alloc (nl_ _) _
   have hnews:=SlC.news hv (qc_ hbel hS)
   have how:(w.alloc (.cells #[] 35)).ownsRow w.heap.size 35 2 (.slice (some ⟨w.heap.size,0,none⟩) 0 0) 0 []:=qu_ (n:=0) (cap:=0) (cur:=#[]) (nl_ _) (ha_ _ _) (by omega) (by unfold maxLen;omega) (by simp) (by simp)
   have HB:=hid hbel
   clear hbel hv
   go_enter Tryz.func154,Tryz.ntmps154
   go_wp2_with (at_builtin;go_loud (refine q9_ _ rfl _ _ _ rfl w.heap.size 35 j0 _ 2 16 Tryz.underlying50 hj0 hy0 hy1 hy2 rfl (by omega) _ 0 [] rfl how (some ad) n c _ rfl hlk (fun h=>by cases h) hnews h1 (by unfold maxLen;omega) (by omega) (by simp) ?_);intro a1 c1 w1 hown1 hgrow1 hat1)
   simp only [Nat.zero_add,List.nil_append] at hown1
   go_ret
   refine ⟨_,rfl,by simpa using hown1,HB.out.grown hgrow1 (by simp) (fun b hb=>by cases hb;exact nl_ _)⟩
def spL (x:St):List Sp:=[⟨x.ll,x.lh⟩,⟨x.sl,x.sh⟩,⟨x.el,x.eh⟩]
def qO_ (S:List St) (C:List Sp):List Sp:=C ++ S.flatMap spL
def spV (l:List Sp):List Value:=l.flatMap fun x=>(spC x).toList
theorem spV_len (l:List Sp):(spV l).length = l.length * 2:=by
 induction l with
 | nil=>rfl
 | cons x l ih=>rw [spV,List.flatMap_cons,List.length_append,show (List.flatMap (fun x=>(spC x).toList) l) = spV l from rfl,ih];simp [spC];omega
theorem spV_one (l:List Sp):∀ u ∈ spV l,u.oneCell' = true:=by
 intro u hu
 obtain ⟨x,_,h⟩:=List.mem_flatMap.1 hu
 simp [spC] at h
 rcases h with rfl | rfl <;> rfl
theorem jm_ (S:List St):(S.flatMap spL).length = 3 * S.length:=by
 induction S with
 | nil=>rfl
 | cons x S ih=>rw [List.flatMap_cons,List.length_append,ih,spL];simp;omega
theorem xT_ (S:List St) (C:List Sp) (as_ ac:Option Addr) (cs_ cc:Nat) (B:Nat→Prop) (w:World) (hs:LSl rdSt B w (.slice as_ S.length cs_) S) (hc:LSl rdSp B w (.slice ac C.length cc) C) (hB:∀ b,B b→b < w.heap.size) (h6:S.length ≤ 100) (h5:C.length ≤ 100) :
 Calls Tryz.prog 106 #[.agg #[.slice as_ S.length cs_, .slice ac C.length cc]] w fun e w'=>∃ a c,e = .returned (.slice a (qO_ S C).length c)∧w'.ownsRow w.heap.size 35 2 (.slice a (qO_ S C).length c) (qO_ S C).length (spV (qO_ S C))∧Below w.heap.size w w':=by
 obtain ⟨w1,hw1⟩:∃ w1,w.alloc (.cells #[.slice as_ S.length cs_, .slice ac C.length cc] 60) = w1:=⟨_,rfl⟩
 have hb1:Below w.heap.size w w1:=by rw [← hw1];exact (Below.refl _ _).alloc (nl_ _) _
 have hn1:w1.heap[w.heap.size]? = some (.cells #[.slice as_ S.length cs_, .slice ac C.length cc] 60 (0,0)):=by rw [← hw1];exact ha_ _ _
 obtain ⟨csC,hcc,hcl⟩:=hc
 have hce:=j1_ hcl
 have CL:=hid (clone_sp C.length csC ac cc B w1 (hcc.agree (qc_ hb1 hB)) (fun b hb=>by have:=hB b hb;have:=hb1.size;omega) (by omega) (hcl.one))
 obtain ⟨_,_,he,_,hmm,hat⟩:=LSl.at hs
 cases he
 unfold maxLen at hmm
 obtain ⟨i0,hi0,hy0,hy1,hy2⟩:=info_parts Tryz.info35
 have HAT:=hid hat
 have HB:=hid hB
 have BN:=hid hn1
 have BW:=hid hb1
 have hlt1:=(ge_ hn1).1
 have hz1n:w.heap.size ≤ w1.heap.size:=hb1.size
 obtain ⟨ba,hba⟩:∃ b,w.heap.size = b:=⟨_,rfl⟩
 have q1:=cg_ hn1 (k:=1) (v := .slice ac C.length cc) rfl
 rw [hba] at BN q1
 clear hat hB hb1 hn1 hs hcc hcl
 go_enter Tryz.func106,Tryz.ntmps106
 go_upto_region 1 with fail
 try rw [hw1]
 try simp only [hba]
 clear hw1
 go_wp2_with fail
 refine CL.out.mono ?_
 rintro e w2 ⟨v2,rfl,ho2,hb2⟩
 have hz2:=hb2.size
 have OB:=hid (show w2.ownsRow w.heap.size 35 2 v2 C.length (spV C) by rw [show spV C = csC from hce.symm];exact qF_ ho2 (fun g hg=>by have:=(ho2.lt _ hg).1;omega))
 have BN2:=hid (q0_ BN.out hb2)
 have BW2:=hid (BW.out.trans (hb2.mono BW.out.size))
 clear q1 CL ho2 hb2 BN BW hce hlt1
 have q0:=cg_ BN2.out (k:=0) (v := .slice as_ S.length cs_) rfl
 have hlb:=(ge_ BN2.out).1
 go_wp2_with fail
 go_loopw [3,12] (fun v vi wr=>∃ k:Nat,k ≤ S.length∧vi = .int .i64 k∧wr.ownsRow w.heap.size 35 2 v (C.length + 3 * k) (spV (qO_ (S.take k) C))∧Hid (Below w.heap.size w wr)) (fun _ vi _=>S.length - (intOf vi).toNat)
 case atStart=>exact ⟨0,by omega,rfl,by simpa [qO_] using OB.out,BW2.out⟩
 case round=>
  obtain ⟨k,hk,rfl,hown,hBb⟩:=hrel
  have i1:(0:Int) ≤ (k:Int):=by omega
  by_cases hlt:k < S.length
  · have hlt':(k:Int) < (S.length:Int):=by omega
    obtain ⟨g,o,cs1,rfl,hg,hc,hcell⟩:=HAT.out k hlt
    have hc:cs1 = (stC S[k]).toList:=hc
    obtain ⟨x,hx⟩:∃ x,S[k] = x:=⟨_,rfl⟩
    rw [hx] at hc
    subst hc
    have hgl:=HB.out g hg
    have e0:=hcell 0 _ rfl
    have e1:=hcell 1 _ rfl
    have e2:=hcell 2 _ rfl
    have e3:=hcell 3 _ rfl
    have e4:=hcell 4 _ rfl
    have e5:=hcell 5 _ rfl
    have e6:=hcell 6 _ rfl
    rw [Nat.add_zero] at e0
    rw [← Nat.add_assoc] at e1 e2 e3 e4 e5 e6
    have c0:=bc_ hBb.out hgl e0
    have c1:=bc_ hBb.out hgl e1
    have c2:=bc_ hBb.out hgl e2
    have c3:=bc_ hBb.out hgl e3
    have c4:=bc_ hBb.out hgl e4
    have c5:=bc_ hBb.out hgl e5
    have c6:=bc_ hBb.out hgl e6
    clear hcell e0 e1 e2 e3 e4 e5 e6
    have hszB:=hBb.out.size
    obtain ⟨w5,hw5⟩:∃ w5,wr.alloc (.cells #[.int .i64 x.t, .int .i64 x.ll, .int .i64 x.lh, .int .i64 x.sl, .int .i64 x.sh, .int .i64 x.el, .int .i64 x.eh] 72) = w5:=⟨_,rfl⟩
    have hb5:Below wr.heap.size wr w5:=by rw [← hw5];exact (Below.refl _ _).alloc (nl_ _) _
    have hn5:w5.heap[wr.heap.size]? = some (.cells #[.int .i64 x.t, .int .i64 x.ll, .int .i64 x.lh, .int .i64 x.sl, .int .i64 x.sh, .int .i64 x.el, .int .i64 x.eh] 72 (0,0)):=by rw [← hw5];exact ha_ _ _
    have r1:=cg_ hn5 (k:=1) rfl
    have r2:=cg_ hn5 (k:=2) rfl
    have r3:=cg_ hn5 (k:=3) rfl
    have r4:=cg_ hn5 (k:=4) rfl
    have r5:=cg_ hn5 (k:=5) rfl
    have r6:=cg_ hn5 (k:=6) rfl
    obtain ⟨w6,hw6⟩:∃ w6,w5.alloc (.cells #[.int .i64 x.ll, .int .i64 x.lh, .int .i64 x.sl, .int .i64 x.sh, .int .i64 x.el, .int .i64 x.eh] 35) = w6:=⟨_,rfl⟩
    have hb6:Below w5.heap.size w5 w6:=by rw [← hw6];exact (Below.refl _ _).alloc (nl_ _) _
    have hn6:w6.heap[w5.heap.size]? = some (.cells #[.int .i64 x.ll, .int .i64 x.lh, .int .i64 x.sl, .int .i64 x.sh, .int .i64 x.el, .int .i64 x.eh] 35 (0,0)):=by rw [← hw6];exact ha_ _ _
    have hnews:∀ ad,(some ⟨w5.heap.size,0,none⟩:Option Addr) = some ad→∀ (j:Nat) (u:Value),(spV (spL x))[j]? = some u→w6.cell? (ad.add j) = some u:=fun ad he j u hj=>by
     cases he
     exact World.news_of_block (w:=w6) (t:=35) (fr:=(0,0)) hn6 j u hj
    have hb56:=hb5.trans (hb6.mono hb5.size)
    have how6:=ob_ hown hb56 (nl_ _)
    have HB6:=hid (hBb.out.trans (hb56.mono hszB))
    have hz6:=hid hb56.size
    have HX:=hid hx
    clear hn5 hn6 hb5 hb6 hb56 hown hBb hx
    go_wp2_with (at_builtin;go_loud (refine q9_ _ rfl _ _ _ rfl w.heap.size 35 i0 _ 2 16 Tryz.underlying50 hi0 hy0 hy1 hy2 rfl (by omega) _ (C.length + 3 * k) (spV (qO_ (S.take k) C)) rfl how6 (some ⟨w5.heap.size,0,none⟩) 3 3 (spV (spL x)) rfl (by simp [spV_len,spL]) (fun h=>by cases h) hnews (spV_one _) (by unfold maxLen;omega) (by omega) HB6.out.size ?_);intro a7 c7 w7 hown7 hgrow7 hat7)
    have hsp:spV (qO_ (S.take k) C) ++ spV (spL x) = spV (qO_ (S.take (k + 1)) C):=by
     rw [List.take_succ_eq_append_getElem hlt,HX.out]
     simp [spV,qO_]
    rw [hsp] at hown7
    have HB7:=hid (HB6.out.grown hgrow7 HB6.out.size (fun b hb=>(how6.lt b hb).1))
    clear hat7 hgrow7 how6 hnews
    go_roundw
    case rel=>exact ⟨k + 1,by omega,by go_num,by rw [show C.length + 3 * (k + 1) = C.length + 3 * k + 3 by omega];exact hown7,HB7⟩
    case measure=>simp [intOf];omega
  · go_wp2_with fail
    go_ret
    obtain rfl:k = S.length:=by omega
    obtain ⟨a',c',rfl,_,_⟩:=owns_shape hown
    have hl:(qO_ S C).length = C.length + 3 * S.length:=by rw [qO_,List.length_append,jm_]
    rw [List.take_length,← hl] at hown
    exact ⟨a',c',by rw [hl];rfl,hown,hBb.out⟩
end Go.Proofs.LS