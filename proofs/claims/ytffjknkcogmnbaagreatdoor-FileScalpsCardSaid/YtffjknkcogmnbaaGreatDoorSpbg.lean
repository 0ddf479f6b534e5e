/- Parts of the proof of a law of layer 11 (file): LbF2. The conditions stand in each theorem. -/
import Derived.Test.YtffjknkcogmnbaaGreatDoorProg
import Derived.Test.YtffjknkcogmnbaaGreatDoorSpbf
set_option linter.all false
set_option linter.unusedVariables false
set_option linter.unusedSimpArgs false
namespace Go.Proofs.LS
open Go.RowKit Go.Sort Go.Proofs.LF Go.Proofs.LB
set_option maxHeartbeats 4000000
set_option maxRecDepth 100000
attribute [local go_sem] q1_ q2_ q6_
def x5_:List UInt8:=[115,116,114,105,112]
def layN:List UInt8:=[108,97,121]
def leftN:List UInt8:=[108,101,102,116]
def seedN:List UInt8:=[115,101,101,100,101,100]
def tenN:List UInt8:=[116,101,110,97,110,116]
def kidF (x:St):Fo := .cons layN [x.ll,x.lh] .nil (.cons leftN [x.el,x.eh] .nil (.cons seedN [x.sl,x.sh] .nil .nil))
def stF:Nat→List St→Fo
 | _,[] => .nil
 | k,x :: r => .cons x5_ [(k:Int),x.t] (kidF x) (stF (k + 1) r)
def teF:Nat→List Sp→Fo
 | _,[] => .nil
 | t,x :: r => .cons tenN [(t:Int),x.lo,x.hi] .nil (teF (t + 1) r)
def fiF (S:List St) (C:List Sp):Fo:=(stF 0 S).app (teF 0 C)
theorem yP_ (x:St):∀ (r:List St) (k:Nat),stF k (r ++ [x]) = (stF k r).app (.cons x5_ [((k + r.length:Nat):Int),x.t] (kidF x) .nil)
 | [],k=>rfl
 | y :: r,k=>by
   simp only [List.cons_append,stF,Fo.app,yP_ x r (k + 1),List.length_cons]
   rw [show k + 1 + r.length = k + (r.length + 1) by omega]
theorem yp_ (x:Sp):∀ (r:List Sp) (k:Nat),teF k (r ++ [x]) = (teF k r).app (.cons tenN [((k + r.length:Nat):Int),x.lo,x.hi] .nil .nil)
 | [],k=>rfl
 | y :: r,k=>by
   simp only [List.cons_append,teF,Fo.app,yp_ x r (k + 1),List.length_cons]
   rw [show k + 1 + r.length = k + (r.length + 1) by omega]
theorem app_assoc:∀ (a b c:Fo),(a.app b).app c = a.app (b.app c)
 | .nil,_,_=>rfl
 | .cons n l s r,b,c=>by simp only [Fo.app,app_assoc r b c]
theorem xf_:∀ (r:List St) (k:Nat),(stF k r).len = r.length
 | [],_=>rfl
 | y :: r,k=>by simp only [stF,Fo.len,List.length_cons,xf_ r]
theorem jK_:∀ (r:List Sp) (k:Nat),(teF k r).len = r.length
 | [],_=>rfl
 | y :: r,k=>by simp only [teF,Fo.len,List.length_cons,jK_ r]
def vh_ (w:World):List Obj→World
 | []=>w
 | o :: r=>vh_ (w.alloc o) r
theorem zn_:∀ (os:List Obj) (w:World),Below w.heap.size w (vh_ w os)∧(vh_ w os).heap.size = w.heap.size + os.length
 | [],w=>⟨Below.refl _ _,rfl⟩
 | o :: r,w=>by
   have h:=zn_ r (w.alloc o)
   have hb:Below w.heap.size w (w.alloc o):=(Below.refl _ _).alloc (nl_ _) _
   refine ⟨hb.trans (h.1.mono (by simp)),?_⟩
   rw [vh_,h.2];simp;omega
theorem kL_:∀ (os:List Obj) (w:World) (i:Nat) (o:Obj),os[i]? = some o→(vh_ w os).heap[w.heap.size + i]? = some o
 | [],_,_,_,h=>by simp at h
 | o :: r,w,0,o',h=>by
   obtain rfl:o = o':=by simpa using h
   exact q0_ (ha_ w o) (zn_ r (w.alloc o)).1
 | o :: r,w,i + 1,o',h=>by
   have:=kL_ r (w.alloc o) i o' (by simpa using h)
   rw [World.size_alloc] at this
   rw [show w.heap.size + (i + 1) = w.heap.size + 1 + i by omega]
   exact this
theorem app_nil:∀ (a:Fo),a.app .nil = a
 | .nil=>rfl
 | .cons n l s r=>by simp only [Fo.app,app_nil r]
def NdS (q:Nat) (v:Value) (y:Fo) (W:World):Prop:=∃ cs,W.ownsRow q 109 3 v y.len cs∧FCs (fun b=>Rg q W.heap.size b∧v.ownBlock ≠ some b) W y cs
theorem NdS.nil (q:Nat) (W:World):NdS q (.slice none 0 0) .nil W:=⟨[],World.ownsRow_nil _ _ _ _,rfl⟩
theorem NdS.below {q:Nat} {v:Value} {y:Fo} {W W':World} (h:NdS q v y W) (hb:Below W.heap.size W W'):NdS q v y W':=by
 obtain ⟨cs,h1,h2⟩:=h
 have:=hb.size
 exact ⟨cs,ob_ h1 hb (nl_ _),(h2.agree (q9_ hb fun b hb=>hb.1.2)).wide fun b hb=>⟨⟨hb.1.1,by have:=hb.1.2;omega⟩,hb.2⟩⟩
theorem NdS.fsl {q:Nat} {v:Value} {y:Fo} {W:World} (h:NdS q v y W):FSl (fun b=>b < W.heap.size) W v y:=by
 obtain ⟨cs,h1,h2⟩:=h
 exact ⟨cs,own_in h1,h2.wide fun b hb=>hb.1.2⟩
theorem NdS.push {q:Nat} {v v':Value} {y s:Fo} {W W':World} {n:List UInt8} {l:List Int} {vn vk:Value} (cs:List Value) (hf:FCs (fun b=>Rg q W.heap.size b∧v.ownBlock ≠ some b) W y cs) (hg:W.grownBy W' v.ownBlock) (ho:W'.ownsRow q 109 3 v' (y.len + 1) (cs ++ [.string (bs n),vn,vk]))
 (hi:qF_ (fun b=>Rg q W.heap.size b∧v.ownBlock ≠ some b) W vn l) (hk:FSl (fun b=>Rg q W.heap.size b∧v.ownBlock ≠ some b) W vk s) (hat:∀ g,v'.ownBlock = some g→v.ownBlock = some g ∨ g = W.heap.size):NdS q v' (y.app (.cons n l s .nil)) W':=by
 have hsz:=hg.size
 have key:∀ b,b < W.heap.size→v.ownBlock ≠ some b→v'.ownBlock ≠ some b:=fun b h1 h2 e=>by
  rcases hat b e with h | h
  · exact h2 h
  · omega
 have wd:∀ b,(Rg q W.heap.size b∧v.ownBlock ≠ some b)→(Rg q W'.heap.size b∧v'.ownBlock ≠ some b):=fun b hb=>⟨⟨hb.1.1,by have:=hb.1.2;omega⟩,key b hb.1.2 hb.2⟩
 have ag:qd_ (fun b=>Rg q W.heap.size b∧v.ownBlock ≠ some b) W W':=fun b hb=>hg.block b hb.1.2 fun e=>hb.2 e.symm
 refine ⟨_,by rw [Fo.len_app];exact ho,FCs.app ((hf.agree ag).wide wd) (FCs.one ((SlC.agree hi ag).wide wd) ?_)⟩
 obtain ⟨ds,h1,h2⟩:=hk.agree ag
 exact ⟨ds,h1.wide wd,h2.wide wd⟩
theorem xo_ {T:Nat→Prop} {W:World}:FSl T W (.slice none 0 0) .nil:=⟨[],⟨rfl,none,0,rfl,nl_ _,by simp [maxLen],fun _=>rfl, .inl rfl⟩,rfl⟩
theorem vp_ {T:Nat→Prop} {W:World} {b:Nat} {l:List Int} (h:W.heap[b]? = some (.cells (l.map (Value.int .i64)).toArray 3 (0,0))) (hT:T b) (hl:l.length ≤ 10):qF_ T W (.slice (some ⟨b,0,none⟩) l.length l.length) l:=by
 have:=qy_ (S:=T) (k:=1) (n:=l.length) h hT (by simp) (by unfold maxLen;omega)
 simpa [qF_] using this
theorem kids_in {T:Nat→Prop} {W:World} {x:St} {b2 b3 b4 b5:Nat} (h2:W.heap[b2]? = some (.cells #[.int .i64 x.ll, .int .i64 x.lh] 3 (0,0))) (h3:W.heap[b3]? = some (.cells #[.int .i64 x.el, .int .i64 x.eh] 3 (0,0))) (h4:W.heap[b4]? = some (.cells #[.int .i64 x.sl, .int .i64 x.sh] 3 (0,0)))
 (h5:W.heap[b5]? = some (.cells #[.string (bs layN), .slice (some ⟨b2,0,none⟩) 2 2, .slice none 0 0, .string (bs leftN), .slice (some ⟨b3,0,none⟩) 2 2, .slice none 0 0, .string (bs seedN), .slice (some ⟨b4,0,none⟩) 2 2, .slice none 0 0] 109 (0,0))) (hT:T b2∧T b3∧T b4∧T b5):FSl T W (.slice (some ⟨b5,0,none⟩) 3 3) (kidF x):=by
 have hs:=qy_ (S:=T) (k:=3) (n:=3) h5 hT.2.2.2 (by simp) (by simp [maxLen])
 refine ⟨_,hs,_,_,_,rfl,vp_ (l:=[x.ll,x.lh]) h2 hT.1 (by simp),xo_,_,_,_,rfl,vp_ (l:=[x.el,x.eh]) h3 hT.2.1 (by simp),xo_,_,_,_,rfl,vp_ (l:=[x.sl,x.sh]) h4 hT.2.2.1 (by simp),xo_,rfl⟩
theorem filed_any (S:List St) (C:List Sp) (as_ ac:Option Addr) (cs_ cc:Nat) (w:World) (hs:LSl v3_ (fun b=>b < w.heap.size) w (.slice as_ S.length cs_) S) (hc:LSl vO_ (fun b=>b < w.heap.size) w (.slice ac C.length cc) C) (hn:S.length ≤ 100) (hm:C.length ≤ 100) :
 Calls Tryz.prog 17 #[.agg #[.slice as_ S.length cs_, .slice ac C.length cc]] w fun e w'=>∃ a c,e = .returned (.slice a (fiF S C).len c)∧In w' (.slice a (fiF S C).len c) (fiF S C)∧Below w.heap.size w w':=by
 obtain ⟨w1,hw1⟩:∃ w1,w.alloc (.cells #[.slice as_ S.length cs_, .slice ac C.length cc] 60) = w1:=⟨_,rfl⟩
 have hb1:Below w.heap.size w w1:=by rw [← hw1];exact (Below.refl _ _).alloc (nl_ _) _
 have hn1:w1.heap[w.heap.size]? = some (.cells #[.slice as_ S.length cs_, .slice ac C.length cc] 60 (0,0)):=by rw [← hw1];exact ha_ _ _
 have c0:=cg_ hn1 (k:=0) (v := .slice as_ S.length cs_) rfl
 have HS:=hid (hs.on hb1)
 have HC:=hid (hc.on hb1)
 have HB1:=hid hb1
 have HN1:=hid hn1
 obtain ⟨i0,hi0,hy0,hy1,hy2⟩:=info_parts Tryz.info85i
 obtain ⟨q,hq⟩:∃ q,w1.heap.size = q:=⟨_,rfl⟩
 have HQ:=hid hq
 clear hs hc hb1 hn1 hq
 go_enter Tryz.func17,Tryz.ntmps17
 go_upto_region 1 with fail
 try rw [hw1]
 clear hw1
 go_wp2_with fail
 clear c0
 go_loopw [3,11] (fun vo vi wr=>∃ k:Nat,k ≤ S.length∧vi = .int .i64 k∧Hid (NdS q vo (stF 0 (S.take k)) wr)∧Hid (Below w1.heap.size w1 wr)) (fun _ vi _=>S.length - (intOf vi).toNat)
 case atStart=>exact ⟨0,by omega,rfl,hid (NdS.nil _ _),hid (Below.refl _ _)⟩
 case round=>
  obtain ⟨k,hk,rfl,HN,HB⟩:=hrel
  by_cases hlt:k < S.length
  · have hlt':(0:Int) ≤ (k:Int)∧(k:Int) < (S.length:Int):=by omega
    obtain ⟨x,hx⟩:∃ x,S[k]? = some x:=⟨S[k]'(by omega),List.getElem?_eq_getElem _⟩
    obtain ⟨g,o,rfl,hg,p0,p1,p2,p3,p4,p5,p6⟩:=st_at (HS.out.on HB.out) hx
    have HYA:=hid (show stF 0 (S.take (k + 1)) = (stF 0 (S.take k)).app (.cons x5_ [(k:Int),x.t] (kidF x) .nil) by
     rw [List.take_succ_eq_append_getElem (by omega),show S[k] = x from (List.getElem?_eq_some_iff.1 hx).2,yP_,Nat.zero_add,List.length_take,Nat.min_eq_left (by omega)])
    have HAB:=hid (zn_ [.cells #[.int .i64 x.t, .int .i64 x.ll, .int .i64 x.lh, .int .i64 x.sl, .int .i64 x.sh, .int .i64 x.el, .int .i64 x.eh] 72, .cells #[.int .i64 k, .int .i64 x.t] 3, .cells #[.int .i64 x.ll, .int .i64 x.lh] 3, .cells #[.int .i64 x.el, .int .i64 x.eh] 3, .cells #[.int .i64 x.sl, .int .i64 x.sh] 3, .cells #[.string ⟨#[108,97,121]⟩, .slice (some ⟨wr.heap.size + 1 + 1,0,none⟩) 2 2, .slice none 0 0, .string ⟨#[108,101,102,116]⟩, .slice (some ⟨wr.heap.size + 1 + 1 + 1,0,none⟩) 2 2, .slice none 0 0, .string ⟨#[115,101,101,100,101,100]⟩, .slice (some ⟨wr.heap.size + 1 + 1 + 1 + 1,0,none⟩) 2 2, .slice none 0 0] 109, .cells #[.string ⟨#[115,116,114,105,112]⟩, .slice (some ⟨wr.heap.size + 1,0,none⟩) 2 2, .slice (some ⟨wr.heap.size + 1 + 1 + 1 + 1 + 1,0,none⟩) 3 3] 109] wr)
    have HAG:=hid (kL_ [.cells #[.int .i64 x.t, .int .i64 x.ll, .int .i64 x.lh, .int .i64 x.sl, .int .i64 x.sh, .int .i64 x.el, .int .i64 x.eh] 72, .cells #[.int .i64 k, .int .i64 x.t] 3, .cells #[.int .i64 x.ll, .int .i64 x.lh] 3, .cells #[.int .i64 x.el, .int .i64 x.eh] 3, .cells #[.int .i64 x.sl, .int .i64 x.sh] 3, .cells #[.string ⟨#[108,97,121]⟩, .slice (some ⟨wr.heap.size + 1 + 1,0,none⟩) 2 2, .slice none 0 0, .string ⟨#[108,101,102,116]⟩, .slice (some ⟨wr.heap.size + 1 + 1 + 1,0,none⟩) 2 2, .slice none 0 0, .string ⟨#[115,101,101,100,101,100]⟩, .slice (some ⟨wr.heap.size + 1 + 1 + 1 + 1,0,none⟩) 2 2, .slice none 0 0] 109, .cells #[.string ⟨#[115,116,114,105,112]⟩, .slice (some ⟨wr.heap.size + 1,0,none⟩) 2 2, .slice (some ⟨wr.heap.size + 1 + 1 + 1 + 1 + 1,0,none⟩) 3 3] 109] wr)
    obtain ⟨W7,hW7⟩:∃ W,(((((((wr.alloc (.cells #[.int .i64 x.t, .int .i64 x.ll, .int .i64 x.lh, .int .i64 x.sl, .int .i64 x.sh, .int .i64 x.el, .int .i64 x.eh] 72)).alloc (.cells #[.int .i64 k, .int .i64 x.t] 3)).alloc (.cells #[.int .i64 x.ll, .int .i64 x.lh] 3)).alloc (.cells #[.int .i64 x.el, .int .i64 x.eh] 3)).alloc (.cells #[.int .i64 x.sl, .int .i64 x.sh] 3)).alloc (.cells #[.string ⟨#[108,97,121]⟩, .slice (some ⟨wr.heap.size + 1 + 1,0,none⟩) 2 2, .slice none 0 0, .string ⟨#[108,101,102,116]⟩, .slice (some ⟨wr.heap.size + 1 + 1 + 1,0,none⟩) 2 2, .slice none 0 0, .string ⟨#[115,101,101,100,101,100]⟩, .slice (some ⟨wr.heap.size + 1 + 1 + 1 + 1,0,none⟩) 2 2, .slice none 0 0] 109)).alloc (.cells #[.string ⟨#[115,116,114,105,112]⟩, .slice (some ⟨wr.heap.size + 1,0,none⟩) 2 2, .slice (some ⟨wr.heap.size + 1 + 1 + 1 + 1 + 1,0,none⟩) 3 3] 109)) = W:=⟨_,rfl⟩
    rw [show vh_ wr [.cells #[.int .i64 x.t, .int .i64 x.ll, .int .i64 x.lh, .int .i64 x.sl, .int .i64 x.sh, .int .i64 x.el, .int .i64 x.eh] 72, .cells #[.int .i64 k, .int .i64 x.t] 3, .cells #[.int .i64 x.ll, .int .i64 x.lh] 3, .cells #[.int .i64 x.el, .int .i64 x.eh] 3, .cells #[.int .i64 x.sl, .int .i64 x.sh] 3, .cells #[.string ⟨#[108,97,121]⟩, .slice (some ⟨wr.heap.size + 1 + 1,0,none⟩) 2 2, .slice none 0 0, .string ⟨#[108,101,102,116]⟩, .slice (some ⟨wr.heap.size + 1 + 1 + 1,0,none⟩) 2 2, .slice none 0 0, .string ⟨#[115,101,101,100,101,100]⟩, .slice (some ⟨wr.heap.size + 1 + 1 + 1 + 1,0,none⟩) 2 2, .slice none 0 0] 109, .cells #[.string ⟨#[115,116,114,105,112]⟩, .slice (some ⟨wr.heap.size + 1,0,none⟩) 2 2, .slice (some ⟨wr.heap.size + 1 + 1 + 1 + 1 + 1,0,none⟩) 3 3] 109] = W7 from hW7] at HAB HAG
    have n1:W7.heap[wr.heap.size + 1]? = some (.cells #[.int .i64 k, .int .i64 x.t] 3):=HAG.out 1 _ rfl
    have n2:W7.heap[wr.heap.size + 1 + 1]? = some (.cells #[.int .i64 x.ll, .int .i64 x.lh] 3):=HAG.out 2 _ rfl
    have n3:W7.heap[wr.heap.size + 1 + 1 + 1]? = some (.cells #[.int .i64 x.el, .int .i64 x.eh] 3):=HAG.out 3 _ rfl
    have n4:W7.heap[wr.heap.size + 1 + 1 + 1 + 1]? = some (.cells #[.int .i64 x.sl, .int .i64 x.sh] 3):=HAG.out 4 _ rfl
    have n5:W7.heap[wr.heap.size + 1 + 1 + 1 + 1 + 1]? = some (.cells #[.string ⟨#[108,97,121]⟩, .slice (some ⟨wr.heap.size + 1 + 1,0,none⟩) 2 2, .slice none 0 0, .string ⟨#[108,101,102,116]⟩, .slice (some ⟨wr.heap.size + 1 + 1 + 1,0,none⟩) 2 2, .slice none 0 0, .string ⟨#[115,101,101,100,101,100]⟩, .slice (some ⟨wr.heap.size + 1 + 1 + 1 + 1,0,none⟩) 2 2, .slice none 0 0] 109):=HAG.out 5 _ rfl
    have n6:W7.heap[wr.heap.size + 1 + 1 + 1 + 1 + 1 + 1]? = some (.cells #[.string ⟨#[115,116,114,105,112]⟩, .slice (some ⟨wr.heap.size + 1,0,none⟩) 2 2, .slice (some ⟨wr.heap.size + 1 + 1 + 1 + 1 + 1,0,none⟩) 3 3] 109):=HAG.out 6 _ rfl
    obtain ⟨cs,hown,hfc⟩:=HN.out.below HAB.out.1
    have hsz7:W7.heap.size = wr.heap.size + 7:=HAB.out.2
    obtain ⟨sa,sc,rfl,hsc1,hsc2⟩:=owns_shape hown
    have hyl:(stF 0 (S.take k)).len = k:=by rw [xf_,List.length_take,Nat.min_eq_left (by omega)]
    rw [hyl] at hown
    have HFC:=hid hfc
    have HOW:=hid hown
    have hnb:∀ b,wr.heap.size ≤ b→(Value.slice sa ((stF 0 (S.take k)).len) sc).ownBlock ≠ some b:=fun b hb e=>by
     obtain ⟨cs2,h2,_⟩:=HN.out
     have:=(h2.lt b e).2;omega
    have HNB:=hid hnb
    have hin:IntKind.i64.wrap ((k:Int) + 1) = (k:Int) + 1:=IntWalk.i64_in _ (by omega)
    have HB7:=hid (HB.out.trans (HAB.out.1.mono HB.out.size))
    have hqw:q ≤ W7.heap.size:=by have:=HB7.out.size;have:=HQ.out;omega
    have hqw0:q ≤ wr.heap.size:=by have:=HB.out.size;have:=HQ.out;omega
    have hnw:∀ ad,some (⟨wr.heap.size + 1 + 1 + 1 + 1 + 1 + 1,0,none⟩:Addr) = some ad→∀ (j:Nat) (u:Value),[.string ⟨#[115,116,114,105,112]⟩, .slice (some ⟨wr.heap.size + 1,0,none⟩) 2 2, .slice (some ⟨wr.heap.size + 1 + 1 + 1 + 1 + 1,0,none⟩) 3 3][j]? = some u→W7.cell? (ad.add j) = some u:=fun ad had=>by cases had;exact fun j u hj=>World.news_of_block (cs:=#[.string ⟨#[115,116,114,105,112]⟩, .slice (some ⟨wr.heap.size + 1,0,none⟩) 2 2, .slice (some ⟨wr.heap.size + 1 + 1 + 1 + 1 + 1,0,none⟩) 3 3]) (t:=109) (fr:=(0,0)) n6 j u (by simpa using hj)
    simp only [hyl]
    clear hown hfc hnb HAB hx
    go_wp2_with (at_builtin;(try rw [hW7]);go_loud (refine q5_ _ rfl _ _ _ rfl q 109 i0 _ 3 64 Tryz.underlying38 hi0 hy0 hy1 hy2 rfl (by omega) _ k cs rfl HOW.out (some ⟨wr.heap.size + 1 + 1 + 1 + 1 + 1 + 1,0,none⟩) 1 1 [.string ⟨#[115,116,114,105,112]⟩, .slice (some ⟨wr.heap.size + 1,0,none⟩) 2 2, .slice (some ⟨wr.heap.size + 1 + 1 + 1 + 1 + 1,0,none⟩) 3 3] rfl rfl (fun h=>by cases h) hnw (by simp [Value.oneCell']) (by unfold maxLen;omega) (by omega) hqw ?_);intro a8 c8 x8 ho8 hg8 hat8)
    have hsz8:=hg8.size
    have HN8:=hid (show NdS q (.slice a8 (k + 1) c8) (stF 0 (S.take (k + 1))) x8 from by
     rw [HYA.out]
     refine NdS.push cs HFC.out (by rw [hyl];exact hg8) (by rw [hyl];exact ho8) (vp_ (l:=[(k:Int),x.t]) n1 ⟨⟨by omega,by omega⟩,HNB.out _ (by omega)⟩ (by simp)) (kids_in n2 n3 n4 n5 ⟨⟨⟨by omega,by omega⟩,HNB.out _ (by omega)⟩,⟨⟨by omega,by omega⟩,HNB.out _ (by omega)⟩,⟨⟨by omega,by omega⟩,HNB.out _ (by omega)⟩,⟨⟨by omega,by omega⟩,HNB.out _ (by omega)⟩⟩) (by rw [hyl];exact hat8))
    have HB8:=hid (HB7.out.grown hg8 (by have:=HB7.out.size;omega) (fun b hb=>by have:=(HOW.out.lt b hb).1;have:=HQ.out;omega))
    clear ho8 hg8 hat8
    go_roundw
    case rel=>exact ⟨k + 1,by omega,by go_num,HN8,HB8⟩
    case measure=>simp [intOf];omega
  · have hkk:k = S.length:=by omega
    have hnl:¬ (k:Int) < (S.length:Int):=by omega
    have c1:=cg_ (q0_ HN1.out HB.out) (k:=1) (v := .slice ac C.length cc) rfl
    have HNS:=hid (show NdS q u3 ((stF 0 S).app (teF 0 (C.take 0))) wr from by
     have h:=HN.out
     rw [hkk,List.take_length] at h
     rw [List.take_zero,show teF 0 ([]:List Sp) = .nil from rfl,app_nil]
     exact h)
    have HB0:=HB
    clear hkk HN HB
    go_wp2_with fail
    clear c1
    go_loopw [3,53] (fun vo vi wr=>∃ k:Nat,k ≤ C.length∧vi = .int .i64 k∧Hid (NdS q vo ((stF 0 S).app (teF 0 (C.take k))) wr)∧Hid (Below w1.heap.size w1 wr)) (fun _ vi _=>C.length - (intOf vi).toNat)
    case atStart=>exact ⟨0,by omega,rfl,HNS,HB0⟩
    case round=>
     clear HNS HB0
     obtain ⟨k,hk,rfl,HN,HB⟩:=hrel
     by_cases hlt:k < C.length
     · have hlt':(0:Int) ≤ (k:Int)∧(k:Int) < (C.length:Int):=by omega
       obtain ⟨x,hx⟩:∃ x,C[k]? = some x:=⟨C[k]'(by omega),List.getElem?_eq_getElem _⟩
       obtain ⟨g,o,rfl,hg,p0,p1⟩:=sp_at (HC.out.on HB.out) hx
       have HYA:=hid (show (stF 0 S).app (teF 0 (C.take (k + 1))) = ((stF 0 S).app (teF 0 (C.take k))).app (.cons tenN [(k:Int),x.lo,x.hi] .nil .nil) by
        rw [List.take_succ_eq_append_getElem (by omega),show C[k] = x from (List.getElem?_eq_some_iff.1 hx).2,yp_,Nat.zero_add,List.length_take,Nat.min_eq_left (by omega),← app_assoc])
       have HAB:=hid (zn_ [.cells #[.int .i64 x.lo, .int .i64 x.hi] 35, .cells #[.int .i64 k, .int .i64 x.lo, .int .i64 x.hi] 3, .cells #[.string ⟨#[116,101,110,97,110,116]⟩, .slice (some ⟨wr.heap.size + 1,0,none⟩) 3 3, .slice none 0 0] 109] wr)
       have HAG:=hid (kL_ [.cells #[.int .i64 x.lo, .int .i64 x.hi] 35, .cells #[.int .i64 k, .int .i64 x.lo, .int .i64 x.hi] 3, .cells #[.string ⟨#[116,101,110,97,110,116]⟩, .slice (some ⟨wr.heap.size + 1,0,none⟩) 3 3, .slice none 0 0] 109] wr)
       obtain ⟨W7,hW7⟩:∃ W,(((wr.alloc (.cells #[.int .i64 x.lo, .int .i64 x.hi] 35)).alloc (.cells #[.int .i64 k, .int .i64 x.lo, .int .i64 x.hi] 3)).alloc (.cells #[.string ⟨#[116,101,110,97,110,116]⟩, .slice (some ⟨wr.heap.size + 1,0,none⟩) 3 3, .slice none 0 0] 109)) = W:=⟨_,rfl⟩
       rw [show vh_ wr [.cells #[.int .i64 x.lo, .int .i64 x.hi] 35, .cells #[.int .i64 k, .int .i64 x.lo, .int .i64 x.hi] 3, .cells #[.string ⟨#[116,101,110,97,110,116]⟩, .slice (some ⟨wr.heap.size + 1,0,none⟩) 3 3, .slice none 0 0] 109] = W7 from hW7] at HAB HAG
       have n1:W7.heap[wr.heap.size + 1]? = some (.cells #[.int .i64 k, .int .i64 x.lo, .int .i64 x.hi] 3):=HAG.out 1 _ rfl
       have n2:W7.heap[wr.heap.size + 1 + 1]? = some (.cells #[.string ⟨#[116,101,110,97,110,116]⟩, .slice (some ⟨wr.heap.size + 1,0,none⟩) 3 3, .slice none 0 0] 109):=HAG.out 2 _ rfl
       obtain ⟨cs,hown,hfc⟩:=HN.out.below HAB.out.1
       have hsz7:W7.heap.size = wr.heap.size + 3:=HAB.out.2
       obtain ⟨sa,sc,rfl,hsc1,hsc2⟩:=owns_shape hown
       have hyl:((stF 0 S).app (teF 0 (C.take k))).len = (S.length + k):=by rw [Fo.len_app,xf_,jK_,List.length_take,Nat.min_eq_left (by omega)]
       rw [hyl] at hown
       have HFC:=hid hfc
       have HOW:=hid hown
       have hnb:∀ b,wr.heap.size ≤ b→(Value.slice sa (((stF 0 S).app (teF 0 (C.take k))).len) sc).ownBlock ≠ some b:=fun b hb e=>by
        obtain ⟨cs2,h2,_⟩:=HN.out
        have:=(h2.lt b e).2;omega
       have HNB:=hid hnb
       have hin:IntKind.i64.wrap ((k:Int) + 1) = (k:Int) + 1:=IntWalk.i64_in _ (by omega)
       have HB7:=hid (HB.out.trans (HAB.out.1.mono HB.out.size))
       have hqw:q ≤ W7.heap.size:=by have:=HB7.out.size;have:=HQ.out;omega
       have hqw0:q ≤ wr.heap.size:=by have:=HB.out.size;have:=HQ.out;omega
       have hnw:∀ ad,some (⟨wr.heap.size + 1 + 1,0,none⟩:Addr) = some ad→∀ (j:Nat) (u:Value),[.string ⟨#[116,101,110,97,110,116]⟩, .slice (some ⟨wr.heap.size + 1,0,none⟩) 3 3, .slice none 0 0][j]? = some u→W7.cell? (ad.add j) = some u:=fun ad had=>by cases had;exact fun j u hj=>World.news_of_block (cs:=#[.string ⟨#[116,101,110,97,110,116]⟩, .slice (some ⟨wr.heap.size + 1,0,none⟩) 3 3, .slice none 0 0]) (t:=109) (fr:=(0,0)) n2 j u (by simpa using hj)
       simp only [hyl]
       clear hown hfc hnb HAB hx
       go_wp2_with (at_builtin;(try rw [hW7]);go_loud (refine q5_ _ rfl _ _ _ rfl q 109 i0 _ 3 64 Tryz.underlying38 hi0 hy0 hy1 hy2 rfl (by omega) _ (S.length + k) cs rfl HOW.out (some ⟨wr.heap.size + 1 + 1,0,none⟩) 1 1 [.string ⟨#[116,101,110,97,110,116]⟩, .slice (some ⟨wr.heap.size + 1,0,none⟩) 3 3, .slice none 0 0] rfl rfl (fun h=>by cases h) hnw (by simp [Value.oneCell']) (by unfold maxLen;omega) (by omega) hqw ?_);intro a8 c8 x8 ho8 hg8 hat8)
       have hsz8:=hg8.size
       have HN8:=hid (show NdS q (.slice a8 ((S.length + k) + 1) c8) ((stF 0 S).app (teF 0 (C.take (k + 1)))) x8 from by
        rw [HYA.out]
        refine NdS.push cs HFC.out (by rw [hyl];exact hg8) (by rw [hyl];exact ho8) (vp_ (l:=[(k:Int),x.lo,x.hi]) n1 ⟨⟨by omega,by omega⟩,HNB.out _ (by omega)⟩ (by simp)) xo_ (by rw [hyl];exact hat8))
       have HB8:=hid (HB7.out.grown hg8 (by have:=HB7.out.size;omega) (fun b hb=>by have:=(HOW.out.lt b hb).1;have:=HQ.out;omega))
       clear ho8 hg8 hat8
       go_roundw
       case rel=>exact ⟨k + 1,by omega,by go_num,HN8,HB8⟩
       case measure=>simp [intOf];omega
     · have hkk:k = C.length:=by omega
       have hnl:¬ (k:Int) < (C.length:Int):=by omega
       have HNS:=hid (show NdS q u3 (fiF S C) wr from by
        have h:=HN.out
        rw [hkk,List.take_length] at h
        exact h)
       obtain ⟨a,c,rfl,_,_⟩:∃ a c,u3 = .slice a (fiF S C).len c∧True∧True:=by
        obtain ⟨cs,h,_⟩:=HNS.out
        obtain ⟨a,c,h,_,_⟩:=owns_shape h
        exact ⟨a,c,h,trivial,trivial⟩
       have HBz:=hid (HB1.out.trans (HB.out.mono HB1.out.size))
       clear hkk HN HB
       go_wp2_with fail
       go_ret
       exact ⟨a,c,rfl,HNS.out.fsl,HBz.out⟩
end Go.Proofs.LS