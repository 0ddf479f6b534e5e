/- Parts of the proof of a law of layer 11 (file): LbT8r, LbT8s, LbT9. The conditions stand in each theorem. -/
import Derived.Test.YtffjknkcogmnbaaGreatDoorProg
import Derived.Test.YtffjknkcogmnbaaGreatDoorTyaa
import Derived.Test.YtffjknkcogmnbaaGreatDoorTyac
import Derived.Test.YtffjknkcogmnbaaGreatDoorTyae
import Derived.Test.YtffjknkcogmnbaaGreatDoorTyag
import Derived.Test.YtffjknkcogmnbaaGreatDoorTyah
import Derived.Test.YtffjknkcogmnbaaGreatDoorTyai
import Derived.Test.YtffjknkcogmnbaaGreatDoorTyaj
import Derived.Test.YtffjknkcogmnbaaGreatDoorTyak
import Derived.Test.YtffjknkcogmnbaaGreatDoorTyal
import Derived.Test.YtffjknkcogmnbaaGreatDoorTyam
import Derived.Test.YtffjknkcogmnbaaGreatDoorTyan
import Derived.Test.YtffjknkcogmnbaaGreatDoorTyap
import Derived.Test.YtffjknkcogmnbaaGreatDoorTyaq
import Derived.Test.YtffjknkcogmnbaaGreatDoorTyar
import Derived.Test.YtffjknkcogmnbaaGreatDoorTyas
import Derived.Test.YtffjknkcogmnbaaGreatDoorTyat
import Derived.Test.YtffjknkcogmnbaaGreatDoorTyau
import Derived.Test.YtffjknkcogmnbaaGreatDoorTyav
import Derived.Test.YtffjknkcogmnbaaGreatDoorTyaw
import Derived.Test.YtffjknkcogmnbaaGreatDoorTyax
import Derived.Test.YtffjknkcogmnbaaGreatDoorTybo
import Derived.Test.YtffjknkcogmnbaaGreatDoorTybp
import Derived.Test.YtffjknkcogmnbaaGreatDoorTybr
import Derived.Test.YtffjknkcogmnbaaGreatDoorTybs
set_option linter.all false
set_option linter.unusedVariables false
set_option linter.unusedSimpArgs false
namespace Go.Proofs.LB
open Go.RowKit Go.Sort Go.Proofs.LF Go.Proofs.LS
set_option maxHeartbeats 4000000
set_option maxRecDepth 100000
attribute [local go_sem] q1_ q2_ q8_
structure Rw4 (B:Nat) (v1 v2 v3 v4:Value) (n1 n2 n3 n4:Nat) (l1 l2 l3 l4:List Value) (W:World):Prop where
 o1:W.ownsRow B 37 3 v1 n1 l1
 o2:W.ownsRow B 3 1 v2 n2 l2
 o3:W.ownsRow B 3 1 v3 n3 l3
 o4:W.ownsRow B 3 1 v4 n4 l4
 d12:∀ g,v1.ownBlock = some g→v2.ownBlock ≠ some g
 d13:∀ g,v1.ownBlock = some g→v3.ownBlock ≠ some g
 d14:∀ g,v1.ownBlock = some g→v4.ownBlock ≠ some g
 d23:∀ g,v2.ownBlock = some g→v3.ownBlock ≠ some g
 d24:∀ g,v2.ownBlock = some g→v4.ownBlock ≠ some g
 d34:∀ g,v3.ownBlock = some g→v4.ownBlock ≠ some g
theorem Rw4.below {B:Nat} {v1 v2 v3 v4:Value} {n1 n2 n3 n4:Nat} {l1 l2 l3 l4:List Value} {W W':World} (h:Rw4 B v1 v2 v3 v4 n1 n2 n3 n4 l1 l2 l3 l4 W) (hb:Below W.heap.size W W'):Rw4 B v1 v2 v3 v4 n1 n2 n3 n4 l1 l2 l3 l4 W':=
 ⟨ob_ h.o1 hb (nl_ _),ob_ h.o2 hb (nl_ _),ob_ h.o3 hb (nl_ _),ob_ h.o4 hb (nl_ _),h.d12,h.d13,h.d14,h.d23,h.d24,h.d34⟩
theorem Rw4.keep {B:Nat} {v1 v2 v3 v4:Value} {n1 n2 n3 n4:Nat} {l1 l2 l3 l4:List Value} {W W':World} {bq:Nat} (h:Rw4 B v1 v2 v3 v4 n1 n2 n3 n4 l1 l2 l3 l4 W) (hk:Keep (· = bq) W W') (hq:bq < B):Rw4 B v1 v2 v3 v4 n1 n2 n3 n4 l1 l2 l3 l4 W':=
 ⟨q3_ h.o1 fun g hg=>hk.block g (h.o1.lt g hg).2 (by have:=(h.o1.lt g hg).1;omega),q3_ h.o2 fun g hg=>hk.block g (h.o2.lt g hg).2 (by have:=(h.o2.lt g hg).1;omega),q3_ h.o3 fun g hg=>hk.block g (h.o3.lt g hg).2 (by have:=(h.o3.lt g hg).1;omega),q3_ h.o4 fun g hg=>hk.block g (h.o4.lt g hg).2 (by have:=(h.o4.lt g hg).1;omega),h.d12,h.d13,h.d14,h.d23,h.d24,h.d34⟩
theorem Rw4.app1 {B:Nat} {v1 v2 v3 v4:Value} {n1 n2 n3 n4:Nat} {l1 l2 l3 l4:List Value} {W W':World} {v':Value} {n':Nat} {l':List Value} (h:Rw4 B v1 v2 v3 v4 n1 n2 n3 n4 l1 l2 l3 l4 W) (ho:W'.ownsRow B 37 3 v' n' l') (hg:W.grownBy W' v1.ownBlock) (hat:∀ g,v'.ownBlock = some g→v1.ownBlock = some g ∨ g = W.heap.size):Rw4 B v' v2 v3 v4 n' n2 n3 n4 l' l2 l3 l4 W':=by
 exact ⟨ho,q3_ h.o2 fun g hg'=>hg.block g (h.o2.lt g hg').2 (fun e=>h.d12 g e.symm hg'),q3_ h.o3 fun g hg'=>hg.block g (h.o3.lt g hg').2 (fun e=>h.d13 g e.symm hg'),q3_ h.o4 fun g hg'=>hg.block g (h.o4.lt g hg').2 (fun e=>h.d14 g e.symm hg'),fun g hg' e=>by
  rcases hat g hg' with e1 | e1
  · exact h.d12 g e1 e
  · have:=(h.o2.lt g e).2;omega,fun g hg' e=>by
  rcases hat g hg' with e1 | e1
  · exact h.d13 g e1 e
  · have:=(h.o3.lt g e).2;omega,fun g hg' e=>by
  rcases hat g hg' with e1 | e1
  · exact h.d14 g e1 e
  · have:=(h.o4.lt g e).2;omega,h.d23,h.d24,h.d34⟩
theorem Rw4.app3 {B:Nat} {v1 v2 v3 v4:Value} {n1 n2 n3 n4:Nat} {l1 l2 l3 l4:List Value} {W W':World} {v':Value} {n':Nat} {l':List Value} (h:Rw4 B v1 v2 v3 v4 n1 n2 n3 n4 l1 l2 l3 l4 W) (ho:W'.ownsRow B 3 1 v' n' l') (hg:W.grownBy W' v3.ownBlock) (hat:∀ g,v'.ownBlock = some g→v3.ownBlock = some g ∨ g = W.heap.size):Rw4 B v1 v2 v' v4 n1 n2 n' n4 l1 l2 l' l4 W':=by
 exact ⟨q3_ h.o1 fun g hg'=>hg.block g (h.o1.lt g hg').2 (fun e=>h.d13 g hg' e.symm),q3_ h.o2 fun g hg'=>hg.block g (h.o2.lt g hg').2 (fun e=>h.d23 g hg' e.symm),ho,q3_ h.o4 fun g hg'=>hg.block g (h.o4.lt g hg').2 (fun e=>h.d34 g e.symm hg'),h.d12,fun g hg' e=>by
  rcases hat g e with e1 | e1
  · exact h.d13 g hg' e1
  · have:=(h.o1.lt g hg').2;omega,h.d14,fun g hg' e=>by
  rcases hat g e with e1 | e1
  · exact h.d23 g hg' e1
  · have:=(h.o2.lt g hg').2;omega,h.d24,fun g hg' e=>by
  rcases hat g hg' with e1 | e1
  · exact h.d34 g e1 e
  · have:=(h.o4.lt g e).2;omega⟩
theorem Rw4.app4 {B:Nat} {v1 v2 v3 v4:Value} {n1 n2 n3 n4:Nat} {l1 l2 l3 l4:List Value} {W W':World} {v':Value} {n':Nat} {l':List Value} (h:Rw4 B v1 v2 v3 v4 n1 n2 n3 n4 l1 l2 l3 l4 W) (ho:W'.ownsRow B 3 1 v' n' l') (hg:W.grownBy W' v4.ownBlock) (hat:∀ g,v'.ownBlock = some g→v4.ownBlock = some g ∨ g = W.heap.size):Rw4 B v1 v2 v3 v' n1 n2 n3 n' l1 l2 l3 l' W':=by
 exact ⟨q3_ h.o1 fun g hg'=>hg.block g (h.o1.lt g hg').2 (fun e=>h.d14 g hg' e.symm),q3_ h.o2 fun g hg'=>hg.block g (h.o2.lt g hg').2 (fun e=>h.d24 g hg' e.symm),q3_ h.o3 fun g hg'=>hg.block g (h.o3.lt g hg').2 (fun e=>h.d34 g hg' e.symm),ho,h.d12,h.d13,fun g hg' e=>by
  rcases hat g e with e1 | e1
  · exact h.d14 g hg' e1
  · have:=(h.o1.lt g hg').2;omega,h.d23,fun g hg' e=>by
  rcases hat g e with e1 | e1
  · exact h.d24 g hg' e1
  · have:=(h.o2.lt g hg').2;omega,fun g hg' e=>by
  rcases hat g e with e1 | e1
  · exact h.d34 g hg' e1
  · have:=(h.o3.lt g hg').2;omega⟩
theorem Rw4.three {B:Nat} {v1 v2 v3 v4:Value} {n1 n2 n3 n4:Nat} {l1 l2 l3 l4:List Value} {W W':World} {x2 x3 x4:Value} {m2 m3 m4:Nat} {k2 k3 k4:List Value} (h:Rw4 B v1 v2 v3 v4 n1 n2 n3 n4 l1 l2 l3 l4 W) (hb:Below W.heap.size W W') (h2:W'.ownsRow W.heap.size 3 1 x2 m2 k2) (h3:W'.ownsRow W.heap.size 3 1 x3 m3 k3) (h4:W'.ownsRow W.heap.size 3 1 x4 m4 k4) (hB:B ≤ W.heap.size)
 (e23:∀ g,x2.ownBlock = some g→x3.ownBlock ≠ some g) (e24:∀ g,x2.ownBlock = some g→x4.ownBlock ≠ some g) (e34:∀ g,x3.ownBlock = some g→x4.ownBlock ≠ some g):Rw4 B v1 x2 x3 x4 n1 m2 m3 m4 l1 k2 k3 k4 W':=by
 have key:∀ (x:Value) (m:Nat) (k:List Value),W'.ownsRow W.heap.size 3 1 x m k→W'.ownsRow B 3 1 x m k∧∀ g,v1.ownBlock = some g→x.ownBlock ≠ some g:=fun x m k hx=>
  ⟨qF_ hx (fun g hg=>by have:=(hx.lt g hg).1;omega),fun g hg e=>by have:=(hx.lt g e).1;have:=(h.o1.lt g hg).2;omega⟩
 exact ⟨ob_ h.o1 hb (nl_ _),(key _ _ _ h2).1,(key _ _ _ h3).1,(key _ _ _ h4).1,(key _ _ _ h2).2,(key _ _ _ h3).2,(key _ _ _ h4).2,e23,e24,e34⟩
theorem xN_ {k n:Nat} {v:Value} {cs:List Value} {W W':World} (h:SlC (fun q=>q < W.heap.size) W k v n cs) (hb:Below W.heap.size W W'):SlC (fun q=>q < W'.heap.size) W' k v n cs:=
 (h.agree (qc_ hb fun _ e=>e)).wide fun q e=>by have:=hb.size;omega
theorem zZ_ {B e k n:Nat} {v:Value} {cs:List Value} {W:World} (h:W.ownsRow B e k v n cs):SlC (fun q=>q < W.heap.size) W k v n cs:=(SlC.of_owns h).wide fun _ e=>e.2
theorem lcs_su {S:Nat→Prop} {W:World}:∀ l:List Su,LCs vQ_ S W l (suL l)
 | []=>rfl
 | x :: l=>⟨(suC x).toList,suL l,rfl,rfl,lcs_su l⟩
theorem lcs_mo {S:Nat→Prop} {W:World}:∀ l:List Mo,LCs yn_ S W l (l.flatMap fun x=>(moC x).toList)
 | []=>rfl
 | x :: l=>⟨(moC x).toList,l.flatMap fun x=>(moC x).toList,rfl,rfl,lcs_mo l⟩
theorem own_su {B:Nat} {v:Value} {l:List Su} {W:World} (h:W.ownsRow B 37 3 v l.length (suL l)):LSl vQ_ (fun q=>q < W.heap.size) W v l:=⟨_,zZ_ h,lcs_su l⟩
theorem own_mo {B:Nat} {v:Value} {l:List Mo} {W:World} (h:W.ownsRow B 79 6 v l.length (l.flatMap fun x=>(moC x).toList)):LSl yn_ (fun q=>q < W.heap.size) W v l:=⟨_,zZ_ h,lcs_mo l⟩
theorem Rw4.init {B:Nat} {v1 v2 v3 v4:Value} {n1 n2 n3 n4:Nat} {l1 l2 l3 l4:List Value} {W:World} (h:Rw4 B v1 v2 v3 v4 n1 n2 n3 n4 l1 l2 l3 l4 W) (hB:B ≤ W.heap.size):Below W.heap.size W (((W.alloc (.cells #[.int .i64 0] 3)).alloc (.cells #[.int .i64 0] 3)).alloc (.cells #[.int .i64 0] 3))∧Rw4 B v1 (.slice (some ⟨W.heap.size,0,none⟩) 1 1) (.slice (some ⟨W.heap.size + 1,0,none⟩) 1 1) (.slice (some ⟨W.heap.size + 1 + 1,0,none⟩) 1 1) n1 1 1 1 l1 (iv [0]) (iv [0]) (iv [0]) (((W.alloc (.cells #[.int .i64 0] 3)).alloc (.cells #[.int .i64 0] 3)).alloc (.cells #[.int .i64 0] 3)):=by
 have hb:Below W.heap.size W (((W.alloc (.cells #[.int .i64 0] 3)).alloc (.cells #[.int .i64 0] 3)).alloc (.cells #[.int .i64 0] 3)):=(((Below.refl _ _).alloc (nl_ _) _).alloc (by simp) _).alloc (by simp;omega) _
 obtain ⟨w1,hw1⟩:∃ x,W.alloc (.cells #[.int .i64 0] 3) = x:=⟨_,rfl⟩
 have a1:w1.heap[W.heap.size]? = some (.cells #[.int .i64 0] 3 (0,0)):=by rw [← hw1];exact ha_ _ _
 have z1:w1.heap.size = W.heap.size + 1:=by rw [← hw1];simp
 rw [hw1] at hb ⊢
 obtain ⟨w2,hw2⟩:∃ x,w1.alloc (.cells #[.int .i64 0] 3) = x:=⟨_,rfl⟩
 have b2:Below w1.heap.size w1 w2:=by rw [← hw2];exact (Below.refl _ _).alloc (nl_ _) _
 have a2:w2.heap[w1.heap.size]? = some (.cells #[.int .i64 0] 3 (0,0)):=by rw [← hw2];exact ha_ _ _
 have z2:w2.heap.size = w1.heap.size + 1:=by rw [← hw2];simp
 rw [hw2] at hb ⊢
 obtain ⟨w3,hw3⟩:∃ x,w2.alloc (.cells #[.int .i64 0] 3) = x:=⟨_,rfl⟩
 have b3:Below w2.heap.size w2 w3:=by rw [← hw3];exact (Below.refl _ _).alloc (nl_ _) _
 have a3:w3.heap[w2.heap.size]? = some (.cells #[.int .i64 0] 3 (0,0)):=by rw [← hw3];exact ha_ _ _
 rw [hw3] at hb ⊢
 have r1:=q0_ (q0_ a1 b2) b3
 have r2:=q0_ a2 b3
 rw [z1] at r2
 rw [z2,z1] at a3
 refine ⟨hb,h.three hb (qu_ (cur:=#[.int .i64 0]) (nl_ _) r1 (nl_ _) (by simp [maxLen]) rfl rfl) (qu_ (cur:=#[.int .i64 0]) (by omega) r2 (nl_ _) (by simp [maxLen]) rfl rfl) (qu_ (cur:=#[.int .i64 0]) (by omega) a3 (nl_ _) (by simp [maxLen]) rfl rfl) hB ?_ ?_ ?_⟩
 · intro g e1 e2
   have h1:W.heap.size = g:=Option.some.inj e1
   have h2:W.heap.size + 1 = g:=Option.some.inj e2
   omega
 · intro g e1 e2
   have h1:W.heap.size = g:=Option.some.inj e1
   have h2:W.heap.size + 1 + 1 = g:=Option.some.inj e2
   omega
 · intro g e1 e2
   have h1:W.heap.size + 1 = g:=Option.some.inj e1
   have h2:W.heap.size + 1 + 1 = g:=Option.some.inj e2
   omega
structure TyW (w:World) (rn fi uns:Int) (ms:List Mo) (am:Option Addr) (cm b7 b8 gr or_ ct:Nat) (rs:List Int) (l:List Su) (al:Option Addr) (cl:Nat) (o a b:List Nat) (vo va vb:Value) (W:World):Prop where
 bw:Below w.heap.size w W
 pw:Pow W
 c7:W.heap[b7]? = some (.cells (z7_ rn fi uns (.slice am ms.length cm) (.slice none 0 0)) 26 (0,0))
 c8:W.heap[b8]? = some (.cells #[.slice (some ⟨gr,or_,none⟩) rs.length ct] 27 (0,0))
 hm:LSl yn_ (fun q=>q < W.heap.size) W (.slice am ms.length cm) ms
 gl:gr < W.heap.size
 re:∀ j u,(rs.map (Value.int .i64))[j]? = some u→W.cell? ⟨gr,or_ + j,none⟩ = some u
 hl:LSl vQ_ (fun q=>q < W.heap.size) W (.slice al l.length cl) l
 io:SlC (fun q=>q < W.heap.size) W 1 vo o.length (iv o)
 ia:SlC (fun q=>q < W.heap.size) W 1 va a.length (iv a)
 ib:SlC (fun q=>q < W.heap.size) W 1 vb b.length (iv b)
theorem TyW.on {w:World} {rn fi uns:Int} {ms:List Mo} {am:Option Addr} {cm b7 b8 gr or_ ct:Nat} {rs:List Int} {l:List Su} {al:Option Addr} {cl:Nat} {o a b:List Nat} {vo va vb:Value} {W W':World} (h:TyW w rn fi uns ms am cm b7 b8 gr or_ ct rs l al cl o a b vo va vb W) (hb:Below W.heap.size W W'):TyW w rn fi uns ms am cm b7 b8 gr or_ ct rs l al cl o a b vo va vb W':=
 ⟨h.bw.trans (hb.mono h.bw.size),h.pw.below hb,q0_ h.c7 hb,q0_ h.c8 hb,h.hm.on hb,by have:=h.gl;have:=hb.size;omega,fun j u hj=>bc_ hb h.gl (h.re j u hj),h.hl.on hb,xN_ h.io hb,xN_ h.ia hb,xN_ h.ib hb⟩
structure YrT (l:List Su) (n:Nat) (Y:Fo) (T:List UInt8):Prop where
 y:qy_ l (List.range n) = Y
 ln:Y.len = n
 cn:Y.cnt = n
 sm:Y.Sm
 ck:qS_ Y = 0
 tx:kt_ (qa_ [] Y) = T
 tl:T.length ≤ 100000
 pr:(prs T).2 = (0,0,0)
 py:wn_ T = Y
 q:∃ L:List (Int × Su),surQ L = Y∧L.length = n∧L.map Prod.snd = l
theorem yrT {l:List Su} {n:Nat} (h:l.length = n) (hk:qS_ (qy_ l (List.range n)) = 0):∃ Y T,YrT l n Y T:=by
 have hp:=prs_txt hk
 refine ⟨_,_,rfl,by rw [qK_,List.length_range],by rw [zQ_,List.length_range],v6_ _ _,hk,rfl,txt_bd hk,by rw [hp],?_,_,(surF_Q l _).symm,by simp,by rw [← h];exact vC_ l⟩
 unfold wn_
 rw [hp,if_pos rfl]
 show (treF 0 (flsL [] (qy_ l (List.range n)))).1 = _
 rw [zR_,x5_]
theorem sur_c {l:List Su} {al:Option Addr} {cl:Nat} {W:World} (hl:LSl vQ_ (fun q=>q < W.heap.size) W (.slice al l.length cl) l) (hn:l.length ≤ 100) {ids:List Nat} {ai:Option Addr} {ci:Nat} (hi:SlC (fun q=>q < W.heap.size) W 1 (.slice ai ids.length ci) ids.length (iv ids)) (hd:∀ i ∈ ids,i < l.length) (hin:ids.length ≤ 100) :
 Calls Tryz.prog 9 #[.slice al l.length cl, .slice ai ids.length ci] W fun e w'=>∃ a c,e = .returned (.slice a ids.length c)∧In w' (.slice a ids.length c) (qy_ l ids)∧Below W.heap.size W w':=
 (jH_ l ids al ai cl ci _ _ W hl (fun _ e=>e) hi (fun _ e=>e) hd hin (by omega)).mono fun _ _ ⟨a,c,h1,h2,h3⟩=>⟨a,c,h1,h2.wide fun _ e=>e.2,h3⟩
theorem join_c {l:List Su} {o a b:List Nat} {n:Nat} {Y:Fo} {T:List UInt8} (hY:YrT l n Y T) (hs:Spl n o a b) (hn:n ≤ 60) (hk:∀ i,i < n→zd_ (j5_ l i) = false) {W:World} {ax ay az:Option Addr} {cx cy cz:Nat} (hx:In W (.slice ax o.length cx) (qy_ l o)) (hy:In W (.slice ay a.length cy) (qy_ l a)) (hz:In W (.slice az b.length cz) (qy_ l b)) (ht:Pow W) :
 Calls Tryz.prog 8 #[.slice ax o.length cx, .slice ay a.length cy, .slice az b.length cz] W fun e w'=>∃ a c a' c',e = .returned (.tuple #[.slice a n c, .slice a' 0 c', .int .i64 0])∧In w' (.slice a n c) Y∧Below W.heap.size W w':=by
 obtain ⟨j0,j1,j2,j3⟩:=join_sur hs.po hs.pa hs.pb hn (by have:=hs.lo;omega) (by have:=hs.la;omega) (by have:=hs.lb;omega) hk hs.m hs.oo
 have h1:=hs.lo
 have h2:=hs.la
 have h3:=hs.lb
 have h:=Join_u (qy_ l o) (qy_ l a) (qy_ l b) ax ay az cx cy cz (fun q=>q < W.heap.size) W (by rw [qK_];exact hx) (by rw [qK_];exact hy) (by rw [qK_];exact hz) (fun _ e=>e) ⟨by rw [qK_];omega,v6_ _ _,by rw [zQ_];omega⟩ ⟨by rw [qK_];omega,v6_ _ _,by rw [zQ_];omega⟩ ⟨by rw [qK_];omega,v6_ _ _,by rw [zQ_];omega⟩ ht
 rw [qK_,qK_,qK_] at h
 refine h.mono fun e w' hj=>?_
 obtain ⟨a,c,a',c',he,hf,hp,hb⟩:=hj
 rw [j1,j2,j3,hY.y] at he
 rw [j2,hY.y] at hf
 rw [hY.ln] at he hf
 exact ⟨a,c,a',c',he,(FSlU.fsl hf).wide fun _ e=>e.2,hb⟩
theorem print_c {l:List Su} {n:Nat} {Y:Fo} {T:List UInt8} (hY:YrT l n Y T) (hn:n ≤ 60) {W:World} {a:Option Addr} {c:Nat} (hv:In W (.slice a n c) Y) (ht:Pow W) :
 Calls Tryz.prog 10 #[.slice a n c] W fun e w'=>e = .returned (.tuple #[.string (bs T), .int .i64 0])∧Below W.heap.size W w':=by
 have h:=xJ_ Y a c (fun q=>q < W.heap.size) W (by rw [hY.ln];exact hv) (fun _ e=>e) (by rw [hY.ln];omega) hY.sm (by rw [hY.cn];omega) ht
 rw [hY.ck,if_pos rfl,hY.tx,hY.ln] at h
 exact h
theorem parse_c {l:List Su} {n:Nat} {Y:Fo} {T:List UInt8} (hY:YrT l n Y T) (W:World) :
 Calls Tryz.prog 11 #[.string (bs T)] W fun e w'=>∃ a c,e = .returned (.tuple #[.slice a n c, .int .i64 0, .int .i64 0, .int .i64 0])∧In w' (.slice a n c) Y∧Below W.heap.size W w':=by
 refine (Parse_any T W hY.tl).mono fun e w' ⟨a,c,h1,h2,h3⟩=>⟨a,c,?_,?_,h3⟩
 · rw [h1,hY.pr,hY.py,hY.ln];rfl
 · rw [hY.py,hY.ln] at h2
   exact h2.wide fun _ e=>e.2
theorem read_c {l:List Su} {n:Nat} {Y:Fo} {T:List UInt8} (hY:YrT l n Y T) (hn:n ≤ 60) (hl:l.length = n) {W:World} {a:Option Addr} {c:Nat} (hv:In W (.slice a n c) Y) :
 Calls Tryz.prog 12 #[.slice a n c] W fun e w'=>∃ a c,e = .returned (.tuple #[.slice a n c, .bool true])∧LSl vQ_ (fun q=>q < w'.heap.size) w' (.slice a n c) l∧Below W.heap.size W w':=by
 obtain ⟨L,h1,h2,h3⟩:=hY.q
 subst h2
 refine (kR_ L a c (fun q=>q < W.heap.size) W (by rw [h1];exact hv) (fun _ e=>e) (by omega)).mono fun e w' ⟨v,e1,e2,e3⟩=>?_
 obtain ⟨a',c',rfl,_,_⟩:=owns_shape e2
 rw [h3,← hl] at e2
 have h:=own_su e2
 rw [hl] at h
 exact ⟨a',c',e1,h,e3⟩
theorem some_c {l:List Su} {ids:List Nat} (hi:ids.length ≤ 100) {W:World} {a:Option Addr} {c:Nat} (hv:In W (.slice a ids.length c) (qy_ l ids)) :
 Calls Tryz.prog 12 #[.slice a ids.length c] W fun e w'=>∃ a c,e = .returned (.tuple #[.slice a ids.length c, .bool true])∧LSl vQ_ (fun q=>q < w'.heap.size) w' (.slice a ids.length c) (ids.map fun i=>l.getD i ⟨0,0,0⟩)∧Below W.heap.size W w':=by
 obtain ⟨L,hL⟩:∃ L,(ids.map fun i:Nat=>((i:Int),l.getD i ⟨0,0,0⟩)) = L:=⟨_,rfl⟩
 have hll:L.length = ids.length:=by rw [← hL];simp
 have hlm:L.map Prod.snd = ids.map fun i=>l.getD i ⟨0,0,0⟩:=by rw [← hL,List.map_map];rfl
 have hq:=surF_Q l ids
 rw [hL] at hq
 rw [hq] at hv
 rw [← hll] at hv hi ⊢
 refine (kR_ L a c (fun q=>q < W.heap.size) W hv (fun _ e=>e) hi).mono fun e w' ⟨v,e1,e2,e3⟩=>?_
 obtain ⟨a',c',rfl,_,_⟩:=owns_shape e2
 rw [hlm] at e2
 have hll2:L.length = (ids.map fun i=>l.getD i ⟨0,0,0⟩).length:=by simp [hll]
 rw [hll2] at e2 e1 ⊢
 exact ⟨a',c',e1,own_su e2,e3⟩
theorem bnd_c {w:World} {rn fi uns:Int} {ms:List Mo} {am:Option Addr} {cm b7 b8 gr or_ ct:Nat} {rs:List Int} {l:List Su} {al:Option Addr} {cl:Nat} {o a b:List Nat} {vo va vb:Value} {W:World} (h:TyW w rn fi uns ms am cm b7 b8 gr or_ ct rs l al cl o a b vo va vb W)
 (hr:2 ≤ rn∧rn ≤ 30) (hf:0 ≤ fi∧fi ≤ rn) (hu:0 ≤ uns∧uns ≤ 4) (hml:1 ≤ ms.length∧ms.length ≤ 4) (hmo:∀ x ∈ ms,OkMo rn x) (hre:RealL rn [] ms rs) (h0:∀ n,rs[0]? = some n→fi - uns ≤ n∧n ≤ fi + uns) (hrl:rs.length = ms.length + 1) {ss:List Su} (hss:∀ s ∈ ss,SuR rn ms.length rs s) (hsl:ss.length ≤ 8) {as_:Option Addr} {cs_:Nat} (hs:LSl vQ_ (fun q=>q < W.heap.size) W (.slice as_ ss.length cs_) ss) :
 Calls Tryz.prog 13 #[.slice as_ ss.length cs_, .pointer (some ⟨b7,0,none⟩), .pointer (some ⟨b8,0,none⟩)] W fun e w'=>∃ a c,e = .returned (.tuple #[.slice a (ms.length + 1) c, .bool true])∧SlC (fun q=>q < w'.heap.size) w' 2 (.slice a (ms.length + 1) c) (ms.length + 1) (spV (bndL rn ss ms (fi - uns) (fi + uns)))∧Below W.heap.size W w':=by
 have c8:=h.c8
 rw [hrl] at c8
 exact (year1_any rn fi uns ms ss am as_ _ cm cs_ ct b7 b8 _ W h.hm hs (fun _ e=>e) ⟨by omega,by omega,hsl,hf,by omega,hmo,fun s e=>(hss s e).1⟩ (row_ne (by omega) hmo (yw_ hre hss) h0) h.c7 c8).mono fun _ _ ⟨a,c,h1,h2,h3⟩=>⟨a,c,h1,zZ_ h2,h3⟩
theorem bndL_at {room:Int} {ss:List Su} {ms:List Mo} {lo hi:Int} {m:Nat} (h:m ≤ ms.length):(spV (bndL room ss ms lo hi))[m * 2]? = some (.int .i64 (bndF (rowF room ss ms lo hi m)).lo)∧(spV (bndL room ss ms lo hi))[m * 2 + 1]? = some (.int .i64 (bndF (rowF room ss ms lo hi m)).hi):=by
 have key:∀ (L:List Sp) (i:Nat) (x:Sp),L[i]? = some x→(spV L)[i * 2]? = some (.int .i64 x.lo)∧(spV L)[i * 2 + 1]? = some (.int .i64 x.hi):=by
  intro L
  induction L with
  | nil=>intro i x hx;simp at hx
  | cons y r ih=>
    intro i x hx
    cases i with
    | zero=>
      obtain rfl:y = x:=by simpa using hx
      exact ⟨rfl,rfl⟩
    | succ i=>
      have h2:=ih i x (by simpa using hx)
      rw [show (i + 1) * 2 = i * 2 + 2 by omega,show i * 2 + 2 + 1 = i * 2 + 1 + 2 by omega]
      exact h2
 refine key _ _ _ ?_
 unfold bndL
 rw [List.getElem?_map,List.getElem?_range (by omega)]
 rfl
theorem su_at {W:World} {a:Option Addr} {n c:Nat} {l:List Su} (h:LSl vQ_ (fun q=>q < W.heap.size) W (.slice a n c) l) {k:Nat} {s:Su} (hs:l[k]? = some s):∃ g o,a = some ⟨g,o,none⟩∧g < W.heap.size∧W.cell? ⟨g,o + k * 3,none⟩ = some (.int .i64 s.m)∧W.cell? ⟨g,o + k * 3 + 1,none⟩ = some (.int .i64 s.lo)∧W.cell? ⟨g,o + k * 3 + 2,none⟩ = some (.int .i64 s.hi):=by
 obtain ⟨hk,rfl⟩:=List.getElem?_eq_some_iff.1 hs
 obtain ⟨a',c',he,_,_,hat⟩:=LSl.at h
 obtain ⟨g,o,cs,e1,e2,e3,e4⟩:=hat k hk
 have e5:cs = (suC l[k]).toList:=e3
 subst e5
 obtain ⟨rfl,_,_⟩:a = a'∧n = l.length∧c = c':=by simpa using he
 exact ⟨g,o,e1,e2,by simpa using e4 0 _ rfl,by simpa [Nat.add_assoc] using e4 1 _ rfl,by simpa [Nat.add_assoc] using e4 2 _ rfl⟩
theorem TopYear_any (ln lq:List Int) (an as_:Option Addr) (cn cs_:Nat) (wh:Int) (S:Nat→Prop) (w:World) (hn:Byt S w (.slice an ln.length cn) ln) (hs:Byt S w (.slice as_ lq.length cs_) lq) (hS:∀ q,S q→q < w.heap.size) (ht:Pow w) :
 Calls Tryz.prog 3 #[.slice an ln.length cn, .slice as_ lq.length cs_, .int .u8 wh] w fun e w'=>e = .returned (.bool true)∧Below w.heap.size w w':=by
 have PI:=hid (yd_ an ln cn S w hn hS)
 have HQB:=hid hs
 have HS:=hid hS
 have HT:=hid ht
 obtain ⟨bp,hbp⟩:∃ x,w.heap.size = x:=⟨_,rfl⟩
 have HBP:=hid hbp
 rw [hbp] at PI
 clear hn hs hS ht hbp
 go_enter Tryz.func3,Tryz.ntmps3
 go_wp2_with fail
 refine PI.out.mono ?_
 rintro e w1 ⟨rfl,hp1,hz1,hb1⟩
 have MD:=hid (yT_ bp S w1 hp1 (fun q h=>by have:=HS.out q h;have:=HBP.out;omega))
 have HB1:=hid hb1
 have HZ1:=hid hz1
 clear PI hp1 hz1 hb1
 go_wp2_with fail
 refine MD.out.mono ?_
 rintro e w2 ⟨rn,fi,uns,ms,rs,am,cm,at_,ct,vc,rfl,hrn,hfi,hun,hml,hmo,hre,h0,hom,hor,hp2,hk2⟩
 have HMO:=hid hmo
 have HRE:=hid hre
 have H00:=hid h0
 have HRL:=hid hre.len
 have hrlb:1 ≤ rs.length∧rs.length ≤ 5:=by have:=HRL.out;omega
 have HB2:=hid (show Below bp w w2 from HB1.out.trans (hk2.below (by have:=HZ1.out;omega) (fun b hb e=>by omega)))
 have HM2:=hid (own_mo hom)
 obtain ⟨gr,or_,rfl,hgr,_,_,hcr⟩:=SlC.cells (zZ_ hor) (by omega)
 have HCR:=hid hcr
 have HGR:=hid hgr
 have HT2:=hid (HT.out.below (HBP.out ▸ HB2.out))
 clear MD HB1 hmo hre h0 hom hor hp2 hk2 HT hcr hgr
 simp only [z7_]
 go_upto_region 3 with fail
 obtain ⟨w3,hw3⟩:∃ x,((w2.alloc (.cells #[.int .i64 rn, .int .i64 fi, .int .i64 uns, .slice am ms.length cm, .slice none 0 0] 26)).alloc (.cells #[.slice (some ⟨gr,or_,none⟩) rs.length ct] 27)) = x:=⟨_,rfl⟩
 have hb3:Below w2.heap.size w2 w3:=by rw [← hw3];exact (((Below.refl _ _).alloc (nl_ _) _).alloc (by simp) _)
 have h7:w3.heap[w2.heap.size]? = some (.cells (z7_ rn fi uns (.slice am ms.length cm) (.slice none 0 0)) 26 (0,0)):=by rw [← hw3];exact qb_ _ (ha_ _ _)
 have h8:w3.heap[w2.heap.size + 1]? = some (.cells #[.slice (some ⟨gr,or_,none⟩) rs.length ct] 27 (0,0)):=by rw [← hw3];exact (by have:=ha_ (w2.alloc (.cells #[.int .i64 rn, .int .i64 fi, .int .i64 uns, .slice am ms.length cm, .slice none 0 0] 26)) (.cells #[.slice (some ⟨gr,or_,none⟩) rs.length ct] 27);simpa using this)
 have hz3:w3.heap.size = w2.heap.size + 1 + 1:=by rw [← hw3];simp [World.setCell]
 obtain ⟨b7,hb7⟩:∃ x,w2.heap.size = x:=⟨_,rfl⟩
 obtain ⟨b8,hb8⟩:∃ x,w2.heap.size + 1 = x:=⟨_,rfl⟩
 rw [hw3]
 rw [hb8] at h8
 rw [hb7] at h7
 try simp only [hb8]
 try simp only [hb7]
 have H7:=hid h7
 have H8:=hid h8
 have HB3:=hid (HB2.out.trans (hb3.mono (by have:=HB2.out.size;have:=HBP.out;omega)))
 have HM3:=hid (HM2.out.on hb3)
 have HT3:=hid (HT2.out.below hb3)
 have HCR3:=hid (fun j u hj=>bc_ hb3 HGR.out (HCR.out j u hj))
 have hgr3:gr < w3.heap.size:=by have:=HGR.out;omega
 have hbp3:bp ≤ w3.heap.size:=by have:=HB3.out.size;have:=HBP.out;omega
 have PQ:=hid (yd_ as_ lq cs_ S w3 (SlC.agree HQB.out (qc_ (HBP.out ▸ HB3.out) (fun q h=>HS.out q h))) (fun q h=>by have:=HS.out q h;have:=HBP.out;omega))
 obtain ⟨bq,hbq⟩:∃ x,w3.heap.size = x:=⟨_,rfl⟩
 have hb7l:b7 < bq:=by omega
 have hb8l:b8 < bq:=by omega
 rw [hbq] at PQ hgr3 hbp3
 have HBQ:=hid hbq
 clear h7 h8 hz3 hb3 HM2 HT2 HCR HQB hw3 hb7 hb8 hbq HB2
 go_wp2_with fail
 refine PQ.out.mono ?_
 rintro e w4 ⟨rfl,hp4,hz4,hb4⟩
 have UQ:=hid (qD_ bq S w4 6 (by omega) hp4)
 have HB4:=hid (show Below bq w3 w4 from HBQ.out ▸ hb4)
 have hbq4:bq < w4.heap.size:=by omega
 clear PQ hp4 hz4 hb4
 go_wp2_with fail
 refine UQ.out.mono ?_
 rintro e w5 ⟨n,rfl,hn6,hp5,hk5⟩
 have HK5:=hid (show Below bq w3 w5 from HB4.out.trans (hk5.below (by omega) (fun b hb e=>by omega)))
 have hbq5:bq < w5.heap.size:=by have:=hk5.size;omega
 have HP5:=hid hp5
 clear UQ HB4 hp5 hk5 hbq4
 go_wp2_with fail
 go_loopw [11,12,13,14,52] (fun vl v2 v3 v4 vi wr=>∃ (i:Nat) (l:List Su) (o a b:List Nat),i ≤ n∧vi = .int .i64 i∧l.length = i∧Hid (∀ s ∈ l,SuR rn ms.length rs s)∧Hid (Spl i o a b)∧Hid (Hp bq S wr)∧Hid (Keep (· = bq) w5 wr)∧Hid (Rw4 w5.heap.size vl v2 v3 v4 l.length o.length a.length b.length (suL l) (iv o) (iv a) (iv b) wr)) (fun _ _ _ _ vi _=>n - (intOf vi).toNat)
 case atStart=>exact ⟨0,[],[],[],[],by omega,rfl,rfl,hid (fun s hs=>by cases hs),hid Spl.zero,HP5,hid (Keep.refl _ _),hid ⟨World.ownsRow_nil _ _ _ _,World.ownsRow_nil _ _ _ _,World.ownsRow_nil _ _ _ _,World.ownsRow_nil _ _ _ _,(fun g h=>by cases h),(fun g h=>by cases h),(fun g h=>by cases h),(fun g h=>by cases h),(fun g h=>by cases h),(fun g h=>by cases h)⟩⟩
 case round=>
  obtain ⟨i,l,o,a,b,hi,rfl,hll,HSR,HSP,HPW,HKW,HRW⟩:=hrel
  have HLL:=hid hll
  have hlb:l.length ≤ 6:=by omega
  clear hll
  obtain ⟨al,cl,rfl,_,_⟩:=owns_shape HRW.out.o1
  obtain ⟨ao,co,rfl,_,_⟩:=owns_shape HRW.out.o2
  obtain ⟨aa,ca,rfl,_,_⟩:=owns_shape HRW.out.o3
  obtain ⟨ab,cb,rfl,_,_⟩:=owns_shape HRW.out.o4
  have SC:=hid (fun (W:World) (h:Keep (· = bq) w5 W)=>show W.cell? ⟨b8,0,none⟩ = some (.slice (some ⟨gr,or_,none⟩) rs.length ct)∧W.cell? ⟨b7,0,none⟩ = some (.int .i64 rn)∧∀ j u,(rs.map (Value.int .i64))[j]? = some u→W.cell? ⟨gr,or_ + j,none⟩ = some u from by
   have hb:Below bq w3 W:=HK5.out.trans (h.below (by omega) (fun b hb e=>by omega))
   refine ⟨(World.cell?_of_block (a:=⟨b8,0,none⟩) (hb.block b8 hb8l)).trans (cg_ H8.out (k:=0) rfl),(World.cell?_of_block (a:=⟨b7,0,none⟩) (hb.block b7 hb7l)).trans (cg_ H7.out (k:=0) rfl),fun j u hj=>(World.cell?_of_block (a:=⟨gr,or_ + j,none⟩) (hb.block gr hgr3)).trans (HCR3.out j u hj)⟩)
  by_cases hlt:i < n
  · have hlt':(i:Int) < (n:Int):=by omega
    have c8:=(SC.out wr HKW.out).1
    have hsu:IntKind.i64.wrap ((rs.length:Int) - 1) = (ms.length:Int):=by rw [HRL.out,show ((ms.length + 1:Nat):Int) - 1 = (ms.length:Int) by omega];exact IntWalk.i64_in _ (by omega)
    have UM:=hid (qD_ bq S wr ms.length (by omega) HPW.out)
    go_wp2_with fail
    refine UM.out.mono ?_
    rintro e x1 ⟨m,rfl,hm,hp1,hk1⟩
    have HK1:=hid (HKW.out.trans hk1)
    have HR1:=hid (HRW.out.keep hk1 (by omega))
    have U1:=hid (qD_ bq S x1 4 (by omega) hp1)
    obtain ⟨rm,hrm⟩:∃ z,rs[m]? = some z:=⟨rs[m]'(by have:=HRL.out;omega),List.getElem?_eq_getElem _⟩
    have hrb:=(HRE.out.ok m rm hrm).1
    have HRM:=hid hrm
    have hrv:(rs.map (Value.int .i64))[m]? = some (.int .i64 rm):=by simp [hrm]
    have S1:=hid (fun (W:World) (h:Keep (· = bq) w5 W)=>show W.cell? ⟨b8,0,none⟩ = some (.slice (some ⟨gr,or_,none⟩) rs.length ct)∧W.cell? ⟨b7,0,none⟩ = some (.int .i64 rn)∧W.cell? ⟨gr,or_ + m,none⟩ = some (.int .i64 rm) from ⟨(SC.out W h).1,(SC.out W h).2.1,(SC.out W h).2.2 m _ hrv⟩)
    have hm0:(0:Int) ≤ (m:Int)∧(m:Int) < (rs.length:Int):=by have:=HRL.out;omega
    have HPX:=hid hp1
    have hbqx:bq < x1.heap.size:=by have:=HK1.out.size;omega
    clear UM hp1 hk1 HKW HRW c8 hrm hrv hsu HPW
    go_upto_region 10 with fail
    obtain ⟨x2,hx2⟩:∃ y,x1.drew = y:=⟨_,rfl⟩
    have hbd:Below x1.heap.size x1 x2:=by rw [← hx2];exact (Below.refl _ _).drew
    replace U1:=hid (qD_ bq S x2 4 (by omega) (HPX.out.below hbqx (fun q h=>by have:=HS.out q h;have:=HBP.out;omega) hbd))
    replace HK1:=hid (HK1.out.trans (Keep.of_below hbd))
    replace HR1:=hid (HR1.out.below hbd)
    refine (wpIn_wide (n:=9)).1 ?_
    refine q6_ (fun W:World=>W.cell? ⟨b8,0,none⟩ = some (.slice (some ⟨gr,or_,none⟩) rs.length ct)∧W.cell? ⟨b7,0,none⟩ = some (.int .i64 rn)∧W.cell? ⟨gr,or_ + m,none⟩ = some (.int .i64 rm)) (by kernel_rfl) ?_
    rw [hx2]
    have hS0:=S1.out x2 HK1.out
    clear hx2 hbd
    refine tkZ 0 60 (.slice al l.length cl) rfl rfl hS0 ?_
    refine tkZ 1 61 (.int .i64 m) rfl rfl hS0 ?_
    refine tkZ 2 62 (.slice (some ⟨gr,or_,none⟩) rs.length ct) rfl rfl hS0 ?_
    refine tkZ 3 63 (.int .i64 m) rfl rfl hS0 ?_
    refine tkZ 4 64 (.pointer (some ⟨gr,or_ + m,none⟩)) rfl rfl hS0 ?_
    refine tkZ 5 65 (.int .i64 rm) rfl rfl hS0 ?_
    refine tkZ 6 66 (.pointer (some ⟨bq,0,none⟩)) rfl rfl hS0 ?_
    refine tkZ 10 70 (.pointer (some ⟨b7,0,none⟩)) rfl rfl hS0 ?_
    refine tkZ 11 71 (.int .i64 rn) rfl rfl hS0 ?_
    refine tkZ 12 72 (.slice (some ⟨gr,or_,none⟩) rs.length ct) rfl rfl hS0 ?_
    refine tkZ 13 73 (.int .i64 m) rfl rfl hS0 ?_
    refine tkZ 14 74 (.pointer (some ⟨gr,or_ + m,none⟩)) rfl rfl hS0 ?_
    refine tkZ 15 75 (.int .i64 rm) rfl rfl hS0 ?_
    refine tkZ 16 76 (.pointer (some ⟨bq,0,none⟩)) rfl rfl hS0 ?_
    clear hS0
    refine aHO 7 rfl fun K hK=>?_
    go_simp
    refine ⟨trivial,(callsIn_wide.2 U1.out).mono ?_⟩
    rintro e x3 ⟨u1,rfl,hu1,hp3,hk3⟩
    have HK3:=hid (HK1.out.trans hk3)
    have HR3:=hid (HR1.out.keep hk3 (by omega))
    have U2:=hid (qD_ bq S x3 4 (by omega) hp3)
    have hS1:=S1.out x3 HK3.out
    refine hK _ _ ⟨hS1,?_⟩
    clear hK U1 HK1 HR1 hp3 hk3
    have hs1:IntKind.i64.wrap (rm - (u1:Int)) = rm - (u1:Int):=IntWalk.i64_in _ (by omega)
    refine tkY 8 68 (.int .i64 (rm - (u1:Int))) rfl rfl hS1 (fun w' hs=>?_) ?_
    · go_simp
    refine tkY 9 69 (.int .i64 (max 0 (rm - (u1:Int)))) rfl rfl hS1 (fun w' hs=>?_) ?_
    · go_simp
    clear hS1
    refine aHO 17 rfl fun K hK=>?_
    go_simp
    refine ⟨trivial,(callsIn_wide.2 U2.out).mono ?_⟩
    rintro e x4 ⟨u2,rfl,hu2,hp4,hk4⟩
    have HK4:=hid (HK3.out.trans hk4)
    have HR4:=hid (HR3.out.keep hk4 (by omega))
    have HP4:=hid hp4
    have hS1:=S1.out x4 HK4.out
    refine hK _ _ ⟨hS1,?_⟩
    clear hK U2 HK3 HR3 hp4 hk4
    have hs2:IntKind.i64.wrap (rm + (u2:Int)) = rm + (u2:Int):=IntWalk.i64_in _ (by omega)
    obtain ⟨slo,hslo⟩:∃ z:Int,max 0 (rm - (u1:Int)) = z:=⟨_,rfl⟩
    obtain ⟨shi,hshi⟩:∃ z:Int,min rn (rm + (u2:Int)) = z:=⟨_,rfl⟩
    rw [hslo]
    refine tkY 18 78 (.int .i64 (rm + (u2:Int))) rfl rfl hS1 (fun w' hs=>?_) ?_
    · go_simp
    refine tkY 19 79 (.int .i64 shi) rfl rfl hS1 (fun w' hs=>?_) ?_
    · go_simp
      try rw [hshi]
    refine tkY 20 80 (.agg #[.int .i64 slo, .int .i64 shi]) rfl rfl hS1 (fun w' hs=>?_) ?_
    · go_simp
    refine tkY 21 81 (.agg #[.int .i64 m, .int .i64 slo, .int .i64 shi]) rfl rfl hS1 (fun w' hs=>?_) ?_
    · go_simp
    have hsu:SuR rn ms.length rs ⟨m,slo,shi⟩:=⟨⟨⟨by show 0 ≤ slo;omega,by show slo ≤ shi;omega,by show shi ≤ rn;omega⟩,hm⟩,fun z hz=>by
     have hz':rs[m]? = some z:=hz
     rw [HRM.out] at hz'
     obtain rfl:rm = z:=by simpa using hz'
     show slo ≤ rm∧rm ≤ shi
     omega⟩
    have HSU:=hid hsu
    clear hs1 hs2 hslo hshi hsu
    refine aHO 22 rfl fun K hK=>?_
    go_simp
    obtain ⟨x5,hx5⟩:∃ y,x4.alloc (.cells #[.int .i64 m, .int .i64 slo, .int .i64 shi] 37) = y:=⟨_,rfl⟩
    have hb5:Below x4.heap.size x4 x5:=by rw [← hx5];exact (Below.refl _ _).alloc (nl_ _) _
    have hn5:x5.heap[x4.heap.size]? = some (.cells #[.int .i64 m, .int .i64 slo, .int .i64 shi] 37 (0,0)):=by rw [← hx5];exact ha_ _ _
    obtain ⟨bk,hbk⟩:∃ x,x4.heap.size = x:=⟨_,rfl⟩
    rw [hbk] at hn5
    rw [hx5]
    try simp only [hbk]
    have HK5':=hid (HK4.out.trans (Keep.of_below hb5))
    have HR5:=hid (HR4.out.below hb5)
    have HP5':=hid (HP4.out.below (by have:=HK4.out.size;omega) (fun q h=>by have:=HS.out q h;have:=HK4.out.size;have:=HBP.out;omega) hb5)
    have hbq5':bq < x5.heap.size:=by have:=HK5'.out.size;omega
    have hS1:=S1.out x5 HK5'.out
    refine hK _ _ ⟨hS1,?_⟩
    clear hK HK4 HR4 HP4 hx5 hb5 hbk
    refine aHO 23 rfl fun K hK=>?_
    obtain ⟨i0,hi0,hy0,hy1,hy2⟩:=info_parts Tryz.info37r
    obtain ⟨a6,c6,x6,hr,ho6,hg6,hat6⟩:=run_append_ao (P:=Tryz.prog) (w:=x5) 24 24 w5.heap.size 37 i0 _ 3 24 Tryz.underlying24 hi0 hy0 hy1 hy2 rfl (by omega) _ l.length _ HR5.out.o1 (some ⟨bk,0,none⟩) 1 1 (suC ⟨m,slo,shi⟩).toList rfl (fun h=>by cases h) (fun ad had=>by cases had;exact fun j u hj=>World.news_of_block (cs:=#[.int .i64 m, .int .i64 slo, .int .i64 shi]) (t:=37) (fr:=(0,0)) hn5 j u (by simpa [suC] using hj)) (by intro u hu;simp [suC] at hu;rcases hu with rfl | rfl | rfl <;> rfl) (by unfold maxLen;omega) (by omega) HK5'.out.size
    refine wa_ rfl rfl rfl hr ?_
    have hgb:∀ g,(Value.slice al l.length cl).ownBlock = some g→w5.heap.size ≤ g:=fun g hg=>(HR5.out.o1.lt g hg).1
    have hk6:Keep (fun j=>(Value.slice al l.length cl).ownBlock = some j) x5 x6:=Keep.grown hg6 (fun b e=>e)
    have HK6:=hid (HK5'.out.thenO hk6 (fun j hj => .inr (by have:=hgb j hj;omega)))
    have HP6:=hid (qI_ HP5'.out (fun q h=>by have:=HS.out q h;have:=HBP.out;omega) hk6 (fun e=>by have:=hgb _ e;omega) (fun q h e=>by have:=hgb _ e;have:=HS.out q h;have:=HBP.out;omega))
    have HR6:=hid (show Rw4 w5.heap.size (.slice a6 (l.length + 1) c6) (.slice ao o.length co) (.slice aa a.length ca) (.slice ab b.length cb) (l ++ [(⟨m,slo,shi⟩:Su)]).length o.length a.length b.length (suL (l ++ [(⟨m,slo,shi⟩:Su)])) (iv o) (iv a) (iv b) x6 from by
     have h:=HR5.out.app1 ho6 hg6 hat6
     simpa [suL] using h)
    have hS1:=S1.out x6 HK6.out
    refine hK _ _ ⟨hS1,?_⟩
    clear hK HK5' HR5 HP5' hr ho6 hg6 hat6 hgb hk6 hn5 hi0 hy0 hy1 hy2
    refine aHO 24 rfl fun K hK=>?_
    go_simp
    refine hK _ _ ⟨hS1,?_⟩
    clear hK hS1
    refine q7_ (by kernel_rfl) ?_
    go_simp
    obtain ⟨l',hl'⟩:∃ z,l ++ [(⟨m,slo,shi⟩:Su)] = z:=⟨_,rfl⟩
    have HLL':=hid (show l'.length = i + 1 by rw [← hl'];simp [HLL.out])
    have HSR':=hid (show ∀ s ∈ l',SuR rn ms.length rs s from fun s hs=>by
     rw [← hl'] at hs
     rcases List.mem_append.1 hs with h | h
     · exact HSR.out s h
     · obtain rfl:s = ⟨m,slo,shi⟩:=by simpa using h
       exact HSU.out)
    rw [hl'] at HR6
    clear hl' HSR HSU S1
    have hin:IntKind.i64.wrap ((i:Int) + 1) = (i:Int) + 1:=IntWalk.i64_in _ (by omega)
    have HI1:=hid (show i + 1 ≤ n by omega)
    by_cases hi0:i = 0
    · have hbe:((i:Int) == 0) = true:=by simp [hi0]
      have hbe':(i:Int) = 0:=by omega
      obtain ⟨hb7',hR7⟩:=HR6.out.init HK6.out.size
      have HB7:=hid hb7'
      have HR7:=hid hR7
      clear hb7' hR7
      have HSP':=hid (show Spl (i + 1) [0] [0] [0] by rw [hi0];exact Spl.one)
      clear hi0
      go_wp2_with fail
      go_roundw
      case rel=>exact ⟨i + 1,l',[0],[0],[0],HI1.out,by go_num,HLL'.out,HSR',HSP',hid (HP6.out.below (by have:=HK6.out.size;omega) (fun q h=>by have:=HS.out q h;have:=HK6.out.size;have:=HBP.out;omega) HB7.out),hid (HK6.out.trans (Keep.of_below HB7.out)),HR7⟩
      case measure=>simp [intOf];omega
    · have hbe:((i:Int) == 0) = false:=by simp;omega
      have hbe':¬ (i:Int) = 0:=by omega
      obtain ⟨j0,hj0,hj1,hj2,hj3⟩:=info_parts Tryz.info3m
      have hb7':Below x6.heap.size x6 (x6.alloc (.cells #[.int .i64 i] 3)):=(Below.refl _ _).alloc (nl_ _) _
      have hn7:(x6.alloc (.cells #[.int .i64 i] 3)).heap[x6.heap.size]? = some (.cells #[.int .i64 i] 3 (0,0)):=ha_ _ _
      have hnw:∀ ad,some (⟨x6.heap.size,0,none⟩:Addr) = some ad→∀ (j:Nat) (u:Value),[Value.int .i64 i][j]? = some u→(x6.alloc (.cells #[.int .i64 i] 3)).cell? (ad.add j) = some u:=fun ad had=>by cases had;exact fun j u hj=>World.news_of_block (cs:=#[.int .i64 i]) (t:=3) (fr:=(0,0)) hn7 j u (by simpa using hj)
      have HR7:=hid (HR6.out.below hb7')
      have HK7:=hid (HK6.out.trans (Keep.of_below hb7'))
      have HP7:=hid (HP6.out.below (by have:=HK6.out.size;omega) (fun q h=>by have:=HS.out q h;have:=HK6.out.size;have:=HBP.out;omega) hb7')
      have hsz7:w5.heap.size ≤ (x6.alloc (.cells #[.int .i64 i] 3)).heap.size:=HK7.out.size
      clear hb7' hn7 HK6 HP6 HR6
      cases hbb:(bits BinOp.and IntKind.u8 (wh / 2 ^ i) 1 == 1)
      · have ow:=HR7.out.o4
        have hlx:b.length ≤ 6:=by have:=HSP.out.lb;omega
        go_wp2_with (at_builtin;go_loud (refine q9_ _ rfl _ _ _ rfl w5.heap.size 3 j0 _ 1 8 Tryz.underlying27 hj0 hj1 hj2 hj3 rfl (by omega) _ b.length (iv b) rfl ow (some ⟨x6.heap.size,0,none⟩) 1 1 [.int .i64 i] rfl rfl (fun h=>by cases h) hnw (by simp [Value.oneCell']) (by unfold maxLen;omega) (by omega) hsz7 ?_);intro a8 c8 x8 ho8 hg8 hat8)
        have hgb:∀ g,(Value.slice ab b.length cb).ownBlock = some g→w5.heap.size ≤ g:=fun g hg=>(HR7.out.o4.lt g hg).1
        have hk8:Keep (fun j=>(Value.slice ab b.length cb).ownBlock = some j) (x6.alloc (.cells #[.int .i64 i] 3)) x8:=Keep.grown hg8 (fun b e=>e)
        have HK8:=hid (HK7.out.thenO hk8 (fun j hj => .inr (hgb j hj)))
        have HP8:=hid (qI_ HP7.out (fun q h=>by have:=HS.out q h;have:=HBP.out;omega) hk8 (fun e=>by have:=hgb _ e;omega) (fun q h e=>by have:=hgb _ e;have:=HS.out q h;have:=HBP.out;omega))
        have HR8:=hid (HR7.out.app4 ho8 hg8 hat8)
        have HSP8:=hid HSP.out.inB
        have HE8:=hid (show b.length + 1 = (b ++ [i]).length∧iv b ++ [.int .i64 i] = iv (b ++ [i]) from ⟨by simp,by simp [iv]⟩)
        rw [HE8.out.2] at HR8
        clear ho8 hg8 hat8 hgb hk8 ow
        go_roundw
        case rel=>exact ⟨i + 1,l',o,a,b ++ [i],HI1.out,by go_num,HLL'.out,HSR',HSP8,HP8,HK8,hid (by have h:=HR8.out;rw [HE8.out.1] at h;simpa using h)⟩
        case measure=>simp [intOf];omega
      · have ow:=HR7.out.o3
        have hlx:a.length ≤ 6:=by have:=HSP.out.la;omega
        go_wp2_with (at_builtin;go_loud (refine q9_ _ rfl _ _ _ rfl w5.heap.size 3 j0 _ 1 8 Tryz.underlying27 hj0 hj1 hj2 hj3 rfl (by omega) _ a.length (iv a) rfl ow (some ⟨x6.heap.size,0,none⟩) 1 1 [.int .i64 i] rfl rfl (fun h=>by cases h) hnw (by simp [Value.oneCell']) (by unfold maxLen;omega) (by omega) hsz7 ?_);intro a8 c8 x8 ho8 hg8 hat8)
        have hgb:∀ g,(Value.slice aa a.length ca).ownBlock = some g→w5.heap.size ≤ g:=fun g hg=>(HR7.out.o3.lt g hg).1
        have hk8:Keep (fun j=>(Value.slice aa a.length ca).ownBlock = some j) (x6.alloc (.cells #[.int .i64 i] 3)) x8:=Keep.grown hg8 (fun b e=>e)
        have HK8:=hid (HK7.out.thenO hk8 (fun j hj => .inr (hgb j hj)))
        have HP8:=hid (qI_ HP7.out (fun q h=>by have:=HS.out q h;have:=HBP.out;omega) hk8 (fun e=>by have:=hgb _ e;omega) (fun q h e=>by have:=hgb _ e;have:=HS.out q h;have:=HBP.out;omega))
        have HR8:=hid (HR7.out.app3 ho8 hg8 hat8)
        have HSP8:=hid HSP.out.inA
        have HE8:=hid (show a.length + 1 = (a ++ [i]).length∧iv a ++ [.int .i64 i] = iv (a ++ [i]) from ⟨by simp,by simp [iv]⟩)
        rw [HE8.out.2] at HR8
        clear ho8 hg8 hat8 hgb hk8 ow
        go_roundw
        case rel=>exact ⟨i + 1,l',o,a ++ [i],b,HI1.out,by go_num,HLL'.out,HSR',HSP8,HP8,HK8,hid (by have h:=HR8.out;rw [HE8.out.1] at h;simpa using h)⟩
        case measure=>simp [intOf];omega
  · have hii:i = n:=by omega
    have HLN:=hid (show l.length = n by rw [HLL.out];exact hii)
    have hnI:¬ (i:Int) < (n:Int):=by omega
    have hbw:Below bq w3 wr:=HK5.out.trans (HKW.out.below (by omega) (fun b hb e=>by omega))
    have hbw':Below w3.heap.size w3 wr:=HBQ.out ▸ hbw
    have E:=hid (show TyW w rn fi uns ms am cm b7 b8 gr or_ ct rs l al cl o a b (.slice ao o.length co) (.slice aa a.length ca) (.slice ab b.length cb) wr from ⟨HBP.out ▸ (HB3.out.trans (hbw.mono hbp3)),HT3.out.below hbw',(hbw.block b7 hb7l).trans H7.out,(hbw.block b8 hb8l).trans H8.out,HM3.out.on hbw',by have:=hbw.size;have:=HBQ.out;omega,fun j u hj=>bc_ hbw' (by have:=HBQ.out;omega) (HCR3.out j u hj),own_su HRW.out.o1,zZ_ HRW.out.o2,zZ_ HRW.out.o3,zZ_ HRW.out.o4⟩)
    have HSQ:=hid (show Spl n o a b from hii ▸ HSP.out)
    have HNK:=hid (show ∀ j,j < n→zd_ (j5_ l j) = false from fun j hj=>surN_ok (M:=ms.length) (room:=rn) (by omega) (by omega) (by omega) (fun s hs=>(HSR.out s hs).1) (by have:=HLN.out;omega))
    obtain ⟨Y,T,hYT⟩:=yrT HLN.out (join_sur HSQ.out.po HSQ.out.pa HSQ.out.pb (by omega) (by have:=HSQ.out.lo;omega) (by have:=HSQ.out.la;omega) (by have:=HSQ.out.lb;omega) HNK.out HSQ.out.m HSQ.out.oo).1
    have HY:=hid hYT
    have hlo:=HSQ.out.lo
    have hla:=HSQ.out.la
    have hlb':=HSQ.out.lb
    have HRD:=hid (show ∀ (ids:List Nat),(∀ j,j ∈ ids→j < n)→(∀ j ∈ ids,j < l.length) from fun ids h j hj=>by have:=h j hj;have:=HLN.out;omega)
    clear hYT hii hbw hbw' HPW HKW HRW HSP SC HLL HK5 HP5 HBQ HCR3 HM3 H7 H8 HB3 HT3
    have C1:=hid (sur_c E.out.hl (by omega) E.out.io (HRD.out o fun j hj=>HSQ.out.mem.1 hj) (by omega))
    go_wp2_with fail
    refine C1.out.mono ?_
    rintro e y1 ⟨fo,go_,rfl,hF,hb⟩
    replace E:=hid (E.out.on hb)
    have F1:=hid hF
    clear C1 hF hb
    have C1:=hid (sur_c E.out.hl (by omega) E.out.ia (HRD.out a fun j hj=>HSQ.out.mem.2.1 hj) (by omega))
    go_wp2_with fail
    refine C1.out.mono ?_
    rintro e y2 ⟨fa,ga,rfl,hF,hb⟩
    replace E:=hid (E.out.on hb)
    replace F1:=hid (F1.out.on hb)
    have F2:=hid hF
    clear C1 hF hb
    have C1:=hid (sur_c E.out.hl (by omega) E.out.ib (HRD.out b fun j hj=>HSQ.out.mem.2.2 hj) (by omega))
    go_wp2_with fail
    refine C1.out.mono ?_
    rintro e y3 ⟨fb,gb,rfl,hF,hb⟩
    replace E:=hid (E.out.on hb)
    replace F1:=hid (F1.out.on hb)
    replace F2:=hid (F2.out.on hb)
    have C1:=hid (join_c HY.out HSQ.out (by omega) HNK.out F1.out F2.out hF E.out.pw)
    clear hF hb F1 F2
    go_wp2_with fail
    refine C1.out.mono ?_
    rintro e y4 ⟨ja,jc,na,nc,rfl,hF,hb⟩
    replace E:=hid (E.out.on hb)
    have C2:=hid (print_c HY.out (by omega) hF E.out.pw)
    clear C1 hF hb
    go_wp2_with fail
    refine C2.out.mono ?_
    rintro e y5 ⟨rfl,hb⟩
    replace E:=hid (E.out.on hb)
    have C1:=hid (parse_c HY.out y5)
    clear C2 hb
    go_wp2_with fail
    refine C1.out.mono ?_
    rintro e y6 ⟨ra,rc,rfl,hF,hb⟩
    replace E:=hid (E.out.on hb)
    have C2:=hid (read_c HY.out (by omega) HLN.out hF)
    clear C1 hF hb
    go_wp2_with fail
    refine C2.out.mono ?_
    rintro e y7 ⟨xa,xc,rfl,hL,hb⟩
    replace E:=hid (E.out.on hb)
    have HXL:=hid hL
    have hcn:((n:Int) != (l.length:Int)) = false:=by have:=HLN.out;simp;omega
    clear C2 hL hb HY HNK
    have hnl:(n:Int) ≤ (l.length:Int)∧(l.length:Int) ≤ 6:=by have:=HLN.out;omega
    have HL7:=hid E.out.hl
    go_wp2_with fail
    go_loopw [164] (fun vi wr=>∃ k:Nat,k ≤ n∧vi = .int .i64 k∧Hid (Below y7.heap.size y7 wr)) (fun vi _=>n - (intOf vi).toNat)
    case atStart=>exact ⟨0,by omega,rfl,hid (Below.refl _ _)⟩
    case round=>
     obtain ⟨k,hk,rfl,HB⟩:=hrel
     by_cases hlk:k < n
     · have hlk':(k:Int) < (n:Int):=by omega
       have hkk:(0:Int) ≤ (k:Int)∧(k:Int) < (l.length:Int):=by omega
       obtain ⟨s,hs⟩:∃ s,l[k]? = some s:=⟨l[k]'(by omega),List.getElem?_eq_getElem _⟩
       have HXW:=hid (HXL.out.on HB.out)
       have HLW:=hid (HL7.out.on HB.out)
       have hkn:k < l.length:=by omega
       obtain ⟨g1,o1,rfl,hg1,p0,p1,p2⟩:=su_at HXW.out hs
       obtain ⟨g2,o2,rfl,hg2,r0,r1,r2⟩:=su_at HLW.out hs
       have SF:=hid (fun (V:World) (h:Below wr.heap.size wr V)=>(show _∧_∧_ from ⟨bc_ h hg2 r0,bc_ h hg2 r1,bc_ h hg2 r2⟩))
       obtain ⟨x1,hx1⟩:∃ y,wr.alloc (.cells #[.int .i64 s.m, .int .i64 s.lo, .int .i64 s.hi] 37) = y:=⟨_,rfl⟩
       have hb1:Below wr.heap.size wr x1:=by rw [← hx1];exact (Below.refl _ _).alloc (nl_ _) _
       have hn1:x1.heap[wr.heap.size]? = some (.cells #[.int .i64 s.m, .int .i64 s.lo, .int .i64 s.hi] 37 (0,0)):=by rw [← hx1];exact ha_ _ _
       obtain ⟨x2,hx2⟩:∃ y,x1.drew = y:=⟨_,rfl⟩
       have hb2:Below x1.heap.size x1 x2:=by rw [← hx2];exact (Below.refl _ _).drew
       obtain ⟨b29,hb29⟩:∃ y,wr.heap.size = y:=⟨_,rfl⟩
       have hb12:Below wr.heap.size wr x2:=hb1.trans (hb2.mono hb1.size)
       have hn2:=q0_ hn1 hb2
       rw [hb29] at hn2
       have HB2:=hid (HB.out.trans (hb12.mono HB.out.size))
       have hS0:x2.cell? ⟨b29,0,none⟩ = some (.int .i64 s.m)∧x2.cell? ⟨b29,1,none⟩ = some (.int .i64 s.lo)∧x2.cell? ⟨b29,2,none⟩ = some (.int .i64 s.hi)∧x2.cell? ⟨g2,o2 + k * 3,none⟩ = some (.int .i64 s.m)∧x2.cell? ⟨g2,o2 + k * 3 + 1,none⟩ = some (.int .i64 s.lo)∧x2.cell? ⟨g2,o2 + k * 3 + 2,none⟩ = some (.int .i64 s.hi):=⟨cg_ hn2 (k:=0) rfl,cg_ hn2 (k:=1) rfl,cg_ hn2 (k:=2) rfl,bc_ hb12 hg2 r0,bc_ hb12 hg2 r1,bc_ hb12 hg2 r2⟩
       clear SF hb1 hb2 hb12 hn1 hn2 HXW HLW HB hs hg1 hg2 r0 r1 r2
       go_upto_region 26 with fail
       try rw [hx1]
       try simp only [hb29]
       refine (wpIn_wide (n:=9)).1 ?_
       refine q6_ (fun V:World=>V.cell? ⟨b29,0,none⟩ = some (.int .i64 s.m)∧V.cell? ⟨b29,1,none⟩ = some (.int .i64 s.lo)∧V.cell? ⟨b29,2,none⟩ = some (.int .i64 s.hi)∧V.cell? ⟨g2,o2 + k * 3,none⟩ = some (.int .i64 s.m)∧V.cell? ⟨g2,o2 + k * 3 + 1,none⟩ = some (.int .i64 s.lo)∧V.cell? ⟨g2,o2 + k * 3 + 2,none⟩ = some (.int .i64 s.hi)) (by kernel_rfl) ?_
       rw [hx2]
       clear hx1 hx2 hb29 p0 p1 p2
       refine tkZ 0 169 (.agg #[.int .i64 s.m, .int .i64 s.lo, .int .i64 s.hi]) rfl rfl hS0 ?_
       refine tkZ 1 170 (.slice (some ⟨g2,o2,none⟩) l.length cl) rfl rfl hS0 ?_
       refine tkZ 2 171 (.int .i64 k) rfl rfl hS0 ?_
       refine tkZ 3 172 (.pointer (some ⟨g2,o2 + k * 3,none⟩)) rfl rfl hS0 ?_
       refine tkZ 4 173 (.agg #[.int .i64 s.m, .int .i64 s.lo, .int .i64 s.hi]) rfl rfl hS0 ?_
       refine tkZ 5 174 (.bool false) rfl rfl hS0 ?_
       clear hS0
       refine q7_ (by kernel_rfl) ?_
       go_simp
       go_wp2_with fail
       go_roundw
       case rel=>exact ⟨k + 1,by omega,by go_num,HB2⟩
       case measure=>simp [intOf];omega
     · have hnk:¬ (k:Int) < (n:Int):=by omega
       have HXW:=hid (show LSl vQ_ (fun q=>q < wr.heap.size) wr (.slice xa l.length xc) l by rw [HLN.out];exact HXL.out.on HB.out)
       replace E:=hid (E.out.on HB.out)
       have CB:=hid (show Calls Tryz.prog 13 #[.slice xa n xc, .pointer (some ⟨b7,0,none⟩), .pointer (some ⟨b8,0,none⟩)] wr _ from by
        have h:=bnd_c E.out hrn hfi hun hml HMO.out HRE.out H00.out HRL.out HSR.out (by omega) HXW.out
        rw [HLN.out] at h
        exact h)
       clear HXW HXL HL7 HB
       go_wp2_with fail
       refine CB.out.mono ?_
       rintro e z1 ⟨ba,bc,rfl,hSX,hb⟩
       replace E:=hid (E.out.on hb)
       have HX:=hid hSX
       clear CB hSX hb
       obtain ⟨z2,hz2⟩:∃ y,z1.alloc (.cells #[.slice ao o.length co, .slice aa a.length ca, .slice ab b.length cb] 27) = y:=⟨_,rfl⟩
       have hb2:Below z1.heap.size z1 z2:=by rw [← hz2];exact (Below.refl _ _).alloc (nl_ _) _
       have hn2:z2.heap[z1.heap.size]? = some (.cells #[.slice ao o.length co, .slice aa a.length ca, .slice ab b.length cb] 27 (0,0)):=by rw [← hz2];exact ha_ _ _
       obtain ⟨bx,hbx⟩:∃ y,z1.heap.size = y:=⟨_,rfl⟩
       rw [hbx] at hn2
       have NX:=hid hn2
       replace E:=hid (E.out.on hb2)
       replace HX:=hid (xN_ HX.out hb2)
       clear hb2 hn2
       go_upto_region 33 with fail
       go_wp2_with fail
       try rw [hz2]
       try simp only [hbx]
       clear hz2 hbx
       go_loopw [190] (fun vi wr=>∃ j:Nat,j ≤ 3∧vi = .int .i64 j∧Hid (Below z2.heap.size z2 wr)) (fun vi _=>3 - (intOf vi).toNat)
       case atStart=>exact ⟨0,by omega,rfl,hid (Below.refl _ _)⟩
       case round=>
        obtain ⟨j,hj,rfl,HB⟩:=hrel
        by_cases hj3:j < 3
        · have hj3':(0:Int) ≤ (j:Int)∧(j:Int) < 3:=by omega
          have E1:=hid (E.out.on HB.out)
          obtain ⟨av,cv,ids,hcv,hsv,hiv,hil⟩:∃ (av:Option Addr) (cv:Nat) (ids:List Nat),wr.cell? ⟨bx,j,none⟩ = some (.slice av ids.length cv)∧SlC (fun q=>q < wr.heap.size) wr 1 (.slice av ids.length cv) ids.length (iv ids)∧(∀ i ∈ ids,i < n)∧ids.length ≤ 6:=by
           have hnx:=q0_ NX.out HB.out
           obtain rfl | rfl | rfl:j = 0 ∨ j = 1 ∨ j = 2:=by omega
           · exact ⟨ao,co,o,cg_ hnx (k:=0) rfl,E1.out.io,fun j hj=>HSQ.out.mem.1 hj,by omega⟩
           · exact ⟨aa,ca,a,cg_ hnx (k:=1) rfl,E1.out.ia,fun j hj=>HSQ.out.mem.2.1 hj,by omega⟩
           · exact ⟨ab,cb,b,cg_ hnx (k:=2) rfl,E1.out.ib,fun j hj=>HSQ.out.mem.2.2 hj,by omega⟩
          have C1:=hid (sur_c E1.out.hl (by omega) hsv (HRD.out ids hiv) (by omega))
          have HIV:=hid hiv
          clear hsv hiv
          go_wp2_with fail
          refine C1.out.mono ?_
          rintro e x1 ⟨fs,gs,rfl,hF,hb⟩
          replace E1:=hid (E1.out.on hb)
          replace HB:=hid (HB.out.trans (hb.mono HB.out.size))
          have C2:=hid (some_c (l:=l) (ids:=ids) (by omega) hF)
          clear C1 hF hb hcv
          go_wp2_with fail
          refine C2.out.mono ?_
          rintro e x2 ⟨sa,sc,rfl,hL,hb⟩
          replace E1:=hid (E1.out.on hb)
          replace HB:=hid (HB.out.trans (hb.mono HB.out.size))
          have HSS:=hid (show ∀ s ∈ ids.map (fun i=>l.getD i ⟨0,0,0⟩),s ∈ l from fun s hs=>by
           obtain ⟨i,hi,rfl⟩:=List.mem_map.1 hs
           have hil:=HRD.out ids HIV.out i hi
           rw [List.getD_eq_getElem?_getD,List.getElem?_eq_getElem hil]
           exact List.getElem_mem hil)
          have C1:=hid (show Calls Tryz.prog 13 #[.slice sa ids.length sc, .pointer (some ⟨b7,0,none⟩), .pointer (some ⟨b8,0,none⟩)] x2 _ from by
           have h:=bnd_c E1.out hrn hfi hun hml HMO.out HRE.out H00.out HRL.out (fun s hs=>HSR.out s (HSS.out s hs)) (by rw [List.length_map];omega) (as_:=sa) (cs_:=sc) (by rw [List.length_map];exact hL)
           rw [List.length_map] at h
           exact h)
          clear C2 hL hb
          go_wp2_with fail
          refine C1.out.mono ?_
          rintro e x3 ⟨ya,yc,rfl,hSY,hb⟩
          replace E1:=hid (E1.out.on hb)
          replace HB:=hid (HB.out.trans (hb.mono HB.out.size))
          have HX3:=hid (xN_ HX.out HB.out)
          have HY3:=hid hSY
          have c8:=cg_ E1.out.c8 (k:=0) (v := .slice (some ⟨gr,or_,none⟩) rs.length ct) rfl
          obtain ⟨gx,ox,rfl,hgx,_,_,hcx⟩:=SlC.cells HX3.out (by omega)
          obtain ⟨gy,oy,rfl,hgy,_,_,hcy⟩:=SlC.cells HY3.out (by omega)
          have HCX:=hid hcx
          have HCY:=hid hcy
          clear C1 hSY hb hcx hcy HX3 HY3
          go_wp2_with fail
          go_loopw [215] (fun vi wr=>∃ m:Nat,m ≤ rs.length∧vi = .int .i64 m∧Hid (Below x3.heap.size x3 wr)) (fun vi _=>rs.length - (intOf vi).toNat)
          case atStart=>exact ⟨0,by omega,rfl,hid (Below.refl _ _)⟩
          case round=>
           obtain ⟨m,hm,rfl,HBm⟩:=hrel
           by_cases hmr:m < rs.length
           · have hml':m ≤ ms.length:=by have:=HRL.out;omega
             have hmi:(0:Int) ≤ (m:Int)∧(m:Int) < (rs.length:Int)∧(m:Int) < (ms.length:Int) + 1:=by omega
             obtain ⟨rm,hrm⟩:∃ z,rs[m]? = some z:=⟨rs[m]'hmr,List.getElem?_eq_getElem _⟩
             have hrb:=real_bnd (lo:=fi - uns) (hi:=fi + uns) (by omega) HMO.out (yw_ HRE.out HSR.out) H00.out HSS.out hrm
             have hx12:=bndL_at (room:=rn) (ss:=l) (ms:=ms) (lo:=fi - uns) (hi:=fi + uns) hml'
             have hy12:=bndL_at (room:=rn) (ss:=ids.map (fun i=>l.getD i ⟨0,0,0⟩)) (ms:=ms) (lo:=fi - uns) (hi:=fi + uns) hml'
             obtain ⟨xl,hxl⟩:∃ z,(bndF (rowF rn l ms (fi - uns) (fi + uns) m)).lo = z:=⟨_,rfl⟩
             obtain ⟨xh,hxh⟩:∃ z,(bndF (rowF rn l ms (fi - uns) (fi + uns) m)).hi = z:=⟨_,rfl⟩
             obtain ⟨yl,hyl⟩:∃ z,(bndF (rowF rn (ids.map (fun i=>l.getD i ⟨0,0,0⟩)) ms (fi - uns) (fi + uns) m)).lo = z:=⟨_,rfl⟩
             obtain ⟨yh,hyh⟩:∃ z,(bndF (rowF rn (ids.map (fun i=>l.getD i ⟨0,0,0⟩)) ms (fi - uns) (fi + uns) m)).hi = z:=⟨_,rfl⟩
             rw [hxl,hxh] at hrb hx12
             rw [hyl,hyh] at hrb hy12
             clear hxl hxh hyl hyh
             have k1:decide (xl < yl) = false:=by simp;omega
             have k2:decide (yh < xh) = false:=by simp;omega
             have k3:decide (rm < xl) = false:=by simp;omega
             have k4:decide (xh < rm) = false:=by simp;omega
             have k1':¬ xl < yl:=by omega
             have k2':¬ yh < xh:=by omega
             have k3':¬ rm < xl:=by omega
             have k4':¬ xh < rm:=by omega
             have p0:=bc_ HBm.out E1.out.gl (E1.out.re m (.int .i64 rm) (by simp [hrm]))
             obtain ⟨x4,hx4⟩:∃ y,wr.drew = y:=⟨_,rfl⟩
             have hb4:Below wr.heap.size wr x4:=by rw [← hx4];exact (Below.refl _ _).drew
             have hbx4:=HBm.out.trans (hb4.mono HBm.out.size)
             have HB4:=hid hbx4
             have hS0:x4.cell? ⟨gx,ox + m * 2,none⟩ = some (.int .i64 xl)∧x4.cell? ⟨gx,ox + m * 2 + 1,none⟩ = some (.int .i64 xh)∧x4.cell? ⟨gy,oy + m * 2,none⟩ = some (.int .i64 yl)∧x4.cell? ⟨gy,oy + m * 2 + 1,none⟩ = some (.int .i64 yh):=⟨bc_ hbx4 hgx (HCX.out _ _ hx12.1),bc_ hbx4 hgx (by have:=HCX.out _ _ hx12.2;rwa [← Nat.add_assoc] at this),bc_ hbx4 hgy (HCY.out _ _ hy12.1),bc_ hbx4 hgy (by have:=HCY.out _ _ hy12.2;rwa [← Nat.add_assoc] at this)⟩
             clear hrb hx12 hy12 hb4 hbx4 HBm hrm
             go_upto_region 43 with fail
             refine (wpIn_wide (n:=9)).1 ?_
             refine q6_ (fun V:World=>V.cell? ⟨gx,ox + m * 2,none⟩ = some (.int .i64 xl)∧V.cell? ⟨gx,ox + m * 2 + 1,none⟩ = some (.int .i64 xh)∧V.cell? ⟨gy,oy + m * 2,none⟩ = some (.int .i64 yl)∧V.cell? ⟨gy,oy + m * 2 + 1,none⟩ = some (.int .i64 yh)) (by kernel_rfl) ?_
             try rw [hx4]
             clear hx4 p0
             refine tkZ 0 220 (.slice (some ⟨gx,ox,none⟩) (ms.length + 1) bc) rfl rfl hS0 ?_
             refine tkZ 1 221 (.int .i64 m) rfl rfl hS0 ?_
             refine tkZ 2 222 (.pointer (some ⟨gx,ox + m * 2,none⟩)) rfl rfl hS0 ?_
             refine tkZ 3 223 (.pointer (some ⟨gx,ox + m * 2,none⟩)) rfl rfl hS0 ?_
             refine tkZ 4 224 (.int .i64 xl) rfl rfl hS0 ?_
             refine tkZ 5 225 (.slice (some ⟨gy,oy,none⟩) (ms.length + 1) yc) rfl rfl hS0 ?_
             refine tkZ 6 226 (.int .i64 m) rfl rfl hS0 ?_
             refine tkZ 7 227 (.pointer (some ⟨gy,oy + m * 2,none⟩)) rfl rfl hS0 ?_
             refine tkZ 8 228 (.pointer (some ⟨gy,oy + m * 2,none⟩)) rfl rfl hS0 ?_
             refine tkZ 9 229 (.int .i64 yl) rfl rfl hS0 ?_
             refine tkZ 10 230 (.bool false) rfl rfl hS0 ?_
             refine tkZ 11 231 (.bool false) rfl rfl hS0 ?_
             refine tkZ 12 232 (.slice (some ⟨gx,ox,none⟩) (ms.length + 1) bc) rfl rfl hS0 ?_
             refine tkZ 13 233 (.int .i64 m) rfl rfl hS0 ?_
             refine tkZ 14 234 (.pointer (some ⟨gx,ox + m * 2,none⟩)) rfl rfl hS0 ?_
             refine tkZ 15 235 (.pointer (some ⟨gx,ox + m * 2 + 1,none⟩)) rfl rfl hS0 ?_
             refine tkZ 16 236 (.int .i64 xh) rfl rfl hS0 ?_
             refine tkZ 17 237 (.slice (some ⟨gy,oy,none⟩) (ms.length + 1) yc) rfl rfl hS0 ?_
             refine tkZ 18 238 (.int .i64 m) rfl rfl hS0 ?_
             refine tkZ 19 239 (.pointer (some ⟨gy,oy + m * 2,none⟩)) rfl rfl hS0 ?_
             refine tkZ 20 240 (.pointer (some ⟨gy,oy + m * 2 + 1,none⟩)) rfl rfl hS0 ?_
             refine tkZ 21 241 (.int .i64 yh) rfl rfl hS0 ?_
             refine tkZ 22 242 (.bool false) rfl rfl hS0 ?_
             refine tkZ 23 243 (.bool false) rfl rfl hS0 ?_
             refine tkZ 24 244 (.bool false) rfl rfl hS0 ?_
             refine tkZ 25 245 (.int .i64 rm) rfl rfl hS0 ?_
             refine tkZ 26 246 (.slice (some ⟨gx,ox,none⟩) (ms.length + 1) bc) rfl rfl hS0 ?_
             refine tkZ 27 247 (.int .i64 m) rfl rfl hS0 ?_
             refine tkZ 28 248 (.pointer (some ⟨gx,ox + m * 2,none⟩)) rfl rfl hS0 ?_
             refine tkZ 29 249 (.pointer (some ⟨gx,ox + m * 2,none⟩)) rfl rfl hS0 ?_
             refine tkZ 30 250 (.int .i64 xl) rfl rfl hS0 ?_
             refine tkZ 31 251 (.bool false) rfl rfl hS0 ?_
             refine tkZ 32 252 (.bool false) rfl rfl hS0 ?_
             refine tkZ 33 253 (.bool false) rfl rfl hS0 ?_
             refine tkZ 34 254 (.int .i64 rm) rfl rfl hS0 ?_
             refine tkZ 35 255 (.slice (some ⟨gx,ox,none⟩) (ms.length + 1) bc) rfl rfl hS0 ?_
             refine tkZ 36 256 (.int .i64 m) rfl rfl hS0 ?_
             refine tkZ 37 257 (.pointer (some ⟨gx,ox + m * 2,none⟩)) rfl rfl hS0 ?_
             refine tkZ 38 258 (.pointer (some ⟨gx,ox + m * 2 + 1,none⟩)) rfl rfl hS0 ?_
             refine tkZ 39 259 (.int .i64 xh) rfl rfl hS0 ?_
             refine tkZ 40 260 (.bool false) rfl rfl hS0 ?_
             refine tkZ 41 261 (.bool false) rfl rfl hS0 ?_
             clear hS0
             refine q7_ (by kernel_rfl) ?_
             go_simp
             have hin:IntKind.i64.wrap ((m:Int) + 1) = (m:Int) + 1:=IntWalk.i64_in _ (by omega)
             go_wp2_with fail
             go_roundw
             case rel=>exact ⟨m + 1,by omega,by go_num,HB4⟩
             case measure=>simp [intOf];omega
           · have hmn:¬ (m:Int) < (rs.length:Int):=by omega
             have hin:IntKind.i64.wrap ((j:Int) + 1) = (j:Int) + 1:=IntWalk.i64_in _ (by omega)
             have HBz:=hid (HB.out.trans (HBm.out.mono HB.out.size))
             go_wp2_with fail
             go_roundw
             case rel=>exact ⟨j + 1,by omega,by go_num,HBz⟩
             case measure=>simp [intOf];omega
        · have hj3':¬ (j:Int) < 3:=by omega
          replace E:=hid (E.out.on HB.out)
          have C1:=hid (j6_ wr E.out.pw)
          clear HX NX HB
          go_wp2_with fail
          refine C1.out.mono ?_
          rintro e x9 ⟨rfl,hb⟩
          have HW:=hid (E.out.bw.trans (hb.mono E.out.bw.size))
          clear C1 hb
          go_wp2_with fail
          go_ret
          exact ⟨rfl,HW.out⟩
end Go.Proofs.LB