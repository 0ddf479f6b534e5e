/- Parts of the proof of a law of layer 11 (file): LbF6. The conditions stand in each theorem. -/
import Derived.Test.YtffjknkcogmnbaaGreatDoorProg
import Derived.Test.YtffjknkcogmnbaaGreatDoorSpbj
import Derived.Test.YtffjknkcogmnbaaGreatDoorSpbl
set_option linter.all false
set_option linter.unusedVariables false
set_option linter.unusedSimpArgs false
namespace Go.Proofs.LS
open Go.RowKit Go.Sort Go.Proofs.LF Go.Proofs.LB
set_option maxHeartbeats 4000000
set_option maxRecDepth 100000
attribute [local go_sem] q1_ q2_ q6_
structure ScE (B b:Nat) (S:List St) (C:List Sp) (K M:Nat) (as_ ac:Option Addr) (cs_ cc:Nat) (W:World):Prop where
 h:W.heap[b]? = some (.cells #[.slice as_ K cs_, .slice ac M cc] 60 (0,0))
 l:b < B
 s:LSl v3_ (fun q=>q < B) W (.slice as_ K cs_) S
 c:LSl vO_ (fun q=>q < B) W (.slice ac M cc) C
theorem ScE.on {B b:Nat} {S:List St} {C:List Sp} {K M:Nat} {as_ ac:Option Addr} {cs_ cc:Nat} {W W':World} (h:ScE B b S C K M as_ ac cs_ cc W) (hb:Below B W W'):ScE B b S C K M as_ ac cs_ cc W':=
 ⟨(hb.block b h.l).trans h.h,h.l,h.s.agree (q9_ hb fun _ e=>e),h.c.agree (q9_ hb fun _ e=>e)⟩
theorem ScE.up {B b B':Nat} {S:List St} {C:List Sp} {K M:Nat} {as_ ac:Option Addr} {cs_ cc:Nat} {W:World} (h:ScE B b S C K M as_ ac cs_ cc W) (hb:B ≤ B'):ScE B' b S C K M as_ ac cs_ cc W:=
 ⟨h.h,by have:=h.l;omega,h.s.wide fun q hq=>by omega,h.c.wide fun q hq=>by omega⟩
theorem ScE.cs {B b:Nat} {S:List St} {C:List Sp} {K M:Nat} {as_ ac:Option Addr} {cs_ cc:Nat} {W:World} (h:ScE B b S C K M as_ ac cs_ cc W):W.cell? ⟨b,0,none⟩ = some (.slice as_ K cs_)∧W.cell? ⟨b,1,none⟩ = some (.slice ac M cc):=⟨cg_ h.h (k:=0) rfl,cg_ h.h (k:=1) rfl⟩
def YrE (B:Nat) (v:Value) (Y:Fo) (W:World):Prop:=FSl (fun q=>q < B) W v Y
theorem YrE.on {B:Nat} {v:Value} {Y:Fo} {W W':World} (h:YrE B v Y W) (hb:Below B W W'):YrE B v Y W':=FSl.agree h (q9_ hb fun _ e=>e)
theorem YrE.up {B B':Nat} {v:Value} {Y:Fo} {W:World} (h:YrE B v Y W) (hb:B ≤ B'):YrE B' v Y W:=FSl.wide h fun q hq=>by omega
structure EnA (w:World) (bp B b7 br:Nat) (S:List St) (C:List Sp) (R:List (List Nat)) (K M:Nat) (as_ ac:Option Addr) (cs_ cc:Nat) (vals:List Value) (W:World):Prop where
 e:ScE B b7 S C K M as_ ac cs_ cc W
 vr:W.heap[br]? = some (.cells vals.toArray 27 (0,0))
 bl:br < B
 rl:RlR (fun q=>q < B) W br K vals R
 pw:Pow W
 sz:B ≤ W.heap.size
 bw:Below bp w W
 hb:bp ≤ B
theorem EnA.on {w:World} {bp B b7 br:Nat} {S:List St} {C:List Sp} {R:List (List Nat)} {K M:Nat} {as_ ac:Option Addr} {cs_ cc:Nat} {vals:List Value} {W W':World} (h:EnA w bp B b7 br S C R K M as_ ac cs_ cc vals W) (hb:Below W.heap.size W W'):EnA w bp B b7 br S C R K M as_ ac cs_ cc vals W':=
 have h2:=hb.mono h.sz
 ⟨h.e.on h2,(h2.block br h.bl).trans h.vr,h.bl,h.rl.agree (q9_ h2 fun _ e=>e),h.pw.below hb,by have:=h.sz;have:=hb.size;omega,h.bw.trans (h2.mono h.hb),h.hb⟩
structure OwE (B g1 g2 bo co cp K M:Nat) (xs ys:List Value) (W:World):Prop where
 o1:W.ownsRow B 72 7 (.slice (some ⟨g1,0,none⟩) K co) K xs
 o2:W.ownsRow B 35 2 (.slice (some ⟨g2,0,none⟩) M cp) M ys
 h:W.heap[bo]? = some (.cells #[.slice (some ⟨g1,0,none⟩) K co, .slice (some ⟨g2,0,none⟩) M cp] 60 (0,0))
 l:B ≤ bo
 n1:g1 ≠ g2
 n2:g1 ≠ bo
 n3:g2 ≠ bo
theorem OwE.on {B g1 g2 bo co cp K M:Nat} {xs ys:List Value} {W W':World} (h:OwE B g1 g2 bo co cp K M xs ys W) (hb:Below W.heap.size W W'):OwE B g1 g2 bo co cp K M xs ys W':=
 ⟨ob_ h.o1 hb (nl_ _),ob_ h.o2 hb (nl_ _),q0_ h.h hb,h.l,h.n1,h.n2,h.n3⟩
theorem OwE.cs {B g1 g2 bo co cp K M:Nat} {xs ys:List Value} {W:World} (h:OwE B g1 g2 bo co cp K M xs ys W):W.cell? ⟨bo,0,none⟩ = some (.slice (some ⟨g1,0,none⟩) K co)∧W.cell? ⟨bo,1,none⟩ = some (.slice (some ⟨g2,0,none⟩) M cp):=⟨cg_ h.h (k:=0) rfl,cg_ h.h (k:=1) rfl⟩
theorem dupS_f {S:List St} {K:Nat} (hK:S.length = K) (hb:1 ≤ K∧K ≤ 6) {a:Option Addr} {c:Nat} {W:World} (h:LSl v3_ (fun q=>q < W.heap.size) W (.slice a K c) S) :
 Calls Tryz.prog 21 #[.slice a K c] W fun e w'=>∃ g c',e = .returned (.slice (some ⟨g,0,none⟩) K c')∧w'.ownsRow W.heap.size 72 7 (.slice (some ⟨g,0,none⟩) K c') K (stL S)∧Below W.heap.size W w':=by
 subst hK
 obtain ⟨cs,h1,h2⟩:=h
 rw [vB_ h2] at h1
 refine (dupS_any S a c W h1 (by omega)).mono fun e w' ⟨a',c',e1,e2,e3⟩=>?_
 rcases e2.2 with ⟨e4,_⟩ | ⟨g,cap,cur,e4,_⟩
 · have:S.length = 0:=by injection e4
   omega
 · injection e4 with h1 h2 h3
   subst h1
   exact ⟨g,c',e1,e2,e3⟩
theorem dupC_f {C:List Sp} {M:Nat} (hM:C.length = M) (hb:1 ≤ M∧M ≤ 5) {a:Option Addr} {c:Nat} {W:World} (h:LSl vO_ (fun q=>q < W.heap.size) W (.slice a M c) C) :
 Calls Tryz.prog 22 #[.slice a M c] W fun e w'=>∃ g c',e = .returned (.slice (some ⟨g,0,none⟩) M c')∧w'.ownsRow W.heap.size 35 2 (.slice (some ⟨g,0,none⟩) M c') M (zA_ C)∧Below W.heap.size W w':=by
 subst hM
 obtain ⟨cs,h1,h2⟩:=h
 rw [kw_ h2] at h1
 refine (dupC_any C a c W h1 (by omega)).mono fun e w' ⟨a',c',e1,e2,e3⟩=>?_
 rcases e2.2 with ⟨e4,_⟩ | ⟨g,cap,cur,e4,_⟩
 · have:C.length = 0:=by injection e4
   omega
 · injection e4 with h1 h2 h3
   subst h1
   exact ⟨g,c',e1,e2,e3⟩
structure EnB (w:World) (bp B b7 b21:Nat) (S:List St) (C C':List Sp) (K M N:Nat) (as_ ac a2 a3 ay:Option Addr) (cs_ cc c2 c3 cy:Nat) (W:World):Prop where
 e:ScE B b7 S C K M as_ ac cs_ cc W
 e2:ScE B b21 S C' K M a2 a3 c2 c3 W
 y:YrE B (.slice ay N cy) (fiF S C) W
 pw:∀ W',Below B W W'→Pow W'
 sz:B ≤ W.heap.size
 bw:Below bp w W
 hb:bp ≤ B
theorem EnB.on {w:World} {bp B b7 b21:Nat} {S:List St} {C C':List Sp} {K M N:Nat} {as_ ac a2 a3 ay:Option Addr} {cs_ cc c2 c3 cy:Nat} {W W':World} (h:EnB w bp B b7 b21 S C C' K M N as_ ac a2 a3 ay cs_ cc c2 c3 cy W) (hb:Below B W W'):EnB w bp B b7 b21 S C C' K M N as_ ac a2 a3 ay cs_ cc c2 c3 cy W':=
 ⟨h.e.on hb,h.e2.on hb,h.y.on hb,fun _ h3=>h.pw _ (hb.trans h3),by have:=h.sz;have:=hb.size;omega,h.bw.trans (hb.mono h.hb),h.hb⟩
theorem stO_get {S:List St} {k:Nat} {y:St} (h:S[k]? = some y):(stL S)[k * 7 + 4]? = some (.int .i64 y.sh):=by
 induction S generalizing k with
 | nil=>simp at h
 | cons x r ih=>
   cases k with
   | zero=>
     obtain rfl:x = y:=by simpa using h
     rfl
   | succ k=>
     have:=ih (by simpa using h)
     rw [show (k + 1) * 7 + 4 = k * 7 + 4 + 7 by omega]
     exact this
theorem stO_set (y:St) (v:Int):∀ (S:List St) (k:Nat),S[k]? = some y→(stL S).set (k * 7 + 4) (.int .i64 v) = stL (S.set k { y with sh:=v })
 | [],k,h=>by simp at h
 | x :: r,0,h=>by
   obtain rfl:x = y:=by simpa using h
   rfl
 | x :: r,k + 1,h=>by
   have ih:=stO_set y v r k (by simpa using h)
   have e:stL (x :: r) = .int .i64 x.t :: .int .i64 x.ll :: .int .i64 x.lh :: .int .i64 x.sl :: .int .i64 x.sh :: .int .i64 x.el :: .int .i64 x.eh :: stL r:=rfl
   have s7:∀ (a b c d e f g:Value) (L:List Value) (m:Nat) (v:Value),(a :: b :: c :: d :: e :: f :: g :: L).set (m + 7) v = a :: b :: c :: d :: e :: f :: g :: L.set m v:=fun _ _ _ _ _ _ _ _ _ _=>rfl
   rw [e,show (k + 1) * 7 + 4 = k * 7 + 4 + 7 by omega,s7,ih]
   rfl
theorem OwE.more {B g1 g2 bo co cp K M k:Nat} {S:List St} {ys:List Value} {W:World} (h:OwE B g1 g2 bo co cp K M (stL S) ys W) (hK:S.length = K) (hk:k < K):OwE B g1 g2 bo co cp K M (stL (S.set k (mor (stX S k)))) ys (W.setCell ⟨g1,k * 7 + 4,none⟩ (.int .i64 (mor (stX S k)).sh))∧Below B W (W.setCell ⟨g1,k * 7 + 4,none⟩ (.int .i64 (mor (stX S k)).sh)):=by
 have hx:=qI_ (S:=S) (i:=k) (by omega)
 have h1:=(qZ_ (u := .int .i64 (mor (stX S k)).sh) h.o1 (i:=k * 7 + 4) (by omega)).1
 rw [stO_set (stX S k) _ S k hx] at h1
 have hb:∀ b,b ≠ g1→(W.setCell ⟨g1,k * 7 + 4,none⟩ (.int .i64 (mor (stX S k)).sh)).heap[b]? = W.heap[b]?:=fun b hb=>Below.heap_setCell _ _ _ _ hb
 have hg:=(h.o1.lt g1 rfl).1
 exact ⟨⟨h1,owns_agree h.o2 fun g hg=>by obtain rfl:g2 = g:=Option.some.inj hg;exact hb g2 (fun e=>h.n1 e.symm),(hb bo (fun e=>h.n2 e.symm)).trans h.h,h.l,h.n1,h.n2,h.n3⟩,Below.setCell (Below.refl _ _) (p:=⟨g1,k * 7 + 4,none⟩) hg _⟩
theorem OwE.cell {B g1 g2 bo co cp K M k:Nat} {S:List St} {ys:List Value} {W:World} (h:OwE B g1 g2 bo co cp K M (stL S) ys W) (hK:S.length = K) (hk:k < K):W.cell? ⟨g1,k * 7 + 4,none⟩ = some (.int .i64 (stX S k).sh)∧W.frozen? ⟨g1,k * 7 + 4,none⟩ = false:=
 owns_cell h.o1 (by omega) (stO_get (qI_ (S:=S) (i:=k) (by omega)))
theorem OwE.st {B g1 g2 bo co cp K M:Nat} {S:List St} {ys:List Value} {W:World} (h:OwE B g1 g2 bo co cp K M (stL S) ys W) (hK:S.length = K):LSl v3_ (fun q=>q < W.heap.size) W (.slice (some ⟨g1,0,none⟩) K co) S:=by
 subst hK
 exact yC_ h.o1
theorem OwE.sp {B g1 g2 bo co cp K M:Nat} {C:List Sp} {xs:List Value} {W:World} (h:OwE B g1 g2 bo co cp K M xs (zA_ C) W) (hM:C.length = M):LSl vO_ (fun q=>q < W.heap.size) W (.slice (some ⟨g2,0,none⟩) M cp) C:=by
 subst hM
 exact own_sp h.o2
theorem OwE.setC {B g1 g2 bo co cp K M t:Nat} {C:List Sp} {s:Sp} {xs:List Value} {W:World} (h:OwE B g1 g2 bo co cp K M xs (zA_ C) W) (hM:C.length = M) (ht:t < M):OwE B g1 g2 bo co cp K M xs (zA_ (C.set t s)) ((W.setCell ⟨g2,t * 2,none⟩ (.int .i64 s.lo)).setCell ⟨g2,t * 2 + 1,none⟩ (.int .i64 s.hi))∧Below B W ((W.setCell ⟨g2,t * 2,none⟩ (.int .i64 s.lo)).setCell ⟨g2,t * 2 + 1,none⟩ (.int .i64 s.hi)):=by
 have h1:=(qZ_ (u := .int .i64 s.hi) (qZ_ (u := .int .i64 s.lo) h.o2 (i:=t * 2) (by omega)).1 (i:=t * 2 + 1) (by omega)).1
 have hs:=xh_ s C t
 rw [if_pos (by omega)] at hs
 rw [hs] at h1
 have hb:∀ b,b ≠ g2→((W.setCell ⟨g2,t * 2,none⟩ (.int .i64 s.lo)).setCell ⟨g2,t * 2 + 1,none⟩ (.int .i64 s.hi)).heap[b]? = W.heap[b]?:=fun b hb=>(Below.heap_setCell _ _ _ _ hb).trans (Below.heap_setCell _ _ _ _ hb)
 have hg:=(h.o2.lt g2 rfl).1
 exact ⟨⟨owns_agree h.o1 fun g hg=>by obtain rfl:g1 = g:=Option.some.inj hg;exact hb g1 h.n1,h1,(hb bo (fun e=>h.n3 e.symm)).trans h.h,h.l,h.n1,h.n2,h.n3⟩,Below.setCell (Below.setCell (Below.refl _ _) (p:=⟨g2,t * 2,none⟩) hg _) (p:=⟨g2,t * 2 + 1,none⟩) hg _⟩
theorem OwE.cellC {B g1 g2 bo co cp K M t:Nat} {C:List Sp} {x:Sp} {xs:List Value} {W:World} (h:OwE B g1 g2 bo co cp K M xs (zA_ C) W) (ht:t < M) (hx:C[t]? = some x):(W.cell? ⟨g2,t * 2,none⟩ = some (.int .i64 x.lo)∧W.frozen? ⟨g2,t * 2,none⟩ = false)∧W.cell? ⟨g2,t * 2 + 1,none⟩ = some (.int .i64 x.hi)∧W.frozen? ⟨g2,t * 2 + 1,none⟩ = false:=
 ⟨owns_cell h.o2 (by omega) (va_ hx).1,owns_cell h.o2 (by omega) (va_ hx).2⟩
theorem FileScalps_any (ln:List Int) (an:Option Addr) (cn u v:Nat) (hu:u ≤ 255) (hv:v ≤ 255) (Sq:Nat→Prop) (w:World) (hn:Byt Sq w (.slice an ln.length cn) ln) (hS:∀ q,Sq q→q < w.heap.size) (ht:Pow w) :
 Calls Tryz.prog 4 #[.slice an ln.length cn, .int .u8 u, .int .u8 v] w fun e w'=>e = .returned (.bool true)∧Below w.heap.size w w':=by
 have PI:=hid (Pile_any an ln cn Sq w hn hS)
 have HS:=hid hS
 have HT:=hid ht
 have HU:=hid (And.intro hu hv)
 obtain ⟨bp,hbp⟩:∃ x,w.heap.size = x:=⟨_,rfl⟩
 have HBP:=hid hbp
 rw [hbp] at PI
 clear hn hS ht hbp hu hv
 go_enter Tryz.func4,Tryz.ntmps4
 go_wp2_with fail
 refine PI.out.mono ?_
 rintro e w1 ⟨rfl,hp1,hz1,hb1⟩
 have MD:=hid (wk_ bp Sq w1 hp1 (fun q h=>by have:=HS.out q h;have:=HBP.out;omega))
 have HB1:=hid hb1
 have HZ1:=hid hz1
 clear PI hp1 hz1 hb1
 go_wp2_with fail
 refine MD.out.mono ?_
 rintro e w2 ⟨S,C,R,as_,ac,cs_,cc,br,cr,vals,rfl,hO,hR,hls,hlc,hbr,hrl,hk2⟩
 obtain ⟨K,hK⟩:∃ z,S.length = z:=⟨_,rfl⟩
 obtain ⟨M,hM⟩:∃ z,C.length = z:=⟨_,rfl⟩
 have hK6:=hO.s
 have hM5:=hO.c
 rw [hK] at hls hrl hK6
 rw [hM] at hlc hM5
 try simp only [hK,hM]
 have HK:=hid hK
 have HM:=hid hM
 have HO:=hid hO
 have HR:=hid hR
 have HB2:=hid (show Below bp w w2 from HB1.out.trans (hk2.below (by have:=HZ1.out;omega) (fun b hb e=>by omega)))
 have HT2:=hid (HT.out.below (HBP.out ▸ HB2.out))
 have LS:=hid hls
 have LC:=hid hlc
 have BR:=hid hbr
 have RL:=hid hrl
 clear MD HB1 HZ1 hls hlc hbr hrl hk2 HT hO hR hK hM
 go_upto_region 2 with fail
 obtain ⟨w3,hw3⟩:∃ x,w2.alloc (.cells #[.slice as_ K cs_, .slice ac M cc] 60) = x:=⟨_,rfl⟩
 have hb3:Below w2.heap.size w2 w3:=by rw [← hw3];exact (Below.refl _ _).alloc (nl_ _) _
 have h7:w3.heap[w2.heap.size]? = some (.cells #[.slice as_ K cs_, .slice ac M cc] 60 (0,0)):=by rw [← hw3];exact ha_ _ _
 have hz3:w3.heap.size = w2.heap.size + 1:=by rw [← hw3];simp
 obtain ⟨b7,hb7⟩:∃ x,w2.heap.size = x:=⟨_,rfl⟩
 rw [hw3]
 rw [hb7] at h7
 try simp only [hb7]
 obtain ⟨B,hB⟩:∃ x,w3.heap.size = x:=⟨_,rfl⟩
 have E:=hid (show EnA w bp B b7 br S C R K M as_ ac cs_ cc vals w3 from by
  have h32:=hb3.size
  have hbr:=(ge_ BR.out).1
  have h2s:=HB2.out.size
  have h1s:=HBP.out
  exact ⟨⟨h7,by omega,(LS.out.on hb3).wide (fun q hq=>by omega),(LC.out.on hb3).wide fun q hq=>by omega⟩,(hb3.block br hbr).trans BR.out,by omega,(RL.out.agree (q9_ hb3 fun _ e=>e)).wide (fun q hq=>by omega),HT2.out.below hb3,by omega,HB2.out.trans (hb3.mono (by omega)),by omega⟩)
 clear LS LC BR RL HT2 HB2 hb3 h7 hz3 hw3 hb7 hB
 obtain ⟨T,hYT⟩:=fiT HO.out
 rw [HK.out,HM.out] at hYT
 obtain ⟨N,hN⟩:∃ z,K + M = z:=⟨_,rfl⟩
 rw [hN] at hYT
 have HN:=hid hN
 have YT:=hid hYT
 clear hYT hN
 have p0:=E.out.e.cs
 have FI:=hid (vn_ YT.out HK.out HM.out (by omega) (E.out.e.s.wide (fun q hq=>by have:=E.out.sz;omega)) (E.out.e.c.wide (fun q hq=>by have:=E.out.sz;omega)))
 obtain ⟨p0,p1⟩:=p0
 go_wp2_with fail
 refine FI.out.mono ?_
 rintro e w4 ⟨ay,cy,rfl,hy,hb⟩
 replace E:=hid (E.out.on hb)
 have HY:=hid hy
 have PR:=hid (print_f YT.out hy E.out.pw)
 clear FI hy hb p0 p1
 go_wp2_with fail
 refine PR.out.mono ?_
 rintro e w5 ⟨rfl,hb⟩
 replace E:=hid (E.out.on hb)
 replace HY:=hid (HY.out.on hb)
 have PS:=hid (parse_f YT.out w5)
 clear PR hb
 go_wp2_with fail
 refine PS.out.mono ?_
 rintro e w6 ⟨az,cz,rfl,hz,hb⟩
 replace E:=hid (E.out.on hb)
 replace HY:=hid (HY.out.on hb)
 have AL:=hid (alike_f YT.out hz HY.out)
 clear PS hz hb
 go_wp2_with fail
 refine AL.out.mono ?_
 rintro e w7 ⟨rfl,hb⟩
 replace E:=hid (E.out.on hb)
 replace HY:=hid (HY.out.on hb)
 clear AL hb
 go_upto_region 7 with fail
 obtain ⟨W0,hW0⟩:∃ y,w7.drew = y:=⟨_,rfl⟩
 have hB0:Below w7.heap.size w7 W0:=by rw [← hW0];exact (Below.refl _ _).drew
 replace E:=hid (E.out.on hB0)
 replace HY:=hid (HY.out.on hB0)
 refine (wpIn_wide (n:=9)).1 ?_
 refine q8_ (fun W:World=>W.cell? ⟨b7,0,none⟩ = some (.slice as_ K cs_)∧W.cell? ⟨b7,1,none⟩ = some (.slice ac M cc)) (by kernel_rfl) ?_
 rw [hW0]
 have hS0:=E.out.e.cs
 clear hW0 hB0
 have hu8:=HU.out
 have hc1:IntKind.i64.wrap (u:Int) = (u:Int):=IntWalk.i64_in _ (by omega)
 have hc2:IntKind.i64.wrap (v:Int) = (v:Int):=IntWalk.i64_in _ (by omega)
 have hm1:¬ M = 0:=by omega
 have hm2:¬ K = 0:=by omega
 have hr1:Int.tmod (u:Int) (M:Int) = ((u % M:Nat):Int):=(Int.ofNat_tmod u M).symm
 have hr2:Int.tmod (v:Int) (K:Int) = ((v % K:Nat):Int):=(Int.ofNat_tmod v K).symm
 have hlt1:u % M < M:=Nat.mod_lt _ (by omega)
 have hlt2:v % K < K:=Nat.mod_lt _ (by omega)
 obtain ⟨t,ht⟩:∃ z,u % M = z:=⟨_,rfl⟩
 obtain ⟨k,hk⟩:∃ z,v % K = z:=⟨_,rfl⟩
 rw [ht] at hr1 hlt1
 rw [hk] at hr2 hlt2
 refine tkZ 0 63 (.int .u8 u) rfl rfl hS0 ?_
 refine tkZ 1 64 (.int .i64 u) rfl rfl hS0 ?_
 refine tkZ 2 65 (.pointer (some ⟨b7,1,none⟩)) rfl rfl hS0 ?_
 refine tkZ 3 66 (.slice ac M cc) rfl rfl hS0 ?_
 refine tkZ 4 67 (.int .i64 M) rfl rfl hS0 ?_
 refine tkZ 5 68 (.int .i64 t) rfl rfl hS0 ?_
 refine tkZ 6 69 (.int .u8 v) rfl rfl hS0 ?_
 refine tkZ 7 70 (.int .i64 v) rfl rfl hS0 ?_
 refine tkZ 8 71 (.pointer (some ⟨b7,0,none⟩)) rfl rfl hS0 ?_
 refine tkZ 9 72 (.slice as_ K cs_) rfl rfl hS0 ?_
 refine tkZ 10 73 (.int .i64 K) rfl rfl hS0 ?_
 refine tkZ 11 74 (.int .i64 k) rfl rfl hS0 ?_
 refine tkZ 12 16 (.int .i64 t) rfl rfl hS0 ?_
 refine tkZ 13 17 (.int .i64 k) rfl rfl hS0 ?_
 refine q7_ (by kernel_rfl) ?_
 go_simp
 clear hS0 hu8 hc1 hc2 hm1 hm2 hr1 hr2 ht hk HU
 obtain ⟨l,hl⟩:∃ l,R[t]? = some l:=⟨R[t]'(by have:=HR.out.len;have:=HM.out;omega),List.getElem?_eq_getElem _⟩
 have hlr:=HR.out.row l (List.mem_of_getElem? hl)
 rw [HK.out] at hlr
 have hlK:=hlr.1
 have HL:=hid (And.intro hl hlr)
 obtain ⟨ar,cr2,hva,hsl⟩:=E.out.rl.2 t l hl
 obtain ⟨gr,orr,rfl,hgr,_,_,hcr⟩:=SlC.cells hsl (by omega)
 have c0:=cg_ E.out.vr (k:=t) (v := .slice (some ⟨gr,orr,none⟩) K cr2) (by simpa using hva)
 have HCR:=hid (fun (W:World) (h:Below B W0 W) (j:Nat) (u:Value) (hj:(iv l)[j]? = some u)=>bc_ h hgr (hcr j u hj))
 have htt:(0:Int) ≤ (t:Int)∧(t:Int) < (M:Int):=by omega
 clear hl hlr hva hsl hgr hcr hlK
 go_wp2_with fail
 clear c0
 go_loopw [18,80] (fun vs vi wr=>∃ i:Nat,i ≤ K∧vi = .int .i64 i∧vs = .int .i64 ((l.take i).sum:Nat)∧Hid (Below W0.heap.size W0 wr)) (fun _ vi _=>K - (intOf vi).toNat)
 case atStart=>exact ⟨0,by omega,rfl,rfl,hid (Below.refl _ _)⟩
 case round=>
  obtain ⟨i,hi,rfl,rfl,HB⟩:=hrel
  by_cases hlt:i < K
  · have hlt':(i:Int) < (K:Int):=by omega
    have hlt0:(0:Int) ≤ (i:Int):=by omega
    obtain ⟨n,hn⟩:∃ n,l[i]? = some n:=⟨l[i]'(by have:=HL.out.2.1;omega),List.getElem?_eq_getElem _⟩
    have p0:=HCR.out wr (HB.out.mono E.out.sz) i (.int .i64 n) (by simp [iv,hn])
    have hn4:=HL.out.2.2 n (List.mem_of_getElem? hn)
    have hs1:(l.take (i + 1)).sum = (l.take i).sum + n:=by
     rw [List.take_succ_eq_append_getElem (by have:=HL.out.2.1;omega),List.sum_append,show l[i]'(by have:=HL.out.2.1;omega) = n from (List.getElem?_eq_some_iff.1 hn).2]
     simp
    have hsb:=y0_ (l.take i) fun m hm=>HL.out.2.2 m (List.mem_of_mem_take hm)
    have hsb2:(l.take i).length ≤ 6:=by rw [List.length_take];omega
    have HS1:=hid hs1
    obtain ⟨sm,hsm⟩:∃ z,(l.take i).sum = z:=⟨_,rfl⟩
    rw [hsm] at hsb
    simp only [hsm]
    have hw1:IntKind.i64.wrap ((sm:Int) + (n:Int)) = (sm:Int) + (n:Int):=IntWalk.i64_in _ (by omega)
    have hw2:IntKind.i64.wrap ((i:Int) + 1) = (i:Int) + 1:=IntWalk.i64_in _ (by omega)
    have HSM:=hid hsm
    clear hn hs1 hsm hsb hsb2
    go_wp2_with fail
    go_roundw
    case rel=>exact ⟨i + 1,by omega,by go_num,by rw [HS1.out,HSM.out];go_num,HB⟩
    case measure=>simp [intOf];omega
  · have hi2:K = i:=by omega
    subst hi2
    have hsum:(l.take K).sum = rw_ R t:=by
     rw [List.take_of_length_le (by have:=HL.out.2.1;omega),rw_,List.getD_eq_getElem?_getD,HL.out.1];rfl
    replace E:=hid (E.out.on HB.out)
    replace HY:=hid (HY.out.on HB.out)
    simp only [hsum]
    obtain ⟨x,hx⟩:∃ x,C[t]? = some x:=⟨C[t]'(by have:=HM.out;omega),List.getElem?_eq_getElem _⟩
    have HX:=hid hx
    have WE:=hid (weigh_f HO.out HR.out hx HK.out HM.out (E.out.e.s.wide (fun q hq=>by have:=E.out.sz;omega)) (E.out.e.c.wide (fun q hq=>by have:=E.out.sz;omega)))
    obtain ⟨p0,p1⟩:=E.out.e.cs
    clear hsum HB HCR HL hx
    go_wp2_with fail
    refine WE.out.mono ?_
    rintro e w8 ⟨a2,c2,a3,c3,rfl,hs2,hc2,hb⟩
    replace E:=hid (E.out.on hb)
    replace HY:=hid (HY.out.on hb)
    obtain ⟨C',hC'⟩:∃ z,C.set t ⟨(rw_ R t:Nat),(rw_ R t:Nat)⟩ = z:=⟨_,rfl⟩
    rw [hC'] at hc2
    have HC':=hid hC'
    have htl:t < C.length:=by have:=HM.out;omega
    have OR':=hid (hC' ▸ ok_set HO.out HR.out htl)
    have HM':=hid (show C'.length = M by rw [← hC',List.length_set];exact HM.out)
    obtain ⟨T',hYT'⟩:=fiT OR'.out.1
    rw [HK.out,HM'.out,HN.out] at hYT'
    have YT':=hid hYT'
    have S2:=hid hs2
    have C2:=hid hc2
    clear WE hs2 hc2 hb p0 p1 htl hC' hYT'
    go_upto_region 15 with fail
    obtain ⟨w9,hw9⟩:∃ x,w8.alloc (.cells #[.slice a2 K c2, .slice a3 M c3] 60) = x:=⟨_,rfl⟩
    have hb9:Below w8.heap.size w8 w9:=by rw [← hw9];exact (Below.refl _ _).alloc (nl_ _) _
    have h21:w9.heap[w8.heap.size]? = some (.cells #[.slice a2 K c2, .slice a3 M c3] 60 (0,0)):=by rw [← hw9];exact ha_ _ _
    have hz9:w9.heap.size = w8.heap.size + 1:=by rw [← hw9];simp
    obtain ⟨b21,hb21⟩:∃ x,w8.heap.size = x:=⟨_,rfl⟩
    rw [hw9]
    rw [hb21] at h21
    try simp only [hb21]
    have E2:=hid (show ScE w9.heap.size b21 S C' K M a2 a3 c2 c3 w9 from ⟨h21,by omega,S2.out.on hb9,C2.out.on hb9⟩)
    replace E:=hid (E.out.on hb9)
    replace HY:=hid (HY.out.on hb9)
    obtain ⟨p0,p1⟩:=E.out.e.cs
    obtain ⟨q0,q1⟩:=E2.out.cs
    have FI:=hid (vn_ YT'.out HK.out HM'.out (by omega) E2.out.s E2.out.c)
    clear S2 C2 hw9 hb9 h21 hz9 hb21
    go_wp2_with fail
    refine FI.out.mono ?_
    rintro e wa ⟨aw,cw,rfl,hyw,hb⟩
    replace E:=hid (E.out.on hb)
    replace HY:=hid (HY.out.on hb)
    replace E2:=hid ((E2.out.on hb).up hb.size)
    obtain ⟨s,hs⟩:∃ z:Sp,(⟨(rw_ R t:Nat),(rw_ R t:Nat)⟩:Sp) = z:=⟨_,rfl⟩
    have HC2:=hid (show C' = C.set t s by rw [← hs];exact HC'.out.symm)
    have HS1:=hid hs
    have DI:=hid (diff_f HO.out (HC2.out ▸ OR'.out.1) HX.out YT.out (HC2.out ▸ YT'.out) HY.out (HC2.out ▸ hyw) E.out.pw)
    clear FI hyw hb p0 p1 q0 q1 hs
    go_wp2_with fail
    refine DI.out.mono ?_
    rintro e wb ⟨ad,cd,rfl,hb⟩
    replace E:=hid (E.out.on hb)
    replace HY:=hid (HY.out.on hb)
    replace E2:=hid ((E2.out.on hb).up hb.size)
    obtain ⟨d,hd⟩:∃ z,(if s = x then 0 else 1) = z:=⟨_,rfl⟩
    rw [hd]
    have HD:=hid hd
    have hd1:d ≤ 1:=by rw [← hd];split <;> omega
    clear DI hb hd HC'
    go_upto_region 18 with fail
    obtain ⟨gc,oc,rfl,hgc,x0,x1⟩:=sp_at (E.out.e.c.wide (fun q hq=>by have:=E.out.sz;omega)) HX.out
    have hst:C'[t]? = some s:=by rw [HC2.out];exact List.getElem?_set_self (by have:=HM.out;omega)
    have HST:=hid hst
    obtain ⟨gd,od,rfl,hgd,y0,y1⟩:=sp_at E2.out.c hst
    obtain ⟨p0,p1⟩:=E.out.e.cs
    obtain ⟨q0,q1⟩:=E2.out.cs
    have hSb:=And.intro (And.intro p0 p1) (And.intro (And.intro q0 q1) (And.intro (And.intro x0 x1) (And.intro y0 y1)))
    obtain ⟨W1,hW1⟩:∃ y,wb.drew = y:=⟨_,rfl⟩
    have hB1:Below wb.heap.size wb W1:=by rw [← hW1];exact (Below.refl _ _).drew
    replace E:=hid (E.out.on hB1)
    replace HY:=hid (HY.out.on hB1)
    replace E2:=hid ((E2.out.on hB1).up hB1.size)
    refine (wpIn_wide (n:=9)).1 ?_
    refine q8_ (fun W:World=>((W.cell? ⟨b7,0,none⟩ = some (.slice as_ K cs_)∧W.cell? ⟨b7,1,none⟩ = some (.slice (some ⟨gc,oc,none⟩) M cc))∧(W.cell? ⟨b21,0,none⟩ = some (.slice a2 K c2)∧W.cell? ⟨b21,1,none⟩ = some (.slice (some ⟨gd,od,none⟩) M c3))∧(W.cell? ⟨gc,oc + t * 2,none⟩ = some (.int .i64 x.lo)∧W.cell? ⟨gc,oc + t * 2 + 1,none⟩ = some (.int .i64 x.hi))∧W.cell? ⟨gd,od + t * 2,none⟩ = some (.int .i64 s.lo)∧W.cell? ⟨gd,od + t * 2 + 1,none⟩ = some (.int .i64 s.hi))) (by kernel_rfl) ?_
    have hS0:(fun W:World=>((W.cell? ⟨b7,0,none⟩ = some (.slice as_ K cs_)∧W.cell? ⟨b7,1,none⟩ = some (.slice (some ⟨gc,oc,none⟩) M cc))∧(W.cell? ⟨b21,0,none⟩ = some (.slice a2 K c2)∧W.cell? ⟨b21,1,none⟩ = some (.slice (some ⟨gd,od,none⟩) M c3))∧(W.cell? ⟨gc,oc + t * 2,none⟩ = some (.int .i64 x.lo)∧W.cell? ⟨gc,oc + t * 2 + 1,none⟩ = some (.int .i64 x.hi))∧W.cell? ⟨gd,od + t * 2,none⟩ = some (.int .i64 s.lo)∧W.cell? ⟨gd,od + t * 2 + 1,none⟩ = some (.int .i64 s.hi))) W1:=by
     rw [← hW1]
     exact hSb
    rw [hW1]
    have HGD:=hid (show gd < W1.heap.size by have:=hB1.size;omega)
    clear hW1 hB1 hSb hgc x0 x1 hst hgd y0 y1 p0 p1 q0 q1
    obtain ⟨z,hz⟩:∃ z,decide (d = 1) = z:=⟨_,rfl⟩
    have hz1:((d:Int) == 1) = z:=by rw [← hz,Bool.eq_iff_iff];simp;omega
    have hdz:decide (1 < (d:Int)) = false:=by simp;omega
    have hdz':¬ 1 < (d:Int):=by omega
    have hz2:decide (s = x) = !z:=by
     rw [← hz,← HD.out]
     by_cases hh:s = x <;> simp [hh]
    refine tkY 0 124 (.int .i64 0) rfl rfl hS0 (fun w' hs=>?_) ?_
    · obtain ⟨⟨m0,m1⟩,⟨m2,m3⟩,⟨m4,m5⟩,m6,m7⟩:=hs
      go_simp
    refine tkY 1 125 (.bool false) rfl rfl hS0 (fun w' hs=>?_) ?_
    · obtain ⟨⟨m0,m1⟩,⟨m2,m3⟩,⟨m4,m5⟩,m6,m7⟩:=hs
      go_simp
    refine tkY 2 126 (.bool false) rfl rfl hS0 (fun w' hs=>?_) ?_
    · obtain ⟨⟨m0,m1⟩,⟨m2,m3⟩,⟨m4,m5⟩,m6,m7⟩:=hs
      go_simp
    refine tkY 3 127 (.slice ad d cd) rfl rfl hS0 (fun w' hs=>?_) ?_
    · obtain ⟨⟨m0,m1⟩,⟨m2,m3⟩,⟨m4,m5⟩,m6,m7⟩:=hs
      go_simp
    refine tkY 4 128 (.int .i64 d) rfl rfl hS0 (fun w' hs=>?_) ?_
    · obtain ⟨⟨m0,m1⟩,⟨m2,m3⟩,⟨m4,m5⟩,m6,m7⟩:=hs
      go_simp
    refine tkY 5 129 (.bool false) rfl rfl hS0 (fun w' hs=>?_) ?_
    · obtain ⟨⟨m0,m1⟩,⟨m2,m3⟩,⟨m4,m5⟩,m6,m7⟩:=hs
      go_simp
    refine tkY 6 130 (.bool false) rfl rfl hS0 (fun w' hs=>?_) ?_
    · obtain ⟨⟨m0,m1⟩,⟨m2,m3⟩,⟨m4,m5⟩,m6,m7⟩:=hs
      go_simp
    refine tkY 7 131 (.bool false) rfl rfl hS0 (fun w' hs=>?_) ?_
    · obtain ⟨⟨m0,m1⟩,⟨m2,m3⟩,⟨m4,m5⟩,m6,m7⟩:=hs
      go_simp
    refine tkY 8 132 (.slice ad d cd) rfl rfl hS0 (fun w' hs=>?_) ?_
    · obtain ⟨⟨m0,m1⟩,⟨m2,m3⟩,⟨m4,m5⟩,m6,m7⟩:=hs
      go_simp
    refine tkY 9 133 (.int .i64 d) rfl rfl hS0 (fun w' hs=>?_) ?_
    · obtain ⟨⟨m0,m1⟩,⟨m2,m3⟩,⟨m4,m5⟩,m6,m7⟩:=hs
      go_simp
    refine tkY 10 134 (.bool z) rfl rfl hS0 (fun w' hs=>?_) ?_
    · obtain ⟨⟨m0,m1⟩,⟨m2,m3⟩,⟨m4,m5⟩,m6,m7⟩:=hs
      go_simp
    refine tkY 11 135 (.pointer (some ⟨b21,1,none⟩)) rfl rfl hS0 (fun w' hs=>?_) ?_
    · obtain ⟨⟨m0,m1⟩,⟨m2,m3⟩,⟨m4,m5⟩,m6,m7⟩:=hs
      go_simp
    refine tkY 12 136 (.slice (some ⟨gd,od,none⟩) M c3) rfl rfl hS0 (fun w' hs=>?_) ?_
    · obtain ⟨⟨m0,m1⟩,⟨m2,m3⟩,⟨m4,m5⟩,m6,m7⟩:=hs
      go_simp
    refine tkY 13 137 (.int .i64 t) rfl rfl hS0 (fun w' hs=>?_) ?_
    · obtain ⟨⟨m0,m1⟩,⟨m2,m3⟩,⟨m4,m5⟩,m6,m7⟩:=hs
      go_simp
    refine tkY 14 138 (.pointer (some ⟨gd,od + t * 2,none⟩)) rfl rfl hS0 (fun w' hs=>?_) ?_
    · obtain ⟨⟨m0,m1⟩,⟨m2,m3⟩,⟨m4,m5⟩,m6,m7⟩:=hs
      go_simp
    refine tkY 15 139 (.agg #[.int .i64 s.lo, .int .i64 s.hi]) rfl rfl hS0 (fun w' hs=>?_) ?_
    · obtain ⟨⟨m0,m1⟩,⟨m2,m3⟩,⟨m4,m5⟩,m6,m7⟩:=hs
      go_simp
    refine tkY 16 140 (.pointer (some ⟨b7,1,none⟩)) rfl rfl hS0 (fun w' hs=>?_) ?_
    · obtain ⟨⟨m0,m1⟩,⟨m2,m3⟩,⟨m4,m5⟩,m6,m7⟩:=hs
      go_simp
    refine tkY 17 141 (.slice (some ⟨gc,oc,none⟩) M cc) rfl rfl hS0 (fun w' hs=>?_) ?_
    · obtain ⟨⟨m0,m1⟩,⟨m2,m3⟩,⟨m4,m5⟩,m6,m7⟩:=hs
      go_simp
    refine tkY 18 142 (.int .i64 t) rfl rfl hS0 (fun w' hs=>?_) ?_
    · obtain ⟨⟨m0,m1⟩,⟨m2,m3⟩,⟨m4,m5⟩,m6,m7⟩:=hs
      go_simp
    refine tkY 19 143 (.pointer (some ⟨gc,oc + t * 2,none⟩)) rfl rfl hS0 (fun w' hs=>?_) ?_
    · obtain ⟨⟨m0,m1⟩,⟨m2,m3⟩,⟨m4,m5⟩,m6,m7⟩:=hs
      go_simp
    refine tkY 20 144 (.agg #[.int .i64 x.lo, .int .i64 x.hi]) rfl rfl hS0 (fun w' hs=>?_) ?_
    · obtain ⟨⟨m0,m1⟩,⟨m2,m3⟩,⟨m4,m5⟩,m6,m7⟩:=hs
      go_simp
    refine tkY 21 145 (.bool z) rfl rfl hS0 (fun w' hs=>?_) ?_
    · obtain ⟨⟨m0,m1⟩,⟨m2,m3⟩,⟨m4,m5⟩,m6,m7⟩:=hs
      go_simp
      by_cases hh:s = x
      · have hzf:z = false:=by rw [decide_eq_true hh] at hz2;simpa using hz2.symm
        rw [hzf,hh];simp
      · have hzt:z = true:=by rw [decide_eq_false hh] at hz2;simpa using hz2.symm
        have hne:¬ (s.lo = x.lo∧s.hi = x.hi):=fun ⟨h1,h2⟩=>hh (by cases s;cases x;simp at h1 h2;rw [h1,h2])
        rw [hzt]
        by_cases h1:s.lo = x.lo <;> by_cases h2:s.hi = x.hi <;> simp [h1,h2] at hne ⊢
    refine tkY 22 146 (.bool false) rfl rfl hS0 (fun w' hs=>?_) ?_
    · obtain ⟨⟨m0,m1⟩,⟨m2,m3⟩,⟨m4,m5⟩,m6,m7⟩:=hs
      go_simp
    refine tkY 23 147 (.bool false) rfl rfl hS0 (fun w' hs=>?_) ?_
    · obtain ⟨⟨m0,m1⟩,⟨m2,m3⟩,⟨m4,m5⟩,m6,m7⟩:=hs
      go_simp
    refine q7_ (by kernel_rfl) ?_
    go_simp
    clear hS0 hz hz1 hdz hdz' hz2
    obtain ⟨Bq,hBq⟩:∃ z,W1.heap.size = z:=⟨_,rfl⟩
    have F:=hid (show EnB w bp Bq b7 b21 S C C' K M N as_ (some ⟨gc,oc,none⟩) a2 (some ⟨gd,od,none⟩) ay cs_ cc c2 c3 cy W1 from ⟨E.out.e.up (by have:=E.out.sz;omega),E2.out.up (by omega),hBq ▸ HY.out,fun W' h=>E.out.pw.below (hBq ▸ h),by omega,E.out.bw,by have:=E.out.sz;have:=E.out.hb;omega⟩)
    have HQ:=hid hBq
    replace HGD:=hid (show gd < Bq from hBq ▸ HGD.out)
    clear E E2 HY hBq
    go_upto_region 20 with fail
    obtain ⟨w10,hw10⟩:∃ y,W1 = y:=⟨_,rfl⟩
    subst hw10
    go_cut [23] from 148 to 154 (fun vx wx=>∃ g1 g2 bo co cp:Nat,vx = .pointer (some ⟨bo,0,none⟩)∧Hid (OwE Bq g1 g2 bo co cp K M (stL S) (zA_ C) wx)∧Hid (Below Bq W1 wx))
    case first=>
     obtain ⟨W0,hW0⟩:∃ y,W1.drew = y:=⟨_,rfl⟩
     have hB0:Below Bq W1 W0:=by rw [← hW0];exact (Below.refl _ _).drew
     have B0:=hid hB0
     have hs0:=hB0.size
     have hq0:=HQ.out
     refine (wpIn_wide (n:=9)).1 ?_
     refine q8_ (fun W:World=>W.cell? ⟨b7,0,none⟩ = some (.slice as_ K cs_)∧W.cell? ⟨b7,1,none⟩ = some (.slice (some ⟨gc,oc,none⟩) M cc)) (by kernel_rfl) ?_
     rw [hW0]
     have SC:=hid (fun (V:World) (h:Below Bq W1 V)=>show (fun W:World=>W.cell? ⟨b7,0,none⟩ = some (.slice as_ K cs_)∧W.cell? ⟨b7,1,none⟩ = some (.slice (some ⟨gc,oc,none⟩) M cc)) V from (F.out.e.on h).cs)
     have hS0:W0.cell? ⟨b7,0,none⟩ = some (.slice as_ K cs_)∧W0.cell? ⟨b7,1,none⟩ = some (.slice (some ⟨gc,oc,none⟩) M cc):=SC.out W0 hB0
     clear hW0 hB0
     refine tkZ 0 148 (.pointer (some ⟨b7,0,none⟩)) rfl rfl hS0 ?_
     refine tkZ 1 149 (.slice as_ K cs_) rfl rfl hS0 ?_
     refine tkZ 3 151 (.pointer (some ⟨b7,1,none⟩)) rfl rfl hS0 ?_
     refine tkZ 4 152 (.slice (some ⟨gc,oc,none⟩) M cc) rfl rfl hS0 ?_
     clear hS0
     refine LF.yy_ (i:=2) (j:=7) (by kernel_rfl) rfl rfl (by kernel_rfl) (by kernel_rfl) (fun Kq hK=>?_) (fun Kq hK=>?_)
     · have CL:=hid (dupS_f HK.out hK6 ((F.out.on B0.out).e.s.wide (fun q hq=>by have:=(F.out.on B0.out).sz;omega)))
       go_simp
       refine ⟨trivial,(callsIn_wide.2 CL.out).mono ?_⟩
       rintro e W101 ⟨g1,co,rfl,ho,hb⟩
       have hg1:=ho.lt g1 rfl
       have hsz101:=hb.size
       have B101:=hid (B0.out.trans (hb.mono (by omega)))
       have O1101:=hid (qp_ (base':=Bq) ho (fun g hg=>by have:=(ho.lt g hg).1;omega))
       refine hK _ _ ⟨SC.out W101 B101.out,?_⟩
       clear hK CL ho hb
       refine LF.yy_ (i:=5) (j:=7) (by kernel_rfl) rfl rfl (by kernel_rfl) (by kernel_rfl) (fun Kq hK=>?_) (fun Kq hK=>?_)
       · have CL:=hid (dupC_f HM.out hM5 ((F.out.on B101.out).e.c.wide (fun q hq=>by have:=(F.out.on B101.out).sz;omega)))
         go_simp
         refine ⟨trivial,(callsIn_wide.2 CL.out).mono ?_⟩
         rintro e W102 ⟨g2,cp,rfl,ho,hb⟩
         have hg2:=ho.lt g2 rfl
         have hsz102:=hb.size
         have B102:=hid (B101.out.trans (hb.mono (by omega)))
         have O2102:=hid (qp_ (base':=Bq) ho (fun g hg=>by have:=(ho.lt g hg).1;omega))
         have O1102:=hid (ob_ O1101.out hb (nl_ _))
         refine hK _ _ ⟨SC.out W102 B102.out,?_⟩
         clear hK CL ho hb
         have hSn:=SC.out W102 B102.out
         refine tkY 6 154 (.agg #[.slice (some ⟨g1,0,none⟩) K co, .slice (some ⟨g2,0,none⟩) M cp]) rfl rfl hSn (fun w' hs=>?_) ?_
         · go_simp
         clear hSn
         refine qb_ (i:=7) (by kernel_rfl) rfl (by kernel_rfl) (fun Kq hK=>?_)
         go_simp
         obtain ⟨W103,hnew⟩:∃ y,W102.alloc (.cells #[.slice none 0 0, .slice none 0 0] 60) = y:=⟨_,rfl⟩
         have hb:Below W102.heap.size W102 W103:=by rw [← hnew];exact (Below.refl _ _).alloc (nl_ _) _
         have hn:W103.heap[W102.heap.size]? = some (.cells #[.slice none 0 0, .slice none 0 0] 60 (0,0)):=by rw [← hnew];exact ha_ _ _
         have hsz:W103.heap.size = W102.heap.size + 1:=by rw [← hnew];simp
         obtain ⟨bo,hbn⟩:∃ b,W102.heap.size = b:=⟨_,rfl⟩
         rw [hbn] at hn
         rw [hnew]
         try simp only [hbn]
         have B103:=hid (B102.out.trans (hb.mono (by omega)))
         have hbo:W102.heap.size ≤ bo∧bo < W103.heap.size:=by omega
         have hsz103:=hb.size
         have N103:=hid hn
         have O1103:=hid (ob_ O1102.out hb (nl_ _))
         have O2103:=hid (ob_ O2102.out hb (nl_ _))
         refine hK _ _ ⟨SC.out W103 B103.out,?_⟩
         clear hK hb hn hbn hnew hsz
         refine qb_ (i:=8) (by kernel_rfl) rfl (by kernel_rfl) (fun Kq hK=>?_)
         have z0:=cg_ N103.out (k:=0) (v := .slice none 0 0) rfl
         have z1:=cg_ N103.out (k:=1) (v := .slice none 0 0) rfl
         have f0:=cells_frz N103.out (k:=0)
         have f1:=cells_frz N103.out (k:=1)
         go_simp
         obtain ⟨W104,hnew⟩:∃ y,(W103.setCell ⟨bo,0,none⟩ (.slice (some ⟨g1,0,none⟩) K co)).setCell ⟨bo,1,none⟩ (.slice (some ⟨g2,0,none⟩) M cp) = y:=⟨_,rfl⟩
         have hkb:Keep (· = bo) W103 W104:=by rw [← hnew];exact (Keep.setCell (O:=(· = bo)) (A:=W103) (p:=⟨bo,0,none⟩) rfl).trans (Keep.setCell (p:=⟨bo,1,none⟩) rfl)
         have B104:=hid (show Below Bq W1 W104 from B103.out.trans (hkb.below (by omega) (fun b hb e=>by omega)))
         have OE:=hid (show OwE Bq g1 g2 bo co cp K M (stL S) (zA_ C) W104 from ⟨owns_agree O1103.out (fun g hg=>by obtain rfl:g1 = g:=Option.some.inj hg;exact hkb.block g1 (by omega) (by omega)),owns_agree O2103.out (fun g hg=>by obtain rfl:g2 = g:=Option.some.inj hg;exact hkb.block g2 (by omega) (by omega)),by rw [← hnew];exact (q4_ (q4_ N103.out)).trans (by rfl),by omega,by omega,by omega,by omega⟩)
         rw [hnew]
         refine hK _ _ ⟨SC.out W104 B104.out,?_⟩
         clear hK z0 z1 f0 f1 hnew hkb
         refine q7_ (by kernel_rfl) ?_
         go_simp
         go_wp2_with fail
         go_meet
         case rel=>exact ⟨g1,g2,bo,co,cp,rfl,OE,B104⟩
       · go_simp
         obtain ⟨W105,hnew⟩:∃ y,W101.alloc (.cells #[.slice none 0 0, .slice none 0 0] 60) = y:=⟨_,rfl⟩
         have hb:Below W101.heap.size W101 W105:=by rw [← hnew];exact (Below.refl _ _).alloc (nl_ _) _
         have hn:W105.heap[W101.heap.size]? = some (.cells #[.slice none 0 0, .slice none 0 0] 60 (0,0)):=by rw [← hnew];exact ha_ _ _
         have hsz:W105.heap.size = W101.heap.size + 1:=by rw [← hnew];simp
         obtain ⟨bo,hbn⟩:∃ b,W101.heap.size = b:=⟨_,rfl⟩
         rw [hbn] at hn
         rw [hnew]
         try simp only [hbn]
         have B105:=hid (B101.out.trans (hb.mono (by omega)))
         have hbo:W101.heap.size ≤ bo∧bo < W105.heap.size:=by omega
         have hsz105:=hb.size
         have N105:=hid hn
         have O1105:=hid (ob_ O1101.out hb (nl_ _))
         refine hK _ _ ⟨SC.out W105 B105.out,?_⟩
         clear hK hb hn hbn hnew hsz
         refine qb_ (i:=5) (by kernel_rfl) rfl (by kernel_rfl) (fun Kq hK=>?_)
         have CL:=hid (dupC_f HM.out hM5 ((F.out.on B105.out).e.c.wide (fun q hq=>by have:=(F.out.on B105.out).sz;omega)))
         go_simp
         refine ⟨trivial,(callsIn_wide.2 CL.out).mono ?_⟩
         rintro e W106 ⟨g2,cp,rfl,ho,hb⟩
         have hg2:=ho.lt g2 rfl
         have hsz106:=hb.size
         have B106:=hid (B105.out.trans (hb.mono (by omega)))
         have O2106:=hid (qp_ (base':=Bq) ho (fun g hg=>by have:=(ho.lt g hg).1;omega))
         have O1106:=hid (ob_ O1105.out hb (nl_ _))
         have N106:=hid (q0_ N105.out hb)
         refine hK _ _ ⟨SC.out W106 B106.out,?_⟩
         clear hK CL ho hb
         have hSn:=SC.out W106 B106.out
         refine tkY 6 154 (.agg #[.slice (some ⟨g1,0,none⟩) K co, .slice (some ⟨g2,0,none⟩) M cp]) rfl rfl hSn (fun w' hs=>?_) ?_
         · go_simp
         clear hSn
         refine qb_ (i:=8) (by kernel_rfl) rfl (by kernel_rfl) (fun Kq hK=>?_)
         have z0:=cg_ N106.out (k:=0) (v := .slice none 0 0) rfl
         have z1:=cg_ N106.out (k:=1) (v := .slice none 0 0) rfl
         have f0:=cells_frz N106.out (k:=0)
         have f1:=cells_frz N106.out (k:=1)
         go_simp
         obtain ⟨W107,hnew⟩:∃ y,(W106.setCell ⟨bo,0,none⟩ (.slice (some ⟨g1,0,none⟩) K co)).setCell ⟨bo,1,none⟩ (.slice (some ⟨g2,0,none⟩) M cp) = y:=⟨_,rfl⟩
         have hkb:Keep (· = bo) W106 W107:=by rw [← hnew];exact (Keep.setCell (O:=(· = bo)) (A:=W106) (p:=⟨bo,0,none⟩) rfl).trans (Keep.setCell (p:=⟨bo,1,none⟩) rfl)
         have B107:=hid (show Below Bq W1 W107 from B106.out.trans (hkb.below (by omega) (fun b hb e=>by omega)))
         have OE:=hid (show OwE Bq g1 g2 bo co cp K M (stL S) (zA_ C) W107 from ⟨owns_agree O1106.out (fun g hg=>by obtain rfl:g1 = g:=Option.some.inj hg;exact hkb.block g1 (by omega) (by omega)),owns_agree O2106.out (fun g hg=>by obtain rfl:g2 = g:=Option.some.inj hg;exact hkb.block g2 (by omega) (by omega)),by rw [← hnew];exact (q4_ (q4_ N106.out)).trans (by rfl),by omega,by omega,by omega,by omega⟩)
         rw [hnew]
         refine hK _ _ ⟨SC.out W107 B107.out,?_⟩
         clear hK z0 z1 f0 f1 hnew hkb
         refine q7_ (by kernel_rfl) ?_
         go_simp
         go_wp2_with fail
         go_meet
         case rel=>exact ⟨g1,g2,bo,co,cp,rfl,OE,B107⟩
     · go_simp
       obtain ⟨W108,hnew⟩:∃ y,W0.alloc (.cells #[.slice none 0 0, .slice none 0 0] 60) = y:=⟨_,rfl⟩
       have hb:Below W0.heap.size W0 W108:=by rw [← hnew];exact (Below.refl _ _).alloc (nl_ _) _
       have hn:W108.heap[W0.heap.size]? = some (.cells #[.slice none 0 0, .slice none 0 0] 60 (0,0)):=by rw [← hnew];exact ha_ _ _
       have hsz:W108.heap.size = W0.heap.size + 1:=by rw [← hnew];simp
       obtain ⟨bo,hbn⟩:∃ b,W0.heap.size = b:=⟨_,rfl⟩
       rw [hbn] at hn
       rw [hnew]
       try simp only [hbn]
       have B108:=hid (B0.out.trans (hb.mono (by omega)))
       have hbo:W0.heap.size ≤ bo∧bo < W108.heap.size:=by omega
       have hsz108:=hb.size
       have N108:=hid hn
       refine hK _ _ ⟨SC.out W108 B108.out,?_⟩
       clear hK hb hn hbn hnew hsz
       refine qb_ (i:=2) (by kernel_rfl) rfl (by kernel_rfl) (fun Kq hK=>?_)
       have CL:=hid (dupS_f HK.out hK6 ((F.out.on B108.out).e.s.wide (fun q hq=>by have:=(F.out.on B108.out).sz;omega)))
       go_simp
       refine ⟨trivial,(callsIn_wide.2 CL.out).mono ?_⟩
       rintro e W109 ⟨g1,co,rfl,ho,hb⟩
       have hg1:=ho.lt g1 rfl
       have hsz109:=hb.size
       have B109:=hid (B108.out.trans (hb.mono (by omega)))
       have O1109:=hid (qp_ (base':=Bq) ho (fun g hg=>by have:=(ho.lt g hg).1;omega))
       have N109:=hid (q0_ N108.out hb)
       refine hK _ _ ⟨SC.out W109 B109.out,?_⟩
       clear hK CL ho hb
       refine qb_ (i:=5) (by kernel_rfl) rfl (by kernel_rfl) (fun Kq hK=>?_)
       have CL:=hid (dupC_f HM.out hM5 ((F.out.on B109.out).e.c.wide (fun q hq=>by have:=(F.out.on B109.out).sz;omega)))
       go_simp
       refine ⟨trivial,(callsIn_wide.2 CL.out).mono ?_⟩
       rintro e W110 ⟨g2,cp,rfl,ho,hb⟩
       have hg2:=ho.lt g2 rfl
       have hsz110:=hb.size
       have B110:=hid (B109.out.trans (hb.mono (by omega)))
       have O2110:=hid (qp_ (base':=Bq) ho (fun g hg=>by have:=(ho.lt g hg).1;omega))
       have O1110:=hid (ob_ O1109.out hb (nl_ _))
       have N110:=hid (q0_ N109.out hb)
       refine hK _ _ ⟨SC.out W110 B110.out,?_⟩
       clear hK CL ho hb
       have hSn:=SC.out W110 B110.out
       refine tkY 6 154 (.agg #[.slice (some ⟨g1,0,none⟩) K co, .slice (some ⟨g2,0,none⟩) M cp]) rfl rfl hSn (fun w' hs=>?_) ?_
       · go_simp
       clear hSn
       refine qb_ (i:=8) (by kernel_rfl) rfl (by kernel_rfl) (fun Kq hK=>?_)
       have z0:=cg_ N110.out (k:=0) (v := .slice none 0 0) rfl
       have z1:=cg_ N110.out (k:=1) (v := .slice none 0 0) rfl
       have f0:=cells_frz N110.out (k:=0)
       have f1:=cells_frz N110.out (k:=1)
       go_simp
       obtain ⟨W111,hnew⟩:∃ y,(W110.setCell ⟨bo,0,none⟩ (.slice (some ⟨g1,0,none⟩) K co)).setCell ⟨bo,1,none⟩ (.slice (some ⟨g2,0,none⟩) M cp) = y:=⟨_,rfl⟩
       have hkb:Keep (· = bo) W110 W111:=by rw [← hnew];exact (Keep.setCell (O:=(· = bo)) (A:=W110) (p:=⟨bo,0,none⟩) rfl).trans (Keep.setCell (p:=⟨bo,1,none⟩) rfl)
       have B111:=hid (show Below Bq W1 W111 from B110.out.trans (hkb.below (by omega) (fun b hb e=>by omega)))
       have OE:=hid (show OwE Bq g1 g2 bo co cp K M (stL S) (zA_ C) W111 from ⟨owns_agree O1110.out (fun g hg=>by obtain rfl:g1 = g:=Option.some.inj hg;exact hkb.block g1 (by omega) (by omega)),owns_agree O2110.out (fun g hg=>by obtain rfl:g2 = g:=Option.some.inj hg;exact hkb.block g2 (by omega) (by omega)),by rw [← hnew];exact (q4_ (q4_ N110.out)).trans (by rfl),by omega,by omega,by omega,by omega⟩)
       rw [hnew]
       refine hK _ _ ⟨SC.out W111 B111.out,?_⟩
       clear hK z0 z1 f0 f1 hnew hkb
       refine q7_ (by kernel_rfl) ?_
       go_simp
       go_wp2_with fail
       go_meet
       case rel=>exact ⟨g1,g2,bo,co,cp,rfl,OE,B111⟩
    case rest=>
     obtain ⟨g1,g2,bo,co,cp,rfl,OE,B8⟩:=hcut
     replace F:=hid (F.out.on B8.out)
     obtain ⟨w11,hw11⟩:∃ v,v = wc:=⟨_,rfl⟩
     subst hw11
     clear B8 HQ
     go_upto_region 21 with fail
     have hkS:k < S.length:=by have:=HK.out;omega
     have hsh:=(sh_le HO.out (List.mem_of_getElem? (qI_ hkS)))
     have hsb:=zj_ hsh.2.1
     simp only at hsb
     obtain ⟨sh,hshe⟩:∃ z,(stX S k).sh = z:=⟨_,rfl⟩
     have hw1:IntKind.i64.wrap (sh + 1) = sh + 1:=IntWalk.i64_in _ (by omega)
     have hkk:(0:Int) ≤ (k:Int)∧(k:Int) < (K:Int):=by omega
     have hmo:(mor (stX S k)).sh = min 30 (sh + 1):=by rw [← hshe];rfl
     obtain ⟨p0,p1⟩:=OE.out.cs
     obtain ⟨p2,p3⟩:=OE.out.cell HK.out hlt2
     rw [hshe] at p2
     have HSH:=hid hshe
     have hSb:=p0
     obtain ⟨W2,hW2⟩:∃ y,w11.drew = y:=⟨_,rfl⟩
     have hB2:Below w11.heap.size w11 W2:=by rw [← hW2];exact (Below.refl _ _).drew
     replace OE:=hid (OE.out.on hB2)
     replace F:=hid (F.out.on (hB2.mono F.out.sz))
     refine (wpIn_wide (n:=9)).1 ?_
     refine q8_ (fun W:World=>W.cell? ⟨bo,0,none⟩ = some (.slice (some ⟨g1,0,none⟩) K co)) (by kernel_rfl) ?_
     have hS0:(fun W:World=>W.cell? ⟨bo,0,none⟩ = some (.slice (some ⟨g1,0,none⟩) K co)) W2:=by
      rw [← hW2]
      exact hSb
     rw [hW2]
     clear hW2 hB2 hSb p0 p1 p2 p3 hsh hkS hshe hsb
     refine tkY 0 155 (.pointer (some ⟨bo,0,none⟩)) rfl rfl hS0 (fun w' hs=>?_) ?_
     · go_simp
     refine tkY 1 156 (.slice (some ⟨g1,0,none⟩) K co) rfl rfl hS0 (fun w' hs=>?_) ?_
     · go_simp
     refine tkY 2 157 (.int .i64 k) rfl rfl hS0 (fun w' hs=>?_) ?_
     · go_simp
     refine tkY 3 158 (.pointer (some ⟨bo,0,none⟩)) rfl rfl hS0 (fun w' hs=>?_) ?_
     · go_simp
     refine tkY 4 159 (.slice (some ⟨g1,0,none⟩) K co) rfl rfl hS0 (fun w' hs=>?_) ?_
     · go_simp
     refine tkY 5 160 (.int .i64 k) rfl rfl hS0 (fun w' hs=>?_) ?_
     · go_simp
     refine tkY 6 161 (.pointer (some ⟨g1,k * 7,none⟩)) rfl rfl hS0 (fun w' hs=>?_) ?_
     · go_simp
     refine tkY 7 162 (.pointer (some ⟨g1,k * 7 + 3,none⟩)) rfl rfl hS0 (fun w' hs=>?_) ?_
     · go_simp
     refine tkY 8 163 (.pointer (some ⟨g1,k * 7 + 4,none⟩)) rfl rfl hS0 (fun w' hs=>?_) ?_
     · go_simp
     clear hS0
     refine qb_ (i:=9) (by kernel_rfl) rfl (by kernel_rfl) (fun Kq hK=>?_)
     obtain ⟨p0,p1⟩:=OE.out.cs
     obtain ⟨p2,p3⟩:=OE.out.cell HK.out hlt2
     rw [HSH.out] at p2
     go_simp
     refine hK _ _ ⟨p0,?_⟩
     clear hK
     refine tkY 10 165 (.int .i64 (sh + 1)) rfl rfl p0 (fun w' hs=>?_) ?_
     · go_simp
     refine tkY 11 166 (.int .i64 (min 30 (sh + 1))) rfl rfl p0 (fun w' hs=>?_) ?_
     · go_simp
     refine tkY 12 167 (.pointer (some ⟨g1,k * 7,none⟩)) rfl rfl p0 (fun w' hs=>?_) ?_
     · go_simp
     refine tkY 13 168 (.pointer (some ⟨g1,k * 7 + 3,none⟩)) rfl rfl p0 (fun w' hs=>?_) ?_
     · go_simp
     refine tkY 14 169 (.pointer (some ⟨g1,k * 7 + 4,none⟩)) rfl rfl p0 (fun w' hs=>?_) ?_
     · go_simp
     refine qb_ (i:=15) (by kernel_rfl) rfl (by kernel_rfl) (fun Kq hK=>?_)
     have OM:=hid (OE.out.more HK.out hlt2)
     rw [hmo] at OM
     go_simp
     obtain ⟨W3,hW3⟩:∃ y,W2.setCell ⟨g1,k * 7 + 4,none⟩ (.int .i64 (min 30 (sh + 1))) = y:=⟨_,rfl⟩
     rw [hW3] at OM
     rw [hW3]
     replace OE:=hid OM.out.1
     replace F:=hid (F.out.on OM.out.2)
     obtain ⟨S',hS'⟩:∃ z,S.set k (mor (stX S k)) = z:=⟨_,rfl⟩
     rw [hS'] at OE
     have HS':=hid hS'
     obtain ⟨p4,p5⟩:=OE.out.cs
     refine hK _ _ ⟨p4,?_⟩
     clear hK OM hW3 hmo hw1 p0 p1 p2 p3 p4 p5 hS' hkk
     refine q7_ (by kernel_rfl) ?_
     go_simp
     go_upto_region 22 with fail
     obtain ⟨q0,q1⟩:=F.out.e2.cs
     obtain ⟨p0,p1⟩:=OE.out.cs
     have hSb:=And.intro (And.intro q0 q1) (And.intro p0 p1)
     have hkS:k < S.length:=by have:=HK.out;omega
     have OS':=hid (show OkSc S' C∧OkSc S' C'∧ShF S' C' R∧S'.length = K from by rw [← HS'.out];exact ⟨ok_mor HO.out hkS,ok_mor OR'.out.1 hkS,sh_mor OR'.out.1 OR'.out.2 hkS,by rw [List.length_set];exact HK.out⟩)
     obtain ⟨T3,hT3⟩:=fiT OS'.out.1
     rw [OS'.out.2.2.2,HM.out,HN.out] at hT3
     obtain ⟨T4,hT4⟩:=fiT OS'.out.2.1
     rw [OS'.out.2.2.2,HM'.out,HN.out] at hT4
     have Y3:=hid hT3
     have Y4:=hid hT4
     obtain ⟨W4,hW4⟩:∃ y,W3.drew = y:=⟨_,rfl⟩
     have hB4:Below W3.heap.size W3 W4:=by rw [← hW4];exact (Below.refl _ _).drew
     replace OE:=hid (OE.out.on hB4)
     replace F:=hid (F.out.on (hB4.mono F.out.sz))
     refine (wpIn_wide (n:=9)).1 ?_
     refine q8_ (fun W:World=>(W.cell? ⟨b21,0,none⟩ = some (.slice a2 K c2)∧W.cell? ⟨b21,1,none⟩ = some (.slice (some ⟨gd,od,none⟩) M c3))∧W.cell? ⟨bo,0,none⟩ = some (.slice (some ⟨g1,0,none⟩) K co)∧W.cell? ⟨bo,1,none⟩ = some (.slice (some ⟨g2,0,none⟩) M cp)) (by kernel_rfl) ?_
     have hS0:(W4.cell? ⟨b21,0,none⟩ = some (.slice a2 K c2)∧W4.cell? ⟨b21,1,none⟩ = some (.slice (some ⟨gd,od,none⟩) M c3))∧W4.cell? ⟨bo,0,none⟩ = some (.slice (some ⟨g1,0,none⟩) K co)∧W4.cell? ⟨bo,1,none⟩ = some (.slice (some ⟨g2,0,none⟩) M cp):=by
      rw [← hW4]
      exact hSb
     rw [hW4]
     clear hW4 hB4 hSb p0 p1 q0 q1 hkS hT3 hT4
     refine tkY 0 171 (.slice ay N cy) rfl rfl hS0 (fun w' hs=>?_) ?_
     · obtain ⟨⟨q0,q1⟩,q2,q3⟩:=hs
       go_simp
     refine tkY 1 172 (.agg #[.slice a2 K c2, .slice (some ⟨gd,od,none⟩) M c3]) rfl rfl hS0 (fun w' hs=>?_) ?_
     · obtain ⟨⟨q0,q1⟩,q2,q3⟩:=hs
       go_simp
     refine tkY 3 174 (.agg #[.slice (some ⟨g1,0,none⟩) K co, .slice (some ⟨g2,0,none⟩) M cp]) rfl rfl hS0 (fun w' hs=>?_) ?_
     · obtain ⟨⟨q0,q1⟩,q2,q3⟩:=hs
       go_simp
     clear hS0
     refine qb_ (i:=2) (by kernel_rfl) rfl (by kernel_rfl) (fun Kq hK=>?_)
     have CL:=hid (vn_ YT'.out HK.out HM'.out (by omega) (F.out.e2.s.wide (fun q hq=>by have:=F.out.sz;omega)) (F.out.e2.c.wide (fun q hq=>by have:=F.out.sz;omega)))
     go_simp
     refine ⟨trivial,(callsIn_wide.2 CL.out).mono ?_⟩
     rintro e W5 ⟨ax,cx,rfl,hx5,hb⟩
     replace F:=hid (F.out.on (hb.mono F.out.sz))
     replace OE:=hid (OE.out.on hb)
     have HX5:=hid hx5
     refine hK _ _ ⟨⟨F.out.e2.cs,OE.out.cs⟩,?_⟩
     clear hK CL hb hx5
     refine qb_ (i:=4) (by kernel_rfl) rfl (by kernel_rfl) (fun Kq hK=>?_)
     have CL:=hid (vn_ Y3.out OS'.out.2.2.2 HM.out (by omega) (OE.out.st OS'.out.2.2.2) (OE.out.sp HM.out))
     go_simp
     refine ⟨trivial,(callsIn_wide.2 CL.out).mono ?_⟩
     rintro e W6 ⟨ao,co2,rfl,hx6,hb⟩
     replace F:=hid (F.out.on (hb.mono F.out.sz))
     replace OE:=hid (OE.out.on hb)
     have HX6:=hid hx6
     replace HX5:=hid (HX5.out.on hb)
     refine hK _ _ ⟨⟨F.out.e2.cs,OE.out.cs⟩,?_⟩
     clear hK CL hb hx6
     refine qb_ (i:=5) (by kernel_rfl) rfl (by kernel_rfl) (fun Kq hK=>?_)
     have CL:=hid (join_f HO.out OR'.out.1 OS'.out.1 OS'.out.2.1 (HK.out.trans OS'.out.2.2.2.symm) (fun i=>by rw [← HS'.out];exact (mor_t S k i).2) (HM.out.trans HM'.out.symm) YT.out YT'.out Y3.out Y4.out (F.out.y.up F.out.sz) HX5.out HX6.out (F.out.pw _ (Below.refl _ _)))
     go_simp
     refine ⟨trivial,(callsIn_wide.2 CL.out).mono ?_⟩
     rintro e W7 ⟨am,cm,aq,cq,rfl,hxm,hb⟩
     have HG2:=hid (show g2 < W6.heap.size from (OE.out.o2.lt g2 rfl).2)
     replace F:=hid (F.out.on (hb.mono F.out.sz))
     replace OE:=hid (OE.out.on hb)
     have HXM:=hid hxm
     have hSn:(W7.cell? ⟨b21,0,none⟩ = some (.slice a2 K c2)∧W7.cell? ⟨b21,1,none⟩ = some (.slice (some ⟨gd,od,none⟩) M c3))∧W7.cell? ⟨bo,0,none⟩ = some (.slice (some ⟨g1,0,none⟩) K co)∧W7.cell? ⟨bo,1,none⟩ = some (.slice (some ⟨g2,0,none⟩) M cp):=⟨F.out.e2.cs,OE.out.cs⟩
     refine hK _ _ ⟨hSn,?_⟩
     clear hK CL hb hxm HX5 HX6
     refine tkY 6 170 (.tuple #[.slice am N cm, .slice aq 0 cq, .int .i64 0]) rfl rfl hSn (fun w' hs=>?_) ?_
     · obtain ⟨⟨q0,q1⟩,q2,q3⟩:=hs
       go_simp
     refine tkY 7 177 (.slice am N cm) rfl rfl hSn (fun w' hs=>?_) ?_
     · obtain ⟨⟨q0,q1⟩,q2,q3⟩:=hs
       go_simp
     refine tkY 8 178 (.slice aq 0 cq) rfl rfl hSn (fun w' hs=>?_) ?_
     · obtain ⟨⟨q0,q1⟩,q2,q3⟩:=hs
       go_simp
     refine tkY 9 179 (.int .i64 0) rfl rfl hSn (fun w' hs=>?_) ?_
     · obtain ⟨⟨q0,q1⟩,q2,q3⟩:=hs
       go_simp
     refine tkY 10 24 (.slice am N cm) rfl rfl hSn (fun w' hs=>?_) ?_
     · obtain ⟨⟨q0,q1⟩,q2,q3⟩:=hs
       go_simp
     refine tkY 11 25 (.slice aq 0 cq) rfl rfl hSn (fun w' hs=>?_) ?_
     · obtain ⟨⟨q0,q1⟩,q2,q3⟩:=hs
       go_simp
     refine tkY 12 11 (.int .i64 0) rfl rfl hSn (fun w' hs=>?_) ?_
     · obtain ⟨⟨q0,q1⟩,q2,q3⟩:=hs
       go_simp
     clear hSn
     refine q7_ (by kernel_rfl) ?_
     go_simp
     go_upto_region 23 with fail
     obtain ⟨gd',od',hgde,hgd,y0,y1⟩:=sp_at (F.out.e2.c.wide (fun q hq=>(show q < W7.heap.size by have:=F.out.sz;omega))) HST.out
     obtain ⟨rfl,rfl⟩:gd = gd'∧od = od':=by simpa using hgde
     have htt2:(0:Int) ≤ (t:Int)∧(t:Int) < (M:Int):=by omega
     have hSb:=And.intro (And.intro F.out.e2.cs.2 OE.out.cs.2) (And.intro y0 y1)
     obtain ⟨W8,hW8⟩:∃ y,W7.drew = y:=⟨_,rfl⟩
     have hB8:Below W7.heap.size W7 W8:=by rw [← hW8];exact (Below.refl _ _).drew
     replace OE:=hid (OE.out.on hB8)
     replace F:=hid (F.out.on (hB8.mono F.out.sz))
     replace HXM:=hid (show FSl (Rg W6.heap.size W8.heap.size) W8 (.slice am N cm) (fiF S' C') from (HXM.out.agree (q9_ hB8 fun _ e=>e.2)).wide fun q hq=>⟨hq.1,by have:=hB8.size;have:=hq.2;omega⟩)
     refine (wpIn_wide (n:=9)).1 ?_
     refine q8_ (fun W:World=>(W.cell? ⟨b21,1,none⟩ = some (.slice (some ⟨gd,od,none⟩) M c3)∧W.cell? ⟨bo,1,none⟩ = some (.slice (some ⟨g2,0,none⟩) M cp))∧W.cell? ⟨gd,od + t * 2,none⟩ = some (.int .i64 s.lo)∧W.cell? ⟨gd,od + t * 2 + 1,none⟩ = some (.int .i64 s.hi)) (by kernel_rfl) ?_
     have hS0:(W8.cell? ⟨b21,1,none⟩ = some (.slice (some ⟨gd,od,none⟩) M c3)∧W8.cell? ⟨bo,1,none⟩ = some (.slice (some ⟨g2,0,none⟩) M cp))∧W8.cell? ⟨gd,od + t * 2,none⟩ = some (.int .i64 s.lo)∧W8.cell? ⟨gd,od + t * 2 + 1,none⟩ = some (.int .i64 s.hi):=by
      rw [← hW8]
      exact hSb
     rw [hW8]
     clear hW8 hB8 hSb hgde hgd y0 y1
     refine tkY 0 180 (.pointer (some ⟨bo,1,none⟩)) rfl rfl hS0 (fun w' hs=>?_) ?_
     · obtain ⟨⟨q0,q1⟩,q2,q3⟩:=hs
       go_simp
     refine tkY 1 181 (.slice (some ⟨g2,0,none⟩) M cp) rfl rfl hS0 (fun w' hs=>?_) ?_
     · obtain ⟨⟨q0,q1⟩,q2,q3⟩:=hs
       go_simp
     refine tkY 2 182 (.int .i64 t) rfl rfl hS0 (fun w' hs=>?_) ?_
     · obtain ⟨⟨q0,q1⟩,q2,q3⟩:=hs
       go_simp
     refine tkY 3 183 (.pointer (some ⟨b21,1,none⟩)) rfl rfl hS0 (fun w' hs=>?_) ?_
     · obtain ⟨⟨q0,q1⟩,q2,q3⟩:=hs
       go_simp
     refine tkY 4 184 (.slice (some ⟨gd,od,none⟩) M c3) rfl rfl hS0 (fun w' hs=>?_) ?_
     · obtain ⟨⟨q0,q1⟩,q2,q3⟩:=hs
       go_simp
     refine tkY 5 185 (.int .i64 t) rfl rfl hS0 (fun w' hs=>?_) ?_
     · obtain ⟨⟨q0,q1⟩,q2,q3⟩:=hs
       go_simp
     refine tkY 6 186 (.pointer (some ⟨gd,od + t * 2,none⟩)) rfl rfl hS0 (fun w' hs=>?_) ?_
     · obtain ⟨⟨q0,q1⟩,q2,q3⟩:=hs
       go_simp
     refine tkY 7 187 (.agg #[.int .i64 s.lo, .int .i64 s.hi]) rfl rfl hS0 (fun w' hs=>?_) ?_
     · obtain ⟨⟨q0,q1⟩,q2,q3⟩:=hs
       go_simp
     refine tkY 8 188 (.pointer (some ⟨g2,t * 2,none⟩)) rfl rfl hS0 (fun w' hs=>?_) ?_
     · obtain ⟨⟨q0,q1⟩,q2,q3⟩:=hs
       go_simp
     refine qb_ (i:=9) (by kernel_rfl) rfl (by kernel_rfl) (fun Kq hK=>?_)
     obtain ⟨⟨p0,p1⟩,p2,p3⟩:=OE.out.cellC hlt1 HX.out
     obtain ⟨⟨z1,_⟩,z2,z3⟩:=hS0
     have OM:=hid (OE.out.setC (s:=s) HM.out hlt1)
     rw [← HC2.out] at OM
     go_simp
     obtain ⟨W9,hW9⟩:∃ y,(W8.setCell ⟨g2,t * 2,none⟩ (.int .i64 s.lo)).setCell ⟨g2,t * 2 + 1,none⟩ (.int .i64 s.hi) = y:=⟨_,rfl⟩
     rw [hW9] at OM
     rw [hW9]
     have hgd:=HGD.out
     refine hK _ _ ⟨⟨⟨(F.out.on OM.out.2).e2.cs.2,OM.out.1.cs.2⟩,bc_ OM.out.2 hgd z2,bc_ OM.out.2 hgd z3⟩,?_⟩
     replace OE:=hid OM.out.1
     replace F:=hid (F.out.on OM.out.2)
     replace HXM:=hid (show In W9 (.slice am N cm) (fiF S' C') from (HXM.out.agree (fun b hb=>by rw [← hW9];exact (Below.heap_setCell _ _ _ _ (fun e=>by have:=HG2.out;have:=hb.1;simp only at e;omega)).trans (Below.heap_setCell _ _ _ _ (fun e=>by have:=HG2.out;have:=hb.1;simp only at e;omega)))).wide fun q hq=>by have:=hq.2;rw [← hW9];simpa [World.setCell] using this)
     clear hK OM hW9 p0 p1 p2 p3 z1 z2 z3
     refine q7_ (by kernel_rfl) ?_
     go_simp
     obtain ⟨p0,p1⟩:=OE.out.cs
     have LE:=hid (least_f OS'.out.2.1 OS'.out.2.2.1 OS'.out.2.2.2 HM'.out (OE.out.st OS'.out.2.2.2) (OE.out.sp HM'.out))
     go_wp2_with fail
     refine LE.out.mono ?_
     rintro e Wa ⟨ra,wsa,rfl,f1,f2,f3,hb⟩
     have HA:=hid (And.intro f1 (And.intro f2 f3))
     replace F:=hid (F.out.on (hb.mono F.out.sz))
     replace OE:=hid (OE.out.on hb)
     replace HXM:=hid (HXM.out.on hb)
     obtain ⟨ka,hka⟩:∃ z,costW wsa = z:=⟨_,rfl⟩
     have HKA:=hid hka
     rw [hka]
     clear LE f1 f2 f3 hb p0 p1 hka
     obtain ⟨q0,q1⟩:=F.out.e2.cs
     have LE:=hid (least_f OR'.out.1 OR'.out.2 HK.out HM'.out (F.out.e2.s.wide (fun q hq=>by have:=F.out.sz;omega)) (F.out.e2.c.wide (fun q hq=>by have:=F.out.sz;omega)))
     go_wp2_with fail
     refine LE.out.mono ?_
     rintro e Wb ⟨rb,wsb,rfl,f1,f2,f3,hb⟩
     replace F:=hid (F.out.on (hb.mono F.out.sz))
     replace OE:=hid (OE.out.on hb)
     replace HXM:=hid (HXM.out.on hb)
     have hle:=less_f (k:=k) OR'.out.1 (by rw [HS'.out];exact HA.out.2.2) (by rw [HS'.out];exact HA.out.2.1) f1 f2
     obtain ⟨kb,hkb⟩:∃ z,costW wsb = z:=⟨_,rfl⟩
     rw [hkb,HKA.out] at hle
     rw [hkb]
     have hled:decide (ka ≤ kb) = true:=decide_eq_true hle
     clear LE f1 f2 f3 hb q0 q1 hkb
     obtain ⟨p0,p1⟩:=OE.out.cs
     have FI:=hid (vn_ Y4.out OS'.out.2.2.2 HM'.out (by omega) (OE.out.st OS'.out.2.2.2) (OE.out.sp HM'.out))
     go_wp2_with fail
     refine FI.out.mono ?_
     rintro e Wc ⟨af,cf,rfl,hf,hb⟩
     replace F:=hid (F.out.on (hb.mono F.out.sz))
     replace HXM:=hid (HXM.out.on hb)
     have AL:=hid (alike_f Y4.out HXM.out hf)
     clear FI hf hb p0 p1
     go_wp2_with fail
     refine AL.out.mono ?_
     rintro e Wd ⟨rfl,hb⟩
     replace F:=hid (F.out.on (hb.mono F.out.sz))
     have AW:=hid (awake_any Wd (F.out.pw _ (Below.refl _ _)))
     clear AL hb
     go_wp2_with fail
     refine AW.out.mono ?_
     rintro e We ⟨rfl,hb⟩
     replace F:=hid (F.out.on (hb.mono F.out.sz))
     clear AW hb
     go_wp2_with fail
     go_ret
     exact ⟨rfl,HBP.out ▸ F.out.bw⟩
end Go.Proofs.LS