/- Parts of the proof of a law of layer 11 (file): LfYat. The conditions stand in each theorem. -/
import Derived.Test.YtffjknkcogmnbaaGreatDoorProg
import Derived.Test.YtffjknkcogmnbaaGreatDoorSpal
import Derived.Test.YtffjknkcogmnbaaGreatDoorSpaq
import Derived.Test.YtffjknkcogmnbaaGreatDoorSpav
import Derived.Test.YtffjknkcogmnbaaGreatDoorSpaw
set_option linter.all false
set_option linter.unusedVariables false
set_option linter.unusedSimpArgs false
set_option linter.all false
set_option linter.unusedVariables false
set_option linter.unusedSimpArgs false
namespace Go.Proofs.LF
open Go.RowKit Go.Sort
set_option maxHeartbeats 4000000
set_option maxRecDepth 100000
attribute [local go_sem] q1_ q2_ q6_
def joE (x y z:Fo):Int:=if cpE [x,y,z] ≠ 0 then cpE [x,y,z] else if 60 < (joF x y z).1.length then 2 else 0
def joY (x y z:Fo):Fo:=if joE x y z = 0 then (treF 0 (joF x y z).1).1 else .nil
def joP (x y z:Fo):List (List Ky):=if joE x y z = 0 then (joF x y z).2 else []
def JoiR (x y z:Fo) (w:World) (e:Ending) (w':World):Prop:=
 ∃ a c a' c',e = .returned (.tuple #[.slice a (joY x y z).len c, .slice a' (joP x y z).length c', .int .i64 (joE x y z)])∧FSl (Rg w.heap.size w'.heap.size) w' (.slice a (joY x y z).len c) (joY x y z) ∧
  PaSl (Rg w.heap.size w'.heap.size) w' (.slice a' (joP x y z).length c') (joP x y z)∧Below w.heap.size w w'
def JoiU (x y z:Fo) (w:World) (e:Ending) (w':World):Prop:=
 ∃ a c a' c',e = .returned (.tuple #[.slice a (joY x y z).len c, .slice a' (joP x y z).length c', .int .i64 (joE x y z)])∧FSlU (Rg w.heap.size w'.heap.size) w' (.slice a (joY x y z).len c) (joY x y z) ∧
  PaSl (Rg w.heap.size w'.heap.size) w' (.slice a' (joP x y z).length c') (joP x y z)∧Below w.heap.size w w'
theorem JoiU.bad {x y z:Fo} {w w':World} {n:Int} (hn:joE x y z = n) (h0:n ≠ 0) (hb:Below w.heap.size w w'):JoiU x y z w (.returned (.tuple #[.slice none 0 0, .slice none 0 0, .int .i64 n])) w':=by
 subst hn
 have hY:joY x y z = .nil:=by rw [joY,if_neg h0]
 have hP:joP x y z = []:=by rw [joP,if_neg h0]
 exact ⟨none,0,none,0,by rw [hY,hP];rfl,by rw [hY];exact ⟨[],⟨rfl,none,0,rfl,nl_ _,by simp [maxLen],fun _=>rfl, .inl rfl⟩,rfl⟩,by rw [hP];exact ⟨[],⟨rfl,none,0,rfl,nl_ _,by simp [maxLen],fun _=>rfl, .inl rfl⟩,rfl⟩,hb⟩
theorem cpE_zero {x y z:Fo} (h:cpE [x,y,z] = 0):qz_ x = 0∧qz_ y = 0∧qz_ z = 0:=by
 simp only [cpE] at h
 by_cases h1:qz_ x = 0
 · by_cases h2:qz_ y = 0
   · by_cases h3:qz_ z = 0
     · exact ⟨h1,h2,h3⟩
     · simp [h1,h2,h3] at h
   · simp [h1,h2] at h
 · simp [h1] at h
theorem k5_ {y:Fo} {u:List Ky}:∀ x ∈ flsL u y,x.p ≠ []:=fun x hx=>by
 simp only [flsL,List.mem_map] at hx
 obtain ⟨z,_,rfl⟩:=hx
 simp
def stJ (o a b:List Fl) (con:List (List Ky)) (p:List Ky):List Fl × List (List Ky):=if smF a b p ∨ smF o b p then (a,con) else if smF o a p then (b,con) else (o,con ++ [p])
theorem jnF_cons (o a b all:List Fl) (con:List (List Ky)) (p:List Ky) (r:List (List Ky)):jnF o a b all con (p :: r) = jnF o a b (match fnd (stJ o a b con p).1 p with | some f=>all ++ [f] | none=>all) (stJ o a b con p).2 r:=rfl
def Ry (lo hi:Nat) (v v2:Value) (b:Nat):Prop:=lo ≤ b∧b < hi∧v.ownBlock ≠ some b∧v2.ownBlock ≠ some b
theorem jO_:∀ {l kept:List Fl} {out:List (List Ky)},(∀ x ∈ (lsF kept out l).1,x ∈ kept ∨ x ∈ l)∧∀ p ∈ (lsF kept out l).2,p ∈ out ∨ ∃ x ∈ l,x.p = p
 | [],kept,out=>⟨fun x hx => .inl hx,fun p hp => .inl hp⟩
 | f :: r,kept,out=>by
   simp only [lsF]
   split
   · obtain ⟨h1,h2⟩:=jO_ (l:=r) (kept:=kept ++ [f]) (out:=out)
     refine ⟨fun x hx=>?_,fun p hp=>?_⟩
     · rcases h1 x hx with h | h
       · rcases List.mem_append.1 h with h | h
         · exact .inl h
         · simp only [List.mem_singleton] at h;exact .inr (by simp [h])
       · exact .inr (by simp [h])
     · rcases h2 p hp with h | ⟨x,hx,h⟩
       · exact .inl h
       · exact .inr ⟨x,by simp [hx],h⟩
   · obtain ⟨h1,h2⟩:=jO_ (l:=r) (kept:=kept) (out:=out ++ [f.p])
     refine ⟨fun x hx=>?_,fun p hp=>?_⟩
     · rcases h1 x hx with h | h
       · exact .inl h
       · exact .inr (by simp [h])
     · rcases h2 p hp with h | ⟨x,hx,h⟩
       · rcases List.mem_append.1 h with h | h
         · exact .inl h
         · simp only [List.mem_singleton] at h;exact .inr ⟨f,by simp,h.symm⟩
       · exact .inr ⟨x,by simp [hx],h⟩
theorem jW_ {w3 wr W7 w8 w9:World} {u11 u12:Value} {SL:Nat→Prop} {con:List (List Ky)} {p:List Ky} {ds cs:List Value} {all:List Fl} {a8 a9:Option Addr} {c8 c9:Nat} (hB:Below w3.heap.size w3 wr) (hSL:∀ b,SL b→b < w3.heap.size)
 (hown:wr.ownsRow w3.heap.size 98 2 u11 all.length cs) (hlc:LCs xn_ SL wr all cs) (hown2:wr.ownsRow w3.heap.size 92 1 u12 con.length ds) (hlc2:LCs vP_ (Ry w3.heap.size wr.heap.size u11 u12) wr con ds) (hcon:∀ q ∈ con,q.length ≤ 1000) (hsep:∀ b,u11.ownBlock = some b→u12.ownBlock ≠ some b)
 (lp:p.length ≤ 1000) (hb7:Below wr.heap.size wr W7) (hb8:Below W7.heap.size W7 w8) (hp8:Pth (Rg W7.heap.size w8.heap.size) w8 (.slice a8 p.length c8) p) (hown9:w9.ownsRow w3.heap.size 92 1 (.slice a9 (con.length + 1) c9) (con.length + 1) (ds ++ [.slice a8 p.length c8]))
 (hgrow9:(w8.alloc (.cells #[.slice a8 p.length c8] 92)).grownBy w9 u12.ownBlock) (hat9:∀ g,(Value.slice a9 (con.length + 1) c9).ownBlock = some g→u12.ownBlock = some g ∨ g = (w8.alloc (.cells #[.slice a8 p.length c8] 92)).heap.size) :
 w9.ownsRow w3.heap.size 92 1 (.slice a9 (con.length + 1) c9) (con ++ [p]).length (ds ++ [.slice a8 p.length c8])∧Hid (LCs vP_ (Ry w3.heap.size w9.heap.size u11 (.slice a9 (con.length + 1) c9)) w9 (con ++ [p]) (ds ++ [.slice a8 p.length c8]))∧Hid (∀ q ∈ con ++ [p],q.length ≤ 1000) ∧
  Hid (∀ b,u11.ownBlock = some b→(Value.slice a9 (con.length + 1) c9).ownBlock ≠ some b)∧w9.ownsRow w3.heap.size 98 2 u11 all.length cs∧Hid (LCs xn_ SL w9 all cs)∧Hid (Below w3.heap.size w3 w9):=by
 have hz:=hB.size
 have hz7:=hb7.size
 have hz8:=hb8.size
 have hz9:=hgrow9.size
 simp only [World.size_alloc] at hz9
 have hz9a:(w8.alloc (.cells #[.slice a8 p.length c8] 92)).heap.size = w8.heap.size + 1:=by simp
 have hl1:∀ b,u11.ownBlock = some b→w3.heap.size ≤ b∧b < wr.heap.size:=fun b hb=>hown.lt b hb
 have hl2:∀ b,u12.ownBlock = some b→w3.heap.size ≤ b∧b < wr.heap.size:=fun b hb=>hown2.lt b hb
 have h8:∀ b,b < w8.heap.size→u12.ownBlock ≠ some b→w9.heap[b]? = w8.heap[b]?:=fun b hb hn=>(hgrow9.block b (by omega) (fun e=>hn e.symm)).trans (heap_alloc_old _ _ hb)
 have hr:∀ b,b < wr.heap.size→u12.ownBlock ≠ some b→w9.heap[b]? = wr.heap[b]?:=fun b hb hn=>(h8 b (by omega) hn).trans ((hb8.block b (by omega)).trans (hb7.block b hb))
 have hS:qd_ SL wr w9:=fun b hb=>hr b (by have:=hSL b hb;omega) (fun e=>by have:=(hl2 b e).1;have:=hSL b hb;omega)
 have hnew:∀ b,b < w8.heap.size→u12.ownBlock ≠ some b→(Value.slice a9 (con.length + 1) c9).ownBlock ≠ some b:=fun b hb hn e=>by
  rcases hat9 b e with h | h
  · exact hn h
  · omega
 refine ⟨by rw [List.length_append];exact hown9,?_,?_,?_,?_,hlc.agree hS,?_⟩
 · refine LCs.app ((hlc2.agree (fun b hb=>hr b hb.2.1 hb.2.2.2)).wide (fun b hb=>⟨hb.1,by have:=hb.2.1;omega,hb.2.2.1,hnew b (by have:=hb.2.1;omega) hb.2.2.2⟩)) (LCs.single ⟨a8,c8,rfl,(hp8.agree (fun b hb=>h8 b hb.2 (fun e=>by have:=(hl2 b e).2;have:=hb.1;omega))).wide (fun b hb=>⟨by have:=hb.1;omega,by have:=hb.2;omega,fun e=>by have:=(hl1 b e).2;have:=hb.1;omega,hnew b hb.2 (fun e=>by have:=(hl2 b e).2;have:=hb.1;omega)⟩)⟩)
 · intro q hq
   rcases List.mem_append.1 hq with h | h
   · exact hcon q h
   · simp only [List.mem_singleton] at h;rw [h];exact lp
 · exact fun b hb=>hnew b (by have:=(hl1 b hb).2;omega) (hsep b hb)
 · exact owns_agree hown fun b hb=>hr b (hl1 b hb).2 (hsep b hb)
 · exact ((hB.trans ((hb7.trans (hb8.mono hz7)).mono hz)).alloc (by omega) _).grown hgrow9 (by omega) (fun b hb=>(hl2 b hb).1)
theorem join_all {w3 wc W w4:World} {u11 u12:Value} {SL:Nat→Prop} {con:List (List Ky)} {x:Fl} {ds cs:List Value} {all:List Fl} {ap an a4:Option Addr} {cp cn c4:Nat} (hB:Below w3.heap.size w3 wc) (hSL:∀ b,SL b→b < w3.heap.size)
 (hown:wc.ownsRow w3.heap.size 98 2 u11 all.length cs) (hlc:LCs xn_ SL wc all cs) (hown2:wc.ownsRow w3.heap.size 92 1 u12 con.length ds) (hlc2:LCs vP_ (Ry w3.heap.size wc.heap.size u11 u12) wc con ds) (hsep:∀ b,u11.ownBlock = some b→u12.ownBlock ≠ some b)
 (hb:Below wc.heap.size wc W) (hp:Pth SL W (.slice ap x.p.length cp) x.p) (hi:qF_ SL W (.slice an x.l.length cn) x.l)
 (hown4:w4.ownsRow w3.heap.size 98 2 (.slice a4 (all.length + 1) c4) (all.length + 1) (cs ++ [.slice ap x.p.length cp, .slice an x.l.length cn])) (hgrow4:W.grownBy w4 u11.ownBlock) (hat4:∀ g,(Value.slice a4 (all.length + 1) c4).ownBlock = some g→u11.ownBlock = some g ∨ g = W.heap.size) :
 w4.ownsRow w3.heap.size 98 2 (.slice a4 (all.length + 1) c4) (all ++ [x]).length (cs ++ [.slice ap x.p.length cp, .slice an x.l.length cn])∧Hid (LCs xn_ SL w4 (all ++ [x]) (cs ++ [.slice ap x.p.length cp, .slice an x.l.length cn]))∧w4.ownsRow w3.heap.size 92 1 u12 con.length ds ∧
  Hid (LCs vP_ (Ry w3.heap.size w4.heap.size (.slice a4 (all.length + 1) c4) u12) w4 con ds)∧Hid (∀ b,(Value.slice a4 (all.length + 1) c4).ownBlock = some b→u12.ownBlock ≠ some b)∧Hid (Below w3.heap.size w3 w4):=by
 have hz:=hB.size
 have hz7:=hb.size
 have hz9:=hgrow4.size
 have hl1:∀ b,u11.ownBlock = some b→w3.heap.size ≤ b∧b < wc.heap.size:=fun b hb=>hown.lt b hb
 have hl2:∀ b,u12.ownBlock = some b→w3.heap.size ≤ b∧b < wc.heap.size:=fun b hb=>hown2.lt b hb
 have hr:∀ b,b < wc.heap.size→u11.ownBlock ≠ some b→w4.heap[b]? = wc.heap[b]?:=fun b hb' hn=>(hgrow4.block b (by omega) (fun e=>hn e.symm)).trans (hb.block b hb')
 have hS:qd_ SL wc w4:=fun b hb=>hr b (by have:=hSL b hb;omega) (fun e=>by have:=(hl1 b e).1;have:=hSL b hb;omega)
 have hSW:qd_ SL W w4:=fun b hb=>hgrow4.block b (by have:=hSL b hb;omega) (fun e=>by have:=(hl1 b e.symm).1;have:=hSL b hb;omega)
 have hnew:∀ b,b < wc.heap.size→u11.ownBlock ≠ some b→(Value.slice a4 (all.length + 1) c4).ownBlock ≠ some b:=fun b hb hn e=>by
  rcases hat4 b e with h | h
  · exact hn h
  · omega
 refine ⟨by rw [List.length_append];exact hown4,(hlc.agree hS).app (LCs.single ⟨ap,cp,an,cn,rfl,hp.agree hSW,hi.agree hSW⟩),?_,?_,?_,?_⟩
 · exact owns_agree hown2 fun b hb=>hr b (hl2 b hb).2 (fun e=>hsep b e hb)
 · exact (hlc2.agree (fun b hb=>hr b hb.2.1 hb.2.2.1)).wide (fun b hb=>⟨hb.1,by have:=hb.2.1;omega,hnew b hb.2.1 hb.2.2.1,hb.2.2.2⟩)
 · intro b hb h2
   exact hnew b (hl2 b h2).2 (fun e=>hsep b e h2) hb
 · exact (hB.trans (hb.mono hz)).grown hgrow4 (by omega) (fun b hb=>(hl1 b hb).1)
theorem Join_u (x y z:Fo) (ax ay az:Option Addr) (cx cy cz:Nat) (S:Nat→Prop) (w:World) (hx:FSl S w (.slice ax x.len cx) x) (hy:FSl S w (.slice ay y.len cy) y) (hz:FSl S w (.slice az z.len cz) z) (hS:∀ b,S b→b < w.heap.size)
 (lx:x.len ≤ 1000∧x.Sm∧x.cnt ≤ 900) (ly:y.len ≤ 1000∧y.Sm∧y.cnt ≤ 900) (lz:z.len ≤ 1000∧z.Sm∧z.cnt ≤ 900) (ht:Pow w) :
 Calls Tryz.prog 8 #[.slice ax x.len cx, .slice ay y.len cy, .slice az z.len cz] w (JoiU x y z w):=by
 have hb1:Below w.heap.size w (w.alloc (.cells #[.slice ax x.len cx, .slice ay y.len cy, .slice az z.len cz] 38)):=(Below.refl _ _).alloc (nl_ _) _
 have hblk:=ha_ w (.cells #[.slice ax x.len cx, .slice ay y.len cy, .slice az z.len cz] 38)
 have hls:LSl rdYs (fun b=>S b ∨ b = w.heap.size) (w.alloc (.cells #[.slice ax x.len cx, .slice ay y.len cy, .slice az z.len cz] 38)) (.slice (some ⟨w.heap.size,0,none⟩) [x,y,z].length 3) [x,y,z]:=by
  refine ⟨[.slice ax x.len cx, .slice ay y.len cy, .slice az z.len cz],⟨rfl,_,3,rfl,by simp,by simp [maxLen],(fun h=>by cases h), .inr ⟨_,0,rfl, .inr rfl,fun j u hj=>?_⟩⟩,
   _,_,rfl,⟨ax,cx,rfl,(hx.agree (q9_ hb1 hS)).wide fun b hb => .inl hb⟩,_,_,rfl,⟨ay,cy,rfl,(hy.agree (q9_ hb1 hS)).wide fun b hb => .inl hb⟩,_,_,rfl,⟨az,cz,rfl,(hz.agree (q9_ hb1 hS)).wide fun b hb => .inl hb⟩,rfl⟩
  have:=cg_ hblk (k:=j) (v:=u) (by simpa using hj)
  simpa using this
 have HCP:=hid (wf_ [x,y,z] (some ⟨w.heap.size,0,none⟩) 3 _ _ hls (fun b hb=>by rcases hb with hb | rfl;have:=hS b hb;simp;omega;simp) (by simp) (fun y' hy'=>by
  simp only [List.mem_cons,List.not_mem_nil,or_false] at hy'
  rcases hy' with rfl | rfl | rfl
  · exact lx
  · exact ly
  · exact lz))
 have HB1:=hid hb1
 have HT:=hid ht
 clear hx hy hz hS hb1 hblk hls ht lx ly lz
 go_enter Tryz.func8,Tryz.ntmps8
 go_wp2_with fail
 refine HCP.out.mono ?_
 rintro e w2 ⟨a2,c2,rfl,hL2,hb2⟩
 have HB2:=hid (HB1.out.trans (hb2.mono (by simp)))
 have hz2:=hb2.size
 simp only [World.size_alloc] at hz2
 clear hb2
 by_cases hc:cpE [x,y,z] = 0
 · have hc':(cpE [x,y,z] != 0) = false:=by simpa using hc
   obtain ⟨q1,q2,q3⟩:=cpE_zero hc
   have fx:=vT_ q1
   have fy:=vT_ q2
   have fz:=vT_ q3
   have hcl:cpL [x,y,z] = [flsL [] x,flsL [] y,flsL [] z]:=by rw [cpL,if_pos hc];rfl
   have hneo:=k5_ (y:=x) (u:=[])
   have hnea:=k5_ (y:=y) (u:=[])
   have hneb:=k5_ (y:=z) (u:=[])
   have hjo:joF x y z = ((lsF [] [] (jnF (flsL [] x) (flsL [] y) (flsL [] z) [] [] (pthsF [flsL [] x,flsL [] y,flsL [] z])).1).1,j9_ (cnF (jnF (flsL [] x) (flsL [] y) (flsL [] z) [] [] (pthsF [flsL [] x,flsL [] y,flsL [] z])).2 (lsF [] [] (jnF (flsL [] x) (flsL [] y) (flsL [] z) [] [] (pthsF [flsL [] x,flsL [] y,flsL [] z])).1).2)):=rfl
   rw [hcl] at hL2 ⊢
   obtain ⟨fo,hfo⟩:∃ f,flsL [] x = f:=⟨_,rfl⟩
   obtain ⟨fa,hfa⟩:∃ f,flsL [] y = f:=⟨_,rfl⟩
   obtain ⟨fb,hfb⟩:∃ f,flsL [] z = f:=⟨_,rfl⟩
   rw [hfo,hfa,hfb] at hL2 hjo ⊢
   rw [hfo] at fx hneo
   rw [hfa] at fy hnea
   rw [hfb] at fz hneb
   obtain ⟨SL,hSL⟩:∃ SL:Nat→Prop,SL = Rg (w.alloc (.cells #[.slice ax x.len cx, .slice ay y.len cy, .slice az z.len cz] 38)).heap.size w2.heap.size:=⟨_,rfl⟩
   rw [← hSL] at hL2
   have hSLt:∀ b,SL b→b < w2.heap.size:=fun b hb=>by rw [hSL] at hb;exact hb.2
   obtain ⟨ps,hps⟩:∃ ps,pthsF [fo,fa,fb] = ps:=⟨_,rfl⟩
   have hpl:ps.length ≤ 180:=by
    have:=yB_ (ls:=[fo,fa,fb])
    rw [hps] at this
    have h1:=fx.2.2;have h2:=fy.2.2;have h3:=fz.2.2
    simp at this;omega
   have hpm:∀ p ∈ ps,p.length ≤ 1000∧∀ k ∈ p,OkK k:=by
    intro p hp
    rw [← hps] at hp
    obtain ⟨u,hu,rfl⟩:=yq_ hp
    simp only [List.flatten_cons,List.flatten_nil,List.append_nil,List.mem_append] at hu
    rcases hu with hu | hu | hu
    · exact fx.2.1 u hu
    · exact fy.2.1 u hu
    · exact fz.2.1 u hu
   have hpth:=xX_ [fo,fa,fb] a2 c2 SL w2 hL2 hSLt (by simp) (by have h1:=fx.2.2;have h2:=fy.2.2;have h3:=fz.2.2;simp;omega) (fun u hu=>by
    simp only [List.flatten_cons,List.flatten_nil,List.append_nil,List.mem_append] at hu
    rcases hu with hu | hu | hu
    · exact fx.2.1 u hu
    · exact fy.2.1 u hu
    · exact fz.2.1 u hu) (HT.out.below HB2.out)
   rw [hps] at hpth hjo
   obtain ⟨aL,cL,heL,hcL,hcmL,hatL⟩:=hL2.at
   obtain ⟨rfl,rfl⟩:a2 = aL∧c2 = cL:=by cases heL;exact ⟨rfl,rfl⟩
   obtain ⟨g,o,cs0,rfl,hg,⟨aO,cO,rfl,hFO⟩,hcell0⟩:=hatL 0 (by simp)
   obtain ⟨g',o',cs1,he1,_,⟨aA,cA,rfl,hFA⟩,hcell1⟩:=hatL 1 (by simp)
   obtain ⟨rfl,rfl⟩:g = g'∧o = o':=by cases he1;exact ⟨rfl,rfl⟩
   obtain ⟨g',o',cs2,he2,_,⟨aB,cB,rfl,hFB⟩,hcell2⟩:=hatL 2 (by simp)
   obtain ⟨rfl,rfl⟩:g = g'∧o = o':=by cases he2;exact ⟨rfl,rfl⟩
   have d0:w2.cell? ⟨g,o,none⟩ = some (.slice aO fo.length cO):=by have:=hcell0 0 _ rfl;simpa using this
   have d1:w2.cell? ⟨g,o + 1,none⟩ = some (.slice aA fa.length cA):=by have:=hcell1 0 _ rfl;simpa using this
   have d2:w2.cell? ⟨g,o + 2,none⟩ = some (.slice aB fb.length cB):=by have:=hcell2 0 _ rfl;simpa using this
   simp only [List.getElem_cons_zero,List.getElem_cons_succ] at hFO hFA hFB
   have HD0:=hid d0
   have HD1:=hid d1
   have HD2:=hid d2
   have HFO:=hid hFO
   have HFA:=hid hFA
   have HFB:=hid hFB
   have HPT:=hid hpth
   have HJO:=hid hjo
   have HPM:=hid hpm
   have HC:=hid hc
   have SO:=hid fx.1
   have SA:=hid fy.1
   have SB:=hid fz.1
   have lO:=fx.2.2
   have lA:=fy.2.2
   have lB:=fz.2.2
   have NO:=hid hneo
   have NA:=hid hnea
   have NB:=hid hneb
   have hgl:g < w2.heap.size:=hSLt g hg
   have HSL:=hid hSLt
   unfold maxLen at hcmL
   clear hSL hSLt hc fx fy fz hcl hneo hnea hneb hjo hfo hfa hfb hpm hpth hps hL2 heL hatL hcell0 hcell1 hcell2 he1 he2 hFO hFA hFB d0 d1 d2 q1 q2 q3 HCP
   go_wp2_with fail
   refine HPT.out.mono ?_
   rintro e w3 ⟨a3,c3,rfl,hP3,hb3⟩
   have hz3:=hb3.size
   have HB3:=hid (HB2.out.trans (hb3.mono (by omega)))
   obtain ⟨a',c',he,hc,hcm,hat⟩:=hP3.at
   obtain ⟨rfl,rfl⟩:a3 = a'∧c3 = c':=by cases he;exact ⟨rfl,rfl⟩
   have HAT:=hid hat
   have HX3:=hid hb3
   clear hP3 he hat hb3
   unfold maxLen at hcm
   go_wp2_with fail
   have hS3:∀ b,(SL b ∨ Rg w2.heap.size w3.heap.size b)→b < w3.heap.size:=fun b hb=>hb.elim (fun h=>by have:=HSL.out b h;omega) (fun h=>h.2)
   have HS3:=hid hS3
   have HSL3:=hid (show ∀ b,SL b→b < w3.heap.size from fun b hb=>by have:=HSL.out b hb;omega)
   have HFO3:=hid (LSl.agree HFO.out (q9_ HX3.out HSL.out))
   have HFA3:=hid (LSl.agree HFA.out (q9_ HX3.out HSL.out))
   have HFB3:=hid (LSl.agree HFB.out (q9_ HX3.out HSL.out))
   have d0:=bc_ HX3.out hgl HD0.out
   have d1:=bc_ HX3.out hgl HD1.out
   have d2:=bc_ HX3.out hgl HD2.out
   have HE0:=hid d0
   have HE1:=hid d1
   have HE2:=hid d2
   obtain ⟨i0,hi0,hz0,hz1,hzb⟩:=info_parts Tryz.info171''
   obtain ⟨j0,hj0,hy0,hy1,hyb⟩:=info_parts Tryz.info65'
   clear hS3 d0 d1 d2
   go_loopw [11,12,36] (fun v v2 i wr=>∃ (k:Nat) (all:List Fl) (con:List (List Ky)) (cs ds:List Value),k ≤ ps.length∧i = .int .i64 k∧all.length ≤ k∧con.length ≤ k∧Hid (jnF fo fa fb [] [] ps = jnF fo fa fb all con (ps.drop k)) ∧
    wr.ownsRow w3.heap.size 98 2 v all.length cs∧Hid (LCs xn_ SL wr all cs)∧Hid (SmF all∧∀ u ∈ all,u.p ≠ [])∧wr.ownsRow w3.heap.size 92 1 v2 con.length ds∧Hid (LCs vP_ (Ry w3.heap.size wr.heap.size v v2) wr con ds)∧Hid (∀ p ∈ con,p.length ≤ 1000) ∧
    Hid (∀ b,v.ownBlock = some b→v2.ownBlock ≠ some b)∧Hid (Below w3.heap.size w3 wr)) (fun _ _ i _=>ps.length - (intOf i).toNat)
   case atStart=>exact ⟨0,[],[],[],[],by omega,rfl,by simp,by simp,rfl,World.ownsRow_nil _ _ _ _,rfl,⟨(fun u hu=>by cases hu),(fun u hu=>by cases hu)⟩,World.ownsRow_nil _ _ _ _,rfl,(fun u hu=>by cases hu),(fun b hb=>by simp [Value.ownBlock] at hb),Below.refl _ _⟩
   case round=>
    obtain ⟨k,all,con,cs,ds,hk,rfl,hak,hck,hD,hown,hlc,hsma,hown2,hlc2,hcon,hsep,hB⟩:=hrel
    have hzr:=hB.out.size
    by_cases hlt:k < ps.length
    · have hlt':(k:Int) < (ps.length:Int):=by omega
      obtain ⟨gp,op,csp,rfl,hgp,⟨ap,cp,rfl,hP⟩,hcell⟩:=HAT.out k hlt
      have c0:=(q9_ hB.out HS3.out).cell hgp (hcell 0 _ rfl)
      rw [Nat.mul_one,Nat.add_zero] at c0
      have hpk:=HPM.out ps[k] (List.getElem_mem hlt)
      have hdk:ps.drop k = ps[k] :: ps.drop (k + 1):=List.drop_eq_getElem_cons hlt
      obtain ⟨p,hp⟩:∃ p,ps[k] = p:=⟨_,rfl⟩
      rw [hp] at c0 hP hpk hdk
      have SAME:∀ (W:World),Below w3.heap.size w3 W→(Calls Tryz.prog 30 #[.slice aA fa.length cA, .slice aB fb.length cB, .slice ap p.length cp] W fun e w'=>e = .returned (.bool (smF fa fb p))∧Below W.heap.size W w') ∧
       (Calls Tryz.prog 30 #[.slice aO fo.length cO, .slice aB fb.length cB, .slice ap p.length cp] W fun e w'=>e = .returned (.bool (smF fo fb p))∧Below W.heap.size W w') ∧
       (Calls Tryz.prog 30 #[.slice aO fo.length cO, .slice aA fa.length cA, .slice ap p.length cp] W fun e w'=>e = .returned (.bool (smF fo fa p))∧Below W.heap.size W w') ∧
       (Calls Tryz.prog 31 #[.slice ap p.length cp] W fun e w'=>∃ a' c',e = .returned (.slice a' p.length c')∧Pth (Rg W.heap.size w'.heap.size) w' (.slice a' p.length c') p∧Below W.heap.size W w'):=fun W hW=>by
       have hs:=hW.size
       have hA:=q9_ hW HSL3.out
       have hA3:=q9_ hW HS3.out
       have hl:∀ b,SL b→b < W.heap.size:=fun b hb=>by have:=HSL3.out b hb;omega
       have hl3:∀ b,(SL b ∨ Rg w2.heap.size w3.heap.size b)→b < W.heap.size:=fun b hb=>by have:=HS3.out b hb;omega
       exact ⟨v6_ fa fb p aA aB ap cA cB cp SL SL _ W (LSl.agree HFA3.out hA) hl (LSl.agree HFB3.out hA) hl (hP.agree hA3) hl3 (by omega) (by omega) SA.out SB.out hpk.1,
        v6_ fo fb p aO aB ap cO cB cp SL SL _ W (LSl.agree HFO3.out hA) hl (LSl.agree HFB3.out hA) hl (hP.agree hA3) hl3 (by omega) (by omega) SO.out SB.out hpk.1,
        v6_ fo fa p aO aA ap cO cA cp SL SL _ W (LSl.agree HFO3.out hA) hl (LSl.agree HFA3.out hA) hl (hP.agree hA3) hl3 (by omega) (by omega) SO.out SA.out hpk.1,
        kD_ p ap cp _ W (hP.agree hA3) hl3 hpk.1⟩
      have HSA:=hid SAME
      have HP:=hid hP
      have HPK:=hid hpk
      have HDK:=hid hdk
      have hag:=q9_ hB.out HSL3.out
      have r0:=bc_ hB.out (show g < w3.heap.size by omega) HE0.out
      have r1:=bc_ hB.out (show g < w3.heap.size by omega) HE1.out
      have r2:=bc_ hB.out (show g < w3.heap.size by omega) HE2.out
      have hgr:g < wr.heap.size:=by omega
      clear SAME hcell hP hpk hdk hp
      go_upto_block 2 with fail
      go_cut [12,15] from 37 to 93 (fun v2 vf wx=>∃ (F:List Fl) (con':List (List Ky)) (ds':List Value) (aF:Option Addr) (cF:Nat),Hid (stJ fo fa fb con p = (F,con'))∧vf = .slice aF F.length cF∧Hid (FlSl SL wx (.slice aF F.length cF) F)∧F.length ≤ 60∧Hid (SmF F∧∀ u ∈ F,u.p ≠ []) ∧
       con'.length ≤ k + 1∧wx.ownsRow w3.heap.size 92 1 v2 con'.length ds'∧Hid (LCs vP_ (Ry w3.heap.size wx.heap.size u11 v2) wx con' ds')∧Hid (∀ q ∈ con',q.length ≤ 1000)∧Hid (∀ b,u11.ownBlock = some b→v2.ownBlock ≠ some b)∧wx.ownsRow w3.heap.size 98 2 u11 all.length cs∧Hid (LCs xn_ SL wx all cs)∧Hid (Below w3.heap.size w3 wx))
      case first=>
       have hbd:Below wr.heap.size wr wr.drew:=(Below.refl _ _).drew
       have KEEP:∀ (W:World),Below wr.heap.size wr W→W.ownsRow w3.heap.size 92 1 u12 con.length ds∧Hid (LCs vP_ (Ry w3.heap.size W.heap.size u11 u12) W con ds)∧W.ownsRow w3.heap.size 98 2 u11 all.length cs∧Hid (LCs xn_ SL W all cs)∧Hid (Below w3.heap.size w3 W):=fun W hW=>
        ⟨ob_ hown2 hW (nl_ _),(hlc2.out.agree (q9_ hW (fun b hb=>hb.2.1))).wide (fun b hb=>⟨hb.1,by have:=hb.2.1;have:=hW.size;omega,hb.2.2⟩),ob_ hown hW (nl_ _),hlc.out.agree (q9_ hW (fun b hb=>by have:=HSL3.out b hb;omega)),hB.out.trans (hW.mono hzr)⟩
       have CSL:∀ (W:World),Below wr.heap.size wr W→W.cell? ⟨g,o,none⟩ = some (.slice aO fo.length cO)∧W.cell? ⟨g,o + 1,none⟩ = some (.slice aA fa.length cA)∧W.cell? ⟨g,o + 2,none⟩ = some (.slice aB fb.length cB):=fun W hW=>⟨bc_ hW hgr r0,bc_ hW hgr r1,bc_ hW hgr r2⟩
       have HKEEP:=hid KEEP
       have HCS:=hid CSL
       have HBD:=hid hbd
       have HS0:=hid (CSL wr.drew hbd)
       clear KEEP hbd CSL
       cases h1:smF fa fb p with
       | true=>
         have hst:Hid (stJ fo fa fb con p = (fa,con)):=by rw [Hid,stJ,if_pos (.inl h1)]
         have H1:=hid h1
         clear h1
         go_wp2_with fail
         refine (wpIn_wide (n:=9)).1 ?_
         refine q8_ (fun w'=>w'.cell? ⟨g,o,none⟩ = some (.slice aO fo.length cO)∧w'.cell? ⟨g,o + 1,none⟩ = some (.slice aA fa.length cA)∧w'.cell? ⟨g,o + 2,none⟩ = some (.slice aB fb.length cB)) (by kernel_rfl) ?_
         have hS0:=HS0.out
         refine q3_ (fun _=>trivial) (by kernel_rfl) 0 52 (.slice (some ⟨g,o,none⟩) 3 c2) rfl rfl (by kernel_rfl) (by kernel_rfl) (by kernel_rfl) (fun _ _ _ h=>h) (.inl ⟨by rfl,fun w' hs=>?_⟩) hS0 ?_
         · go_simp
         refine q3_ (fun _=>trivial) (by kernel_rfl) 1 53 (.pointer (some ⟨g,o + 1,none⟩)) rfl rfl (by kernel_rfl) (by kernel_rfl) (by kernel_rfl) (fun _ _ _ h=>h) (.inl ⟨by rfl,fun w' hs=>?_⟩) hS0 ?_
         · go_simp
         refine q3_ (fun _=>trivial) (by kernel_rfl) 2 54 (.slice aA fa.length cA) rfl rfl (by kernel_rfl) (by kernel_rfl) (by kernel_rfl) (fun _ _ _ h=>h) (.inl ⟨by rfl,fun w' hs=>?_⟩) hS0 ?_
         · obtain ⟨q0,q1,q2⟩:=hs
           go_simp
         refine q3_ (fun _=>trivial) (by kernel_rfl) 3 55 (.slice (some ⟨g,o,none⟩) 3 c2) rfl rfl (by kernel_rfl) (by kernel_rfl) (by kernel_rfl) (fun _ _ _ h=>h) (.inl ⟨by rfl,fun w' hs=>?_⟩) hS0 ?_
         · go_simp
         refine q3_ (fun _=>trivial) (by kernel_rfl) 4 56 (.pointer (some ⟨g,o + 2,none⟩)) rfl rfl (by kernel_rfl) (by kernel_rfl) (by kernel_rfl) (fun _ _ _ h=>h) (.inl ⟨by rfl,fun w' hs=>?_⟩) hS0 ?_
         · go_simp
         refine q3_ (fun _=>trivial) (by kernel_rfl) 5 57 (.slice aB fb.length cB) rfl rfl (by kernel_rfl) (by kernel_rfl) (by kernel_rfl) (fun _ _ _ h=>h) (.inl ⟨by rfl,fun w' hs=>?_⟩) hS0 ?_
         · obtain ⟨q0,q1,q2⟩:=hs
           go_simp
         refine q3_ (fun _=>trivial) (by kernel_rfl) 6 58 (.slice ap p.length cp) rfl rfl (by kernel_rfl) (by kernel_rfl) (by kernel_rfl) (fun _ _ _ h=>h) (.inl ⟨by rfl,fun w' hs=>?_⟩) hS0 ?_
         · go_simp
         refine qb_ (i:=7) (by kernel_rfl) rfl (by rfl) (fun K hK=>?_)
         go_simp
         refine ⟨trivial,(callsIn_wide.2 (HSA.out _ (hB.out.trans (HBD.out.mono hzr))).1).mono ?_⟩
         rintro e w5 ⟨he5,hb5⟩
         rw [H1.out] at he5
         subst he5
         have hb5':=HBD.out.trans (hb5.mono (by simp))
         have hS5:=HCS.out w5 hb5'
         refine hK _ _ ⟨hS5,?_⟩
         refine tkY 8 60 (.bool true) rfl rfl hS5 (fun w' hs=>?_) ?_
         · go_simp
         refine q3_ (fun _=>trivial) (by kernel_rfl) 9 61 (undef) rfl rfl (by kernel_rfl) (by kernel_rfl) (by kernel_rfl) (fun _ _ _ h=>h) (.inr ⟨by kernel_rfl,rfl⟩) hS5 ?_
         refine q3_ (fun _=>trivial) (by kernel_rfl) 10 62 (undef) rfl rfl (by kernel_rfl) (by kernel_rfl) (by kernel_rfl) (fun _ _ _ h=>h) (.inr ⟨by kernel_rfl,rfl⟩) hS5 ?_
         refine q3_ (fun _=>trivial) (by kernel_rfl) 11 63 (undef) rfl rfl (by kernel_rfl) (by kernel_rfl) (by kernel_rfl) (fun _ _ _ h=>h) (.inr ⟨by kernel_rfl,rfl⟩) hS5 ?_
         refine q3_ (fun _=>trivial) (by kernel_rfl) 12 64 (undef) rfl rfl (by kernel_rfl) (by kernel_rfl) (by kernel_rfl) (fun _ _ _ h=>h) (.inr ⟨by kernel_rfl,rfl⟩) hS5 ?_
         refine q3_ (fun _=>trivial) (by kernel_rfl) 13 65 (undef) rfl rfl (by kernel_rfl) (by kernel_rfl) (by kernel_rfl) (fun _ _ _ h=>h) (.inr ⟨by kernel_rfl,rfl⟩) hS5 ?_
         refine q3_ (fun _=>trivial) (by kernel_rfl) 14 66 (undef) rfl rfl (by kernel_rfl) (by kernel_rfl) (by kernel_rfl) (fun _ _ _ h=>h) (.inr ⟨by kernel_rfl,rfl⟩) hS5 ?_
         refine q3_ (fun _=>trivial) (by kernel_rfl) 15 67 (undef) rfl rfl (by kernel_rfl) (by kernel_rfl) (by kernel_rfl) (fun _ _ _ h=>h) (.inr ⟨by kernel_rfl,rfl⟩) hS5 ?_
         refine q3_ (fun _=>trivial) (by kernel_rfl) 16 68 (undef) rfl rfl (by kernel_rfl) (by kernel_rfl) (by kernel_rfl) (fun _ _ _ h=>h) (.inr ⟨by kernel_rfl,rfl⟩) hS5 ?_
         refine tkY 17 69 (.bool true) rfl rfl hS5 (fun w' hs=>?_) ?_
         · go_simp
         refine tkY 18 51 (.bool true) rfl rfl hS5 (fun w' hs=>?_) ?_
         · go_simp
         refine q7_ (by kernel_rfl) ?_
         go_simp
         obtain ⟨k1,k2,k3,k4,k5⟩:=HKEEP.out w5 hb5'
         have hF5:Hid (FlSl SL w5 (.slice aA fa.length cA) fa):=LSl.agree HFA3.out (q9_ k5.out HSL3.out)
         clear hS5 hb5'
         go_wp2_with fail
         go_meet
         case rel=>exact ⟨fa,con,ds,aA,cA,hst,rfl,hF5,by omega,⟨SA.out,NA.out⟩,by omega,k1,k2,hcon,hsep,k3,k4,k5⟩
       | false=>
         cases h2:smF fo fb p with
         | true=>
           have hst:Hid (stJ fo fa fb con p = (fa,con)):=by rw [Hid,stJ,if_pos (.inr h2)]
           have H1:=hid h1
           have H2:=hid h2
           clear h1 h2
           go_wp2_with fail
           refine (wpIn_wide (n:=9)).1 ?_
           refine q8_ (fun w'=>w'.cell? ⟨g,o,none⟩ = some (.slice aO fo.length cO)∧w'.cell? ⟨g,o + 1,none⟩ = some (.slice aA fa.length cA)∧w'.cell? ⟨g,o + 2,none⟩ = some (.slice aB fb.length cB)) (by kernel_rfl) ?_
           have hS0:=HS0.out
           refine q3_ (fun _=>trivial) (by kernel_rfl) 0 52 (.slice (some ⟨g,o,none⟩) 3 c2) rfl rfl (by kernel_rfl) (by kernel_rfl) (by kernel_rfl) (fun _ _ _ h=>h) (.inl ⟨by rfl,fun w' hs=>?_⟩) hS0 ?_
           · go_simp
           refine q3_ (fun _=>trivial) (by kernel_rfl) 1 53 (.pointer (some ⟨g,o + 1,none⟩)) rfl rfl (by kernel_rfl) (by kernel_rfl) (by kernel_rfl) (fun _ _ _ h=>h) (.inl ⟨by rfl,fun w' hs=>?_⟩) hS0 ?_
           · go_simp
           refine q3_ (fun _=>trivial) (by kernel_rfl) 2 54 (.slice aA fa.length cA) rfl rfl (by kernel_rfl) (by kernel_rfl) (by kernel_rfl) (fun _ _ _ h=>h) (.inl ⟨by rfl,fun w' hs=>?_⟩) hS0 ?_
           · obtain ⟨q0,q1,q2⟩:=hs
             go_simp
           refine q3_ (fun _=>trivial) (by kernel_rfl) 3 55 (.slice (some ⟨g,o,none⟩) 3 c2) rfl rfl (by kernel_rfl) (by kernel_rfl) (by kernel_rfl) (fun _ _ _ h=>h) (.inl ⟨by rfl,fun w' hs=>?_⟩) hS0 ?_
           · go_simp
           refine q3_ (fun _=>trivial) (by kernel_rfl) 4 56 (.pointer (some ⟨g,o + 2,none⟩)) rfl rfl (by kernel_rfl) (by kernel_rfl) (by kernel_rfl) (fun _ _ _ h=>h) (.inl ⟨by rfl,fun w' hs=>?_⟩) hS0 ?_
           · go_simp
           refine q3_ (fun _=>trivial) (by kernel_rfl) 5 57 (.slice aB fb.length cB) rfl rfl (by kernel_rfl) (by kernel_rfl) (by kernel_rfl) (fun _ _ _ h=>h) (.inl ⟨by rfl,fun w' hs=>?_⟩) hS0 ?_
           · obtain ⟨q0,q1,q2⟩:=hs
             go_simp
           refine q3_ (fun _=>trivial) (by kernel_rfl) 6 58 (.slice ap p.length cp) rfl rfl (by kernel_rfl) (by kernel_rfl) (by kernel_rfl) (fun _ _ _ h=>h) (.inl ⟨by rfl,fun w' hs=>?_⟩) hS0 ?_
           · go_simp
           refine qb_ (i:=7) (by kernel_rfl) rfl (by rfl) (fun K hK=>?_)
           go_simp
           refine ⟨trivial,(callsIn_wide.2 (HSA.out _ (hB.out.trans (HBD.out.mono hzr))).1).mono ?_⟩
           rintro e w5 ⟨he5,hb5⟩
           rw [H1.out] at he5
           subst he5
           have hb5':=HBD.out.trans (hb5.mono (by simp))
           have hz5:=hb5'.size
           have hS5:=HCS.out w5 hb5'
           refine hK _ _ ⟨hS5,?_⟩
           refine tkY 8 60 (.bool false) rfl rfl hS5 (fun w' hs=>?_) ?_
           · go_simp
           refine tkY 9 61 (.slice (some ⟨g,o,none⟩) 3 c2) rfl rfl hS5 (fun w' hs=>?_) ?_
           · go_simp
           refine tkY 10 62 (.pointer (some ⟨g,o,none⟩)) rfl rfl hS5 (fun w' hs=>?_) ?_
           · go_simp
           refine tkZ 11 63 (.slice aO fo.length cO) rfl rfl hS5 ?_
           refine tkY 12 64 (.slice (some ⟨g,o,none⟩) 3 c2) rfl rfl hS5 (fun w' hs=>?_) ?_
           · go_simp
           refine tkY 13 65 (.pointer (some ⟨g,o + 2,none⟩)) rfl rfl hS5 (fun w' hs=>?_) ?_
           · go_simp
           refine tkZ 14 66 (.slice aB fb.length cB) rfl rfl hS5 ?_
           refine tkY 15 67 (.slice ap p.length cp) rfl rfl hS5 (fun w' hs=>?_) ?_
           · go_simp
           refine qb_ (i:=16) (by kernel_rfl) rfl (by kernel_rfl) (fun K hK=>?_)
           go_simp
           refine ⟨trivial,(callsIn_wide.2 (HSA.out _ (hB.out.trans (hb5'.mono hzr))).2.1).mono ?_⟩
           rintro e w6 ⟨he6,hb6⟩
           rw [H2.out] at he6
           subst he6
           have hb6':=hb5'.trans (hb6.mono hz5)
           have hS6:=HCS.out w6 hb6'
           refine hK _ _ ⟨hS6,?_⟩
           refine tkY 17 69 (.bool true) rfl rfl hS6 (fun w' hs=>?_) ?_
           · go_simp
           refine tkY 18 51 (.bool true) rfl rfl hS6 (fun w' hs=>?_) ?_
           · go_simp
           refine q7_ (by kernel_rfl) ?_
           go_simp
           have HB6:=hid hb6'
           obtain ⟨k1,k2,k3,k4,k5⟩:=HKEEP.out w6 hb6'
           have hF6:Hid (FlSl SL w6 (.slice aA fa.length cA) fa):=LSl.agree HFA3.out (q9_ k5.out HSL3.out)
           clear hS6 hb6' hS5 hb5' hb5 hb6
           go_wp2_with fail
           go_meet
           case rel=>exact ⟨fa,con,ds,aA,cA,hst,rfl,hF6,by omega,⟨SA.out,NA.out⟩,by omega,k1,k2,hcon,hsep,k3,k4,k5⟩
         | false=>
           have H1:=hid h1
           have H2:=hid h2
           go_wp2_with fail
           refine (wpIn_wide (n:=9)).1 ?_
           refine q8_ (fun w'=>w'.cell? ⟨g,o,none⟩ = some (.slice aO fo.length cO)∧w'.cell? ⟨g,o + 1,none⟩ = some (.slice aA fa.length cA)∧w'.cell? ⟨g,o + 2,none⟩ = some (.slice aB fb.length cB)) (by kernel_rfl) ?_
           have hS0:=HS0.out
           refine q3_ (fun _=>trivial) (by kernel_rfl) 0 52 (.slice (some ⟨g,o,none⟩) 3 c2) rfl rfl (by kernel_rfl) (by kernel_rfl) (by kernel_rfl) (fun _ _ _ h=>h) (.inl ⟨by rfl,fun w' hs=>?_⟩) hS0 ?_
           · go_simp
           refine q3_ (fun _=>trivial) (by kernel_rfl) 1 53 (.pointer (some ⟨g,o + 1,none⟩)) rfl rfl (by kernel_rfl) (by kernel_rfl) (by kernel_rfl) (fun _ _ _ h=>h) (.inl ⟨by rfl,fun w' hs=>?_⟩) hS0 ?_
           · go_simp
           refine q3_ (fun _=>trivial) (by kernel_rfl) 2 54 (.slice aA fa.length cA) rfl rfl (by kernel_rfl) (by kernel_rfl) (by kernel_rfl) (fun _ _ _ h=>h) (.inl ⟨by rfl,fun w' hs=>?_⟩) hS0 ?_
           · obtain ⟨q0,q1,q2⟩:=hs
             go_simp
           refine q3_ (fun _=>trivial) (by kernel_rfl) 3 55 (.slice (some ⟨g,o,none⟩) 3 c2) rfl rfl (by kernel_rfl) (by kernel_rfl) (by kernel_rfl) (fun _ _ _ h=>h) (.inl ⟨by rfl,fun w' hs=>?_⟩) hS0 ?_
           · go_simp
           refine q3_ (fun _=>trivial) (by kernel_rfl) 4 56 (.pointer (some ⟨g,o + 2,none⟩)) rfl rfl (by kernel_rfl) (by kernel_rfl) (by kernel_rfl) (fun _ _ _ h=>h) (.inl ⟨by rfl,fun w' hs=>?_⟩) hS0 ?_
           · go_simp
           refine q3_ (fun _=>trivial) (by kernel_rfl) 5 57 (.slice aB fb.length cB) rfl rfl (by kernel_rfl) (by kernel_rfl) (by kernel_rfl) (fun _ _ _ h=>h) (.inl ⟨by rfl,fun w' hs=>?_⟩) hS0 ?_
           · obtain ⟨q0,q1,q2⟩:=hs
             go_simp
           refine q3_ (fun _=>trivial) (by kernel_rfl) 6 58 (.slice ap p.length cp) rfl rfl (by kernel_rfl) (by kernel_rfl) (by kernel_rfl) (fun _ _ _ h=>h) (.inl ⟨by rfl,fun w' hs=>?_⟩) hS0 ?_
           · go_simp
           refine qb_ (i:=7) (by kernel_rfl) rfl (by rfl) (fun K hK=>?_)
           go_simp
           refine ⟨trivial,(callsIn_wide.2 (HSA.out _ (hB.out.trans (HBD.out.mono hzr))).1).mono ?_⟩
           rintro e w5 ⟨he5,hb5⟩
           rw [H1.out] at he5
           subst he5
           have hb5':=HBD.out.trans (hb5.mono (by simp))
           have hz5:=hb5'.size
           have hS5:=HCS.out w5 hb5'
           refine hK _ _ ⟨hS5,?_⟩
           refine tkY 8 60 (.bool false) rfl rfl hS5 (fun w' hs=>?_) ?_
           · go_simp
           refine tkY 9 61 (.slice (some ⟨g,o,none⟩) 3 c2) rfl rfl hS5 (fun w' hs=>?_) ?_
           · go_simp
           refine tkY 10 62 (.pointer (some ⟨g,o,none⟩)) rfl rfl hS5 (fun w' hs=>?_) ?_
           · go_simp
           refine tkZ 11 63 (.slice aO fo.length cO) rfl rfl hS5 ?_
           refine tkY 12 64 (.slice (some ⟨g,o,none⟩) 3 c2) rfl rfl hS5 (fun w' hs=>?_) ?_
           · go_simp
           refine tkY 13 65 (.pointer (some ⟨g,o + 2,none⟩)) rfl rfl hS5 (fun w' hs=>?_) ?_
           · go_simp
           refine tkZ 14 66 (.slice aB fb.length cB) rfl rfl hS5 ?_
           refine tkY 15 67 (.slice ap p.length cp) rfl rfl hS5 (fun w' hs=>?_) ?_
           · go_simp
           refine qb_ (i:=16) (by kernel_rfl) rfl (by kernel_rfl) (fun K hK=>?_)
           go_simp
           refine ⟨trivial,(callsIn_wide.2 (HSA.out _ (hB.out.trans (hb5'.mono hzr))).2.1).mono ?_⟩
           rintro e w6 ⟨he6,hb6⟩
           rw [H2.out] at he6
           subst he6
           have hb6':=hb5'.trans (hb6.mono hz5)
           have hS6:=HCS.out w6 hb6'
           refine hK _ _ ⟨hS6,?_⟩
           refine tkY 17 69 (.bool false) rfl rfl hS6 (fun w' hs=>?_) ?_
           · go_simp
           refine tkY 18 51 (.bool false) rfl rfl hS6 (fun w' hs=>?_) ?_
           · go_simp
           refine q7_ (by kernel_rfl) ?_
           go_simp
           have HB6:=hid hb6'
           obtain ⟨k1,k2,k3,k4,k5⟩:=HKEEP.out w6 hb6'
           have hz6:=hb6'.size
           have hbd6:Below wr.heap.size wr w6.drew:=hb6'.drew
           have s0:=(HCS.out w6 hb6').1
           have s1:=(HCS.out w6 hb6').2.1
           have s2:=(HCS.out w6 hb6').2.2
           have HBD6:=hid hbd6
           cases h3:smF fo fa p with
           | true=>
             have hst:Hid (stJ fo fa fb con p = (fb,con)):=by rw [Hid,stJ,if_neg (by rw [h1,h2];simp),if_pos h3]
             have H3:=hid h3
             clear h1 h2 h3 hS6 hb6' hS5 hb5' hb5 hb6 hbd6
             go_wp2_with fail
             go_region_held3 (fun w'=>w'.cell? ⟨g,o,none⟩ = some (.slice aO fo.length cO)∧w'.cell? ⟨g,o + 1,none⟩ = some (.slice aA fa.length cA))
              (first
                | (go_split_ands
                   with_reducible refine ⟨bc_ hb7 ?_ ?_,bc_ hb7 ?_ ?_⟩
                   all_goals (first | (with_reducible assumption) | (simp;omega)))
                | go_keep)
              (first
                | (go_at_call 30; refine (HSA.out _ (hB.out.trans (HBD6.out.mono hzr))).2.2.1.mono ?_
                   rintro e w7 ⟨he7,hb7⟩
                   rw [H3.out] at he7
                   subst he7)
                | fail)
             have hb7':=HBD6.out.trans (hb7.mono (by simp;omega))
             obtain ⟨m1,m2,m3,m4,m5⟩:=HKEEP.out w7 hb7'
             have hF7:Hid (FlSl SL w7 (.slice aB fb.length cB) fb):=LSl.agree HFB3.out (q9_ m5.out HSL3.out)
             have s7:=(HCS.out w7 hb7').2.2
             clear hb7 hb7' k1 k2 k3 k4 k5
             go_wp2_with fail
             go_meet
             case rel=>exact ⟨fb,con,ds,aB,cB,hst,rfl,hF7,by omega,⟨SB.out,NB.out⟩,by omega,m1,m2,hcon,hsep,m3,m4,m5⟩
           | false=>
             have hst:Hid (stJ fo fa fb con p = (fo,con ++ [p])):=by rw [Hid,stJ,if_neg (by rw [h1,h2];simp),if_neg (by rw [h3];simp)]
             have H3:=hid h3
             clear h1 h2 h3 hS6 hb6' hS5 hb5' hb5 hb6 hbd6
             go_wp2_with fail
             go_region_held3 (fun w'=>w'.cell? ⟨g,o,none⟩ = some (.slice aO fo.length cO)∧w'.cell? ⟨g,o + 1,none⟩ = some (.slice aA fa.length cA))
              (first
                | (go_split_ands
                   with_reducible refine ⟨bc_ hb7 ?_ ?_,bc_ hb7 ?_ ?_⟩
                   all_goals (first | (with_reducible assumption) | (simp;omega)))
                | go_keep)
              (first
                | (go_at_call 30; refine (HSA.out _ (hB.out.trans (HBD6.out.mono hzr))).2.2.1.mono ?_
                   rintro e w7 ⟨he7,hb7⟩
                   rw [H3.out] at he7
                   subst he7)
                | fail)
             have hb7':=HBD6.out.trans (hb7.mono (by simp;omega))
             obtain ⟨m1,m2,m3,m4,m5⟩:=HKEEP.out w7 hb7'
             have s7:=(HCS.out w7 hb7').1
             have hz7:=hb7'.size
             have HB7:=hid hb7'
             have M1:=hid m1
             have hbd7:Below wr.heap.size wr w7.drew:=hb7'.drew
             have HBD7:=hid hbd7
             have hneg:u12.ownBlock ≠ some g:=fun e=>by have:=(hown2.lt _ e).1;omega
             clear hb7 hb7' k1 k2 k3 k4 k5 s0 s1 s2 hbd7
             go_wp2_with fail
             go_region_held3 (fun w'=>w'.cell? ⟨g,o,none⟩ = some (.slice aO fo.length cO))
              (first
                | exact bc_ hb8 (by simp;omega) (by with_reducible assumption)
                | exact qh_ hgrow9 hneg (by with_reducible assumption)
                | go_keep)
              (first
                | (go_at_call 31; refine (HSA.out _ (hB.out.trans (HBD7.out.mono hzr))).2.2.2.mono ?_
                   rintro e w8 ⟨a8,c8,rfl,hp8,hb8⟩
                   have how8:Hid (w8.ownsRow w3.heap.size 92 1 u12 con.length ds):=ob_ M1.out.drew hb8 (nl_ _))
                | (refine k2_ _ rfl _ _ _ rfl w3.heap.size 92 j0 _ 1 24 Tryz.underlying39 hj0 hy0 hy1 hyb rfl (by omega) u12 con.length ds rfl (how8.out.alloc _) (some ⟨w8.heap.size, 0, none⟩) 1 1 [.slice a8 p.length c8] rfl rfl (fun h => by cases h) (fun ad had => by cases had; exact World.news_of_block (cs := #[.slice a8 p.length c8]) (t := 92) (fr := (0, 0)) (ha_ _ _)) (by simp [Value.oneCell']) (by unfold maxLen; omega) (by omega) (by simp; have := hb8.size; simp at this; omega) ?_
                   intro a9 c9 w9 hown9 hgrow9 hat9))
             obtain ⟨n1,n2,n3,n4,n5,n6,n7⟩:=jW_ hB.out HSL3.out hown hlc.out hown2 hlc2.out hcon.out hsep.out HPK.out.1 HBD7.out (show Below w7.drew.heap.size w7.drew w8 from ⟨hb8.os,hb8.tape,hb8.output,hb8.size,hb8.block⟩) hp8 hown9 ⟨hgrow9.os,hgrow9.tape,hgrow9.output,hgrow9.size,hgrow9.block⟩ hat9
             have hF9:Hid (FlSl SL w9 (.slice aO fo.length cO) fo):=LSl.agree HFO3.out (q9_ n7.out HSL3.out)
             have hcl:(con ++ [p]).length ≤ k + 1:=by simp;omega
             clear hb8 hgrow9 hat9 hown9 hp8
             go_wp2_with fail
             go_meet
             case rel=>exact ⟨fo,con ++ [p],_,aO,cO,hst,rfl,hF9,by omega,⟨SO.out,NO.out⟩,hcl,n1,n2,n3,n4,n5,n6,n7⟩
      case rest=>
       obtain ⟨F,con',ds',aF,cF,hst,rfl,hF,hFl,hFs,hcl',how2',hlc2',hcon',hsep',hown',hlc',hB'⟩:=hcut
       have hzc:=hB'.out.size
       have FND:=hid (zU_ F p aF ap cF cp SL _ wc hF.out (fun b hb=>by have:=HSL3.out b hb;omega) (HP.out.agree (q9_ hB'.out HS3.out)) (fun b hb=>by have:=HS3.out b hb;omega) (by omega) hFs.out.1 HPK.out.1)
       clear r0 r1 r2 c0 hag hown hlc hown2 hlc2 hB hzr hcon hsep
       go_wp2_with fail
       refine FND.out.mono ?_
       rintro e w5 ⟨ap5,cp5,an5,cn5,rfl,hp5,hi5,hb5⟩
       obtain ⟨xA,hxA⟩:∃ z,(fnd F p).getD fl0 = z:=⟨_,rfl⟩
       obtain ⟨q,hq⟩:∃ z,(fnd F p).isSome = z:=⟨_,rfl⟩
       rw [hxA] at hp5 hi5
       rw [hxA,hq]
       have HXA:=hid hxA
       have HQ:=hid hq
       clear hxA hq
       have hz5:=hb5.size
       have hbX:Below wc.heap.size wc (w5.alloc (.cells #[.slice ap5 xA.p.length cp5, .slice an5 xA.l.length cn5] 98)):=hb5.alloc hz5 _
       have hN5:=ha_ w5 (.cells #[.slice ap5 xA.p.length cp5, .slice an5 xA.l.length cn5] 98)
       have p0:(w5.alloc (.cells #[.slice ap5 xA.p.length cp5, .slice an5 xA.l.length cn5] 98)).cell? ⟨w5.heap.size,0,none⟩ = some (.slice ap5 xA.p.length cp5):=cg_ hN5 (k:=0) rfl
       have p1:(w5.alloc (.cells #[.slice ap5 xA.p.length cp5, .slice an5 xA.l.length cn5] 98)).cell? ⟨w5.heap.size,1,none⟩ = some (.slice an5 xA.l.length cn5):=cg_ hN5 (k:=1) rfl
       have HBX:=hid hbX
       have hstep:Hid (jnF fo fa fb [] [] ps = jnF fo fa fb (match fnd F p with | some f=>all ++ [f] | none=>all) con' (ps.drop (k + 1))):=by
        rw [Hid,hD.out,HDK.out,jnF_cons,hst.out]
       cases q with
       | false=>
         have hfn:fnd F p = none:=by have:=HQ.out;simpa using this
         have hst2:Hid (jnF fo fa fb [] [] ps = jnF fo fa fb all con' (ps.drop (k + 1))):=by have:=hstep.out;rw [hfn] at this;exact this
         have k1:=ob_ hown' hbX (nl_ _)
         have k2:Hid (LCs xn_ SL _ all cs):=hlc'.out.agree (q9_ hbX (fun b hb=>by have:=HSL3.out b hb;omega))
         have k3:=ob_ how2' hbX (nl_ _)
         have k4:Hid (LCs vP_ (Ry w3.heap.size (w5.alloc (.cells #[.slice ap5 xA.p.length cp5, .slice an5 xA.l.length cn5] 98)).heap.size u11 u12) _ con' ds'):=(hlc2'.out.agree (q9_ hbX (fun b hb=>hb.2.1))).wide (fun b hb=>⟨hb.1,by have:=hb.2.1;simp;omega,hb.2.2⟩)
         have k5:=hid (hB'.out.trans (hbX.mono hzc))
         clear hfn hN5 hbX hp5 hi5 hb5 p0 p1
         go_wp2_with fail
         go_roundw
         case rel=>exact ⟨k + 1,all,con',cs,ds',by omega,by go_num,by omega,hcl',hst2,k1,k2,hsma,k3,k4,hcon',hsep',k5⟩
         case measure=>simp [intOf];omega
       | true=>
         have hfs:fnd F p = some xA:=by
          cases hf:fnd F p with
          | none=>have:=HQ.out;rw [hf] at this;cases this
          | some z=>have:=HXA.out;rw [hf] at this;rw [← this];rfl
         have hst2:Hid (jnF fo fa fb [] [] ps = jnF fo fa fb (all ++ [xA]) con' (ps.drop (k + 1))):=by have:=hstep.out;rw [hfs] at this;exact this
         have hmem:xA ∈ F:=by
          unfold fnd at hfs
          split at hfs
          · rename_i z hz
            split at hfs
            · cases hfs;exact List.mem_of_getElem? hz
            · cases hfs
          · cases hfs
         have hsm2:Hid (SmF (all ++ [xA])∧∀ u ∈ all ++ [xA],u.p ≠ []):=⟨fun u hu=>by
          rcases List.mem_append.1 hu with h | h
          · exact hsma.out.1 u h
          · simp only [List.mem_singleton] at h;rw [h];exact hFs.out.1 _ hmem,fun u hu=>by
          rcases List.mem_append.1 hu with h | h
          · exact hsma.out.2 u h
          · simp only [List.mem_singleton] at h;rw [h];exact hFs.out.2 _ hmem⟩
         have hbY:Below wc.heap.size wc ((w5.alloc (.cells #[.slice ap5 xA.p.length cp5, .slice an5 xA.l.length cn5] 98)).alloc (.cells #[.slice ap5 xA.p.length cp5, .slice an5 xA.l.length cn5] 98)):=hbX.alloc (by simp;omega) _
         have hnb:((w5.alloc (.cells #[.slice ap5 xA.p.length cp5, .slice an5 xA.l.length cn5] 98)).alloc (.cells #[.slice ap5 xA.p.length cp5, .slice an5 xA.l.length cn5] 98)).heap[w5.heap.size + 1]? = some (.cells #[.slice ap5 xA.p.length cp5, .slice an5 xA.l.length cn5] 98 (0,0)):=by
          have h:=ha_ (w5.alloc (.cells #[.slice ap5 xA.p.length cp5, .slice an5 xA.l.length cn5] 98)) (.cells #[.slice ap5 xA.p.length cp5, .slice an5 xA.l.length cn5] 98)
          rwa [World.size_alloc] at h
         have HNB:=hid hnb
         have HBY:=hid hbY
         have how6:=ob_ hown' hbY (nl_ _)
         have hwS:qd_ SL w5 ((w5.alloc (.cells #[.slice ap5 xA.p.length cp5, .slice an5 xA.l.length cn5] 98)).alloc (.cells #[.slice ap5 xA.p.length cp5, .slice an5 xA.l.length cn5] 98)):=fun b hb=>by
          have:=HSL3.out b hb
          exact (heap_alloc_old _ _ (by simp;omega)).trans (heap_alloc_old _ _ (by omega))
         have HP6:=hid (hp5.agree hwS)
         have HI6:=hid (hi5.agree hwS)
         have hak2:all.length ≤ 180:=by omega
         clear hfs hmem hstep hbX hbY hnb hwS hp5 hi5 hb5 hN5
         go_wp2_with (at_builtin;refine (q5_ _ rfl _ _ _ rfl w3.heap.size 98 i0 _ 2 48 Tryz.underlying90 hi0 hz0 hz1 hzb rfl (by omega) u11 all.length cs rfl how6 (some ⟨w5.heap.size + 1,0,none⟩) 1 1 [.slice ap5 xA.p.length cp5, .slice an5 xA.l.length cn5] rfl rfl (fun h=>by cases h) (fun ad had=>by cases had;exact World.news_of_block (cs:=#[.slice ap5 xA.p.length cp5, .slice an5 xA.l.length cn5]) (t:=98) (fr:=(0,0)) HNB.out) (by simp [Value.oneCell']) (by unfold maxLen;omega) (by omega) (by simp;omega) ?_);intro a4 c4 w4 hown4 hgrow4 hat4)
         obtain ⟨n1,n2,n3,n4,n5,n6⟩:=join_all hB'.out HSL3.out hown' hlc'.out how2' hlc2'.out hsep'.out HBY.out HP6.out HI6.out hown4 ⟨hgrow4.os,hgrow4.tape,hgrow4.output,hgrow4.size,hgrow4.block⟩ hat4
         have hl1:(all ++ [xA]).length ≤ k + 1:=by simp;omega
         clear hown4 hgrow4 hat4
         go_roundw
         case rel=>exact ⟨k + 1,all ++ [xA],con',_,ds',by omega,by go_num,hl1,hcl',hst2,n1,n2,hsm2,n3,n4,hcon',n5,n6⟩
         case measure=>simp [intOf];omega
    · obtain rfl:k = ps.length:=by omega
      obtain ⟨v12,rfl⟩:∃ v,v = u12:=⟨_,rfl⟩
      obtain ⟨wq,rfl⟩:∃ v,v = wr:=⟨_,rfl⟩
      have hlt':¬ (ps.length:Int) < (ps.length:Int):=by omega
      have hjn:jnF fo fa fb [] [] ps = (all,con):=by rw [hD.out,List.drop_length];rfl
      have hjo:=HJO.out
      rw [hjn] at hjo
      simp only at hjo
      obtain ⟨aV,cV,rfl,hcV,hcVm⟩:=owns_shape hown
      have hul:∀ b,(Value.slice aV all.length cV).ownBlock = some b→w3.heap.size ≤ b∧b < wq.heap.size:=fun b hb=>hown.lt b hb
      have hcl2:∀ b,v12.ownBlock = some b→w3.heap.size ≤ b∧b < wq.heap.size:=fun b hb=>hown2.lt b hb
      have hLoo:=loose_any all aV cV (fun b=>SL b ∨ (Value.slice aV all.length cV).ownBlock = some b) wq ⟨cs,qT_.fcs.owns_slc hown (fun b hb => .inr hb),hlc.out.wide (fun b hb => .inl hb)⟩ (fun b hb=>hb.elim (fun h=>by have:=HSL3.out b h;omega) (fun h=>(hul b h).2)) (by omega) hsma.out.1 hsma.out.2
      have hmem:=jO_ (l:=all) (kept:=[]) (out:=[])
      have hlen:=jp_ all [] []
      unfold LooR at hLoo
      obtain ⟨K,hK⟩:∃ K,(lsF [] [] all).1 = K:=⟨_,rfl⟩
      obtain ⟨O,hO⟩:∃ O,(lsF [] [] all).2 = O:=⟨_,rfl⟩
      rw [hK,hO] at hLoo hjo hmem hlen
      simp only [List.length_nil,Nat.zero_add] at hlen
      have hsK:SmF K:=fun u hu=>hsma.out.1 u ((hmem.1 u hu).resolve_left (by simp))
      have hsO:∀ q ∈ O,q.length ≤ 1000:=fun q hq=>by
       obtain ⟨u,hu,rfl⟩:=(hmem.2 q hq).resolve_left (by simp)
       exact (hsma.out.1 u hu).1
      have HLO:=hid hLoo
      have HJ:=hid hjo
      have HSK:=hid hsK
      have HSO:=hid hsO
      have HUL:=hid hul
      have HCL:=hid hcl2
      have hKl:K.length ≤ 180:=by omega
      have hOl:O.length ≤ 180:=by omega
      clear hLoo hjo hmem hlen hsK hsO hjn hK hO HJO hul hcl2
      go_wp2_with fail
      refine HLO.out.mono ?_
      rintro e w5 ⟨a5,c5,a6,c6,rfl,hK5,hO5,hb5⟩
      have hz5:=hb5.size
      have hS5:∀ b,((SL b ∨ (Value.slice aV all.length cV).ownBlock = some b) ∨ Rg wq.heap.size w5.heap.size b)→b < w5.heap.size∧v12.ownBlock ≠ some b:=fun b hb=>by
       rcases hb with (h | h) | h
       · have:=HSL3.out b h;exact ⟨by omega,fun e=>by have:=(HCL.out b e).1;omega⟩
       · exact ⟨by have:=(HUL.out b h).2;omega,fun e=>hsep.out b h e⟩
       · exact ⟨h.2,fun e=>by have:=(HCL.out b e).2;have:=h.1;omega⟩
      have HK5:=hid (LSl.wide hK5 hS5)
      have hO5':=LSl.wide hO5 hS5
      have HB5:=hid (hB.out.trans (hb5.mono hzr))
      have hc5:=ob_ hown2 hb5 (nl_ _)
      have hl5:Hid (LCs vP_ (Ry w3.heap.size w5.heap.size (.slice none 0 0) v12) w5 con ds):=(hlc2.out.agree (q9_ hb5 (fun b hb=>hb.2.1))).wide (fun b hb=>⟨hb.1,by have:=hb.2.1;omega,by simp [Value.ownBlock],hb.2.2.2⟩)
      obtain ⟨aQ,cQ,heQ,hcQ,hcmQ,hatQ⟩:=hO5'.at
      obtain ⟨rfl,rfl⟩:a6 = aQ∧c6 = cQ:=by cases heQ;exact ⟨rfl,rfl⟩
      have HATQ:=hid hatQ
      unfold maxLen at hcmQ
      clear hK5 hO5 hO5' hS5 hb5 heQ hatQ hown hlc hown2 hlc2 hsep HUL
      go_wp2_with fail
      go_loopw [12,101] (fun v i wr2=>∃ (k:Nat) (con2:List (List Ky)) (ds2:List Value),k ≤ O.length∧i = .int .i64 k∧Hid (cnF con O = cnF con2 (O.drop k))∧con2.length ≤ 180 + k∧wr2.ownsRow w3.heap.size 92 1 v con2.length ds2∧Hid (LCs vP_ (Ry w3.heap.size wr2.heap.size (.slice none 0 0) v) wr2 con2 ds2)∧Hid (∀ q ∈ con2,q.length ≤ 1000) ∧
       Hid (∀ b,b < w5.heap.size→v12.ownBlock ≠ some b→wr2.heap[b]? = w5.heap[b]?)∧Hid (∀ b,v.ownBlock = some b→v12.ownBlock = some b ∨ w5.heap.size ≤ b)∧Hid (Below w3.heap.size w3 wr2)∧w5.heap.size ≤ wr2.heap.size) (fun _ i _=>O.length - (intOf i).toNat)
      case atStart=>exact ⟨0,con,ds,by omega,rfl,rfl,by omega,hc5,hl5,hcon,(fun _ _ _=>rfl),(fun b hb => .inl hb),HB5.out,nl_ _⟩
      case round=>
       obtain ⟨k2,con2,ds2,hk2,rfl,hcn,hc2l,hown,hlc,hcon2,hsame,hown5,hB2,hz2r⟩:=hrel
       by_cases hlt2:k2 < O.length
       · have hlt2':(k2:Int) < (O.length:Int):=by omega
         obtain ⟨gq,oq,csq,rfl,hgq,⟨aq,cq,rfl,hQ⟩,hcellq⟩:=HATQ.out k2 hlt2
         have hS5a:qd_ (fun b=>b < w5.heap.size∧v12.ownBlock ≠ some b) w5 wr:=fun b hb=>hsame.out b hb.1 hb.2
         have c0:=hS5a.cell hgq (hcellq 0 _ rfl)
         rw [Nat.mul_one,Nat.add_zero] at c0
         have hdk:=List.drop_eq_getElem_cons hlt2
         have hlq:=HSO.out O[k2] (List.getElem_mem hlt2)
         obtain ⟨q,hq⟩:∃ q,O[k2] = q:=⟨_,rfl⟩
         rw [hq] at c0 hQ hdk hlq
         have hQr:=hQ.agree hS5a
         obtain ⟨aC,cC,rfl,hcC,hcCm⟩:=owns_shape hown
         have hbx:Below wr.heap.size wr (wr.alloc (.cells #[.slice aq q.length cq] 92)):=(Below.refl _ _).alloc (nl_ _) _
         have hnx:=ha_ wr (.cells #[.slice aq q.length cq] 92)
         have hrow:PaSl (fun b=>b < wr.heap.size) (wr.alloc (.cells #[.slice aq q.length cq] 92)) (.slice aC con2.length cC) con2:=⟨ds2,((SlC.of_owns hown).wide (fun b hb=>hb.2)).agree (q9_ hbx (fun b hb=>hb)),(hlc.out.wide (fun b hb=>hb.2.1)).agree (q9_ hbx (fun b hb=>hb))⟩
         have hctn:=contP_any con2 q aC aq cC cq wr.heap.size _ _ _ hrow (fun b hb=>by simp;omega) (hQr.agree (q9_ hbx (fun b hb=>by have:=hb.1;omega))) (fun b hb=>by have:=hb.1;simp;omega) (by simp) (cg_ hnx (k:=0) rfl) (by omega) hcon2.out hlq
         have CT:=hid hctn
         have HBX:=hid hbx
         have HNX:=hid hnx
         have HDK:=hid hdk
         have HQR:=hid hQr
         have x0:(wr.alloc (.cells #[.slice aq q.length cq] 92)).cell? ⟨wr.heap.size,0,none⟩ = some (.slice aq q.length cq):=cg_ hnx (k:=0) rfl
         clear hctn hrow hbx hnx hdk hQ hQr hcellq hq hS5a x0
         go_wp2_with fail
         refine CT.out.mono ?_
         rintro e w7 ⟨rfl,hb7⟩
         have hz7:=hb7.size
         simp only [World.size_alloc] at hz7
         have HB7:=hid (HBX.out.trans (hb7.mono (by simp)))
         have x1:w7.cell? ⟨wr.heap.size,0,none⟩ = some (.slice aq q.length cq):=cg_ ((hb7.block wr.heap.size (by simp)).trans HNX.out) (k:=0) rfl
         clear hb7
         cases hany:con2.any (fun p=>decide (cmpP p q = 0)) with
         | true=>
           have hcn2:Hid (cnF con O = cnF con2 (O.drop (k2 + 1))):=by
            rw [Hid,hcn.out,HDK.out]
            simp only [cnF]
            rw [if_pos hany]
           have k1:=ob_ hown HB7.out (nl_ _)
           have k2':Hid (LCs vP_ (Ry w3.heap.size w7.heap.size (.slice none 0 0) (.slice aC con2.length cC)) w7 con2 ds2):=(hlc.out.agree (q9_ HB7.out (fun b hb=>hb.2.1))).wide (fun b hb=>⟨hb.1,by have:=hb.2.1;omega,hb.2.2⟩)
           have k3:Hid (∀ b,b < w5.heap.size→v12.ownBlock ≠ some b→w7.heap[b]? = w5.heap[b]?):=fun b h1 h2=>(HB7.out.block b (by omega)).trans (hsame.out b h1 h2)
           have k4:=hid (hB2.out.trans (HB7.out.mono (by have:=hB2.out.size;omega)))
           clear hany
           go_wp2_with fail
           go_roundw
           case rel=>exact ⟨k2 + 1,con2,ds2,by omega,by go_num,hcn2,by omega,k1,k2',hcon2,k3,hown5,k4,by omega⟩
           case measure=>simp [intOf];omega
         | false=>
           have hcn2:Hid (cnF con O = cnF (con2 ++ [q]) (O.drop (k2 + 1))):=by
            rw [Hid,hcn.out,HDK.out]
            simp only [cnF]
            rw [if_neg (by rw [hany];simp)]
           have CLN:=hid (kD_ q aq cq _ w7 (HQR.out.agree (q9_ HB7.out (fun b hb=>by have:=hb.1;omega))) (fun b hb=>by have:=hb.1;omega) hlq)
           clear hany
           go_wp2_with fail
           refine CLN.out.mono ?_
           rintro e w8 ⟨a8,c8,rfl,hp8,hb8⟩
           have hz8:=hb8.size
           have how8:=ob_ hown (HB7.out.trans (hb8.mono (by omega))) (nl_ _)
           go_wp2_with (at_builtin;refine (q5_ _ rfl _ _ _ rfl w3.heap.size 92 j0 _ 1 24 Tryz.underlying39 hj0 hy0 hy1 hyb rfl (by omega) (.slice aC con2.length cC) con2.length ds2 rfl (how8.alloc _) (some ⟨w8.heap.size,0,none⟩) 1 1 [.slice a8 q.length c8] rfl rfl (fun h=>by cases h) (fun ad had=>by cases had;exact World.news_of_block (cs:=#[.slice a8 q.length c8]) (t:=92) (fr:=(0,0)) (ha_ _ _)) (by simp [Value.oneCell']) (by unfold maxLen;omega) (by omega) (by have:=hB2.out.size;simp;omega) ?_);intro a9 c9 w9 hown9 hgrow9 hat9)
           obtain ⟨n1,n2,n3,_,_,_,n7⟩:=jW_ (SL:=fun _=>False) (u11 := .slice none 0 0) (all:=[]) (cs:=[]) hB2.out (fun _ h=>h.elim) (World.ownsRow_nil _ _ _ _) rfl hown hlc.out hcon2.out (fun b hb=>by simp [Value.ownBlock] at hb) hlq HB7.out hb8 hp8 hown9 ⟨hgrow9.os,hgrow9.tape,hgrow9.output,hgrow9.size,hgrow9.block⟩ hat9
           have hz9:=hgrow9.size
           simp only [World.size_alloc] at hz9
           have k3:Hid (∀ b,b < w5.heap.size→v12.ownBlock ≠ some b→w9.heap[b]? = w5.heap[b]?):=fun b h1 h2=>
            (hgrow9.block b (by simp;omega) (fun e=>by rcases hown5.out b e.symm with h | h;exact h2 h;omega)).trans ((heap_alloc_old _ _ (by omega)).trans ((hb8.block b (by omega)).trans ((HB7.out.block b (by omega)).trans (hsame.out b h1 h2))))
           have k4:Hid (∀ b,(Value.slice a9 (con2.length + 1) c9).ownBlock = some b→v12.ownBlock = some b ∨ w5.heap.size ≤ b):=fun b hb=>by
            rcases hat9 b hb with h | h
            · exact hown5.out b h
            · right;simp at h;omega
           have hlen2:(con2 ++ [q]).length ≤ 180 + (k2 + 1):=by simp;omega
           clear hown9 hgrow9 hat9 hb8
           go_roundw
           case rel=>exact ⟨k2 + 1,con2 ++ [q],_,by omega,by go_num,hcn2,hlen2,n1,n2,n3,k3,k4,n7,by omega⟩
           case measure=>simp [intOf];omega
       · obtain rfl:k2 = O.length:=by omega
         have hlt2':¬ (O.length:Int) < (O.length:Int):=by omega
         have hcn2:cnF con O = con2:=by rw [hcn.out,List.drop_length];rfl
         have hj2:=HJ.out
         rw [hcn2] at hj2
         have HJ2:=hid hj2
         have hBw:=HB3.out.trans (hB2.out.mono HB3.out.size)
         have HBW:=hid hBw
         clear hcn2 hj2 hBw
         by_cases h60:60 < K.length
         · have h60':(60:Int) < (K.length:Int):=by omega
           have HE:=hid (show joE x y z = 2 by rw [joE,if_neg (by rw [HC.out];simp),HJ2.out,if_pos h60])
           go_wp2_with fail
           refine bodyPost_ret (v := .tuple #[.slice none 0 0, .slice none 0 0, .int .i64 2]) (by simp [results,Tryz.results8,go_sem]) rfl ?_
           exact JoiU.bad HE.out (by decide) HBW.out
         · have h60':¬ (60:Int) < (K.length:Int):=by omega
           have hE:joE x y z = 0:=by rw [joE,if_neg (by rw [HC.out];simp),HJ2.out,if_neg h60]
           have hY:joY x y z = (treF 0 K).1:=by rw [joY,if_pos hE,HJ2.out]
           have hP:joP x y z = j9_ con2:=by rw [joP,if_pos hE,HJ2.out]
           have HE:=hid hE
           have HY:=hid hY
           have HP:=hid hP
           have SRT:=hid (yo_ con2 u12 w3.heap.size ds2 _ wr hown hlc.out (fun b hb=>⟨hb.2.1,hb.2.2.2⟩) hcon2.out (by omega))
           clear hE hY hP
           go_wp2_with fail
           refine SRT.out.mono ?_
           rintro e w8 ⟨rfl,cs8,hown8,hlc8,hgrow8⟩
           have hz8:=hgrow8.size
           have hS8:qd_ (fun b=>b < w5.heap.size∧v12.ownBlock ≠ some b) w5 w8:=fun b hb=>(hgrow8.block b (by have:=hb.1;omega) (fun e=>by rcases hown5.out b e.symm with h | h;exact hb.2 h;have:=hb.1;omega)).trans (hsame.out b hb.1 hb.2)
           have TR:=hid (tree_u K a5 c5 _ w8 (LSl.agree HK5.out hS8) (fun b hb=>by have:=hb.1;omega) (by omega) HSK.out)
           have HB8:=hid (HBW.out.grown hgrow8 (by have:=HBW.out.size;omega) (fun b hb=>by have:=(hown.lt b hb).1;have:=HB3.out.size;omega))
           have HO8:=hid hown8
           have HL8:=hid hlc8
           clear hown8 hlc8 hgrow8 hS8
           go_wp2_with fail
           refine TR.out.mono ?_
           rintro e w9 ⟨a9,c9,rfl,hF9,hb9⟩
           have hz9:=hb9.size
           have HF9:=hid hF9
           have HB9:=hid hb9
           clear hF9 hb9
           go_wp2_with fail
           obtain ⟨aC,cC,rfl,hcC,hcCm⟩:=owns_shape HO8.out
           refine bodyPost_ret (v := .tuple #[.slice a9 (treF 0 K).1.len c9, .slice aC con2.length cC, .int .i64 0]) (by simp [results,Tryz.results8,go_sem]) rfl ?_
           have hlen:(j9_ con2).length = con2.length:=(z2_ con2).length_eq
           have hw3:=HB3.out.size
           refine ⟨a9,c9,aC,cC,by rw [HY.out,HP.out,HE.out,hlen],?_,?_,HB8.out.trans (HB9.out.mono HB8.out.size)⟩
           · rw [HY.out]
             exact HF9.out.wide (fun b hb=>⟨by have:=hb.1;have:=HB8.out.size;omega,hb.2⟩)
           · rw [HP.out]
             refine ⟨cs8,?_,?_⟩
             · rw [hlen]
               exact ((SlC.of_owns HO8.out).agree (q9_ HB9.out (fun b hb=>hb.2))).wide (fun b hb=>⟨by have:=hb.1;omega,by have:=hb.2;omega⟩)
             · exact (HL8.out.agree (q9_ HB9.out (fun b hb=>by have:=hb.2.1;omega))).wide (fun b hb=>⟨by have:=hb.1;omega,by have:=hb.2.1;omega⟩)
 · have hc':(cpE [x,y,z] != 0) = true:=by simpa using hc
   have HE:=hid (show joE x y z = cpE [x,y,z] by rw [joE,if_pos hc])
   have HC:=hid hc
   have hcl:cpL [x,y,z] = []:=by rw [cpL,if_neg hc]
   rw [hcl] at hL2 ⊢
   obtain ⟨n,hn⟩:∃ n,cpE [x,y,z] = n:=⟨_,rfl⟩
   rw [hn] at hc' HE HC ⊢
   clear hc hcl hn
   go_wp2_with fail
   refine bodyPost_ret (v := .tuple #[.slice none 0 0, .slice none 0 0, .int .i64 n]) (by simp [results,Tryz.results8,go_sem]) rfl ?_
   exact JoiU.bad HE.out HC.out HB2.out
theorem Join_any (x y z:Fo) (ax ay az:Option Addr) (cx cy cz:Nat) (S:Nat→Prop) (w:World) (hx:FSl S w (.slice ax x.len cx) x) (hy:FSl S w (.slice ay y.len cy) y) (hz:FSl S w (.slice az z.len cz) z) (hS:∀ b,S b→b < w.heap.size)
 (lx:x.len ≤ 1000∧x.Sm∧x.cnt ≤ 900) (ly:y.len ≤ 1000∧y.Sm∧y.cnt ≤ 900) (lz:z.len ≤ 1000∧z.Sm∧z.cnt ≤ 900) (ht:Pow w) :
 Calls Tryz.prog 8 #[.slice ax x.len cx, .slice ay y.len cy, .slice az z.len cz] w (JoiR x y z w):=
 (Join_u x y z ax ay az cx cy cz S w hx hy hz hS lx ly lz ht).mono fun _ _ ⟨a,c,a',c',he,h,hp,hb⟩=>⟨a,c,a',c',he,FSlU.fsl h,hp,hb⟩
end Go.Proofs.LF