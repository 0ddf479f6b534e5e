/- Parts of the proof of a law of layer 11 (file): LbS9. The conditions stand in each theorem. -/
import Derived.Test.YtffjknkcogmnbaaGreatDoorProg
import Derived.Test.YtffjknkcogmnbaaGreatDoorTybg
set_option linter.all false
set_option linter.unusedVariables false
set_option linter.unusedSimpArgs false
namespace Go.Proofs.LS
open Go.RowKit Go.Sort Go.Proofs.LF Go.Proofs.LB
set_option maxHeartbeats 4000000
set_option maxRecDepth 100000
attribute [local go_sem] q1_ q2_ q8_
theorem least1 (n x:Int) (g o c:Nat) (w:World) (hx:w.cell? ⟨g,o,none⟩ = some (.int .i64 x)):Calls Tryz.prog 62 #[.int .i64 n, .slice (some ⟨g,o,none⟩) 1 c] w fun e w'=>e = .returned (.int .i64 (min n x))∧w' = w:=by
 go_enter Tryz.func62,Tryz.ntmps62
 go_wp2_with fail
 go_loopw [0,9] (fun vn vi wr=>wr = w∧((vi = .int .i64 0∧vn = .int .i64 n) ∨ (vi = .int .i64 1∧vn = .int .i64 (min n x)))) (fun _ vi _=>1 - (intOf vi).toNat)
 case atStart=>exact ⟨rfl, .inl ⟨rfl,rfl⟩⟩
 case round=>
  obtain ⟨rfl,⟨rfl,rfl⟩ | ⟨rfl,rfl⟩⟩:=hrel
  · go_wp2_with fail
    go_roundw
    case rel=>exact ⟨by trivial, .inr ⟨rfl,rfl⟩⟩
    case measure=>simp [intOf]
  · go_wp2_with fail
    go_ret
    exact ⟨rfl,rfl⟩
def WB (ws:List Way):Prop:=∀ x ∈ ws,x.f < 12∧x.t < 12∧(0 ≤ x.lo∧x.lo ≤ 1000000)∧(0 ≤ x.hi∧x.hi ≤ 1000000)∧(0 ≤ x.goes∧x.goes ≤ 1000000)∧(0 ≤ x.cost∧x.cost ≤ 1)
structure NetS (B N:Nat) (v:Value) (ws:List Way) (W:World):Prop where
 n:W.heap[N]? = some (.cells #[v] 227 (0,0))
 own:W.ownsRow B 229 6 v ws.length (wV ws)
 lt:N < B
theorem NetS.below {B N:Nat} {v:Value} {ws:List Way} {W W':World} (h:NetS B N v ws W) (hb:Below W.heap.size W W'):NetS B N v ws W':=⟨q0_ h.n hb,ob_ h.own hb (nl_ _),h.lt⟩
theorem wV_at {ws:List Way} {i j:Nat} {u:Value} (hi:i < ws.length) (hj:j < 6) (hu:(wC ws[i]).toList[j]? = some u):(wV ws)[i * 6 + j]? = some u:=by
 induction ws generalizing i with
 | nil=>simp at hi
 | cons x ws ih=>
   rw [wV,List.flatMap_cons]
   cases i with
   | zero=>
     rw [Nat.zero_mul,Nat.zero_add,List.getElem?_append_left (by simp [wC];omega)]
     exact hu
   | succ i=>
     rw [List.getElem?_append_right (by simp [wC];omega)]
     have:(i + 1) * 6 + j - ((wC x).toList).length = i * 6 + j:=by simp [wC];omega
     rw [this]
     exact ih (by simpa using hi) hu
theorem NetS.at {B N:Nat} {v:Value} {ws:List Way} {W:World} (h:NetS B N v ws W) {i:Nat} (hi:i < ws.length):∃ g c,v = .slice (some ⟨g,0,none⟩) ws.length c∧B ≤ g∧g < W.heap.size∧ws.length ≤ c∧c ≤ maxLen∧∀ j u,(wC ws[i]).toList[j]? = some u→W.cell? ⟨g,i * 6 + j,none⟩ = some u∧W.frozen? ⟨g,i * 6 + j,none⟩ = false:=by
 have ho:=h.own
 obtain ⟨h1,⟨rfl,hn⟩ | ⟨g,cap,cur,rfl,hbg,hgg,hn,hcap,hsz,htk⟩⟩:=ho
 · omega
 · refine ⟨g,cap,rfl,hbg,(ge_ hgg).1,hn,hcap,fun j u hu=>?_⟩
   have hj:j < 6:=by
    have:=(List.getElem?_eq_some_iff.1 hu).1
    simpa [wC] using this
   exact vp_ h.own (by omega) (wV_at hi hj hu)
theorem ends_true (B N i:Nat) (v:Value) (ws:List Way) (wx:Way) (w:World) (hN:NetS B N v ws w) (hi:i < ws.length) (hx:ws[i] = wx) (hW:WB ws) :
 Calls Tryz.prog 160 #[.pointer (some ⟨N,0,none⟩), .agg #[.int .i64 i, .bool true]] w fun e w'=>e = .returned (.tuple #[.int .i64 (wx.f), .int .i64 (wx.t), .int .i64 (wx.cost), .int .i64 (wx.hi - wx.goes)])∧Below w.heap.size w w':=by
 obtain ⟨g,c,rfl,hBg,hgl,hnc,hcm,hat⟩:=hN.at hi
 rw [hx] at hat
 have hwb:=hW wx (by rw [← hx];exact List.getElem_mem hi)
 unfold maxLen at hcm
 have hi':(i:Int) < (ws.length:Int):=by omega
 have hi0:(0:Int) ≤ (i:Int):=by omega
 obtain ⟨w1,hw1⟩:∃ w1,w.alloc (.cells #[.int .i64 i, .bool true] 237) = w1:=⟨_,rfl⟩
 have hb1:Below w.heap.size w w1:=by rw [← hw1];exact (Below.refl _ _).alloc (nl_ _) _
 have hn1:w1.heap[w.heap.size]? = some (.cells #[.int .i64 i, .bool true] 237 (0,0)):=by rw [← hw1];exact ha_ _ _
 have hNl:=(ge_ hN.n).1
 have n0:=bc_ hb1 hNl (cg_ hN.n (k:=0) (v := .slice (some ⟨g,0,none⟩) ws.length c) rfl)
 have p0:=cg_ hn1 (k:=0) (v := .int .i64 i) rfl
 have p1:=cg_ hn1 (k:=1) (v := .bool true) rfl
 have e0:=bc_ hb1 hgl (hat 0 _ rfl).1
 have e1:=bc_ hb1 hgl (hat 1 _ rfl).1
 have e2:=bc_ hb1 hgl (hat 2 _ rfl).1
 have e3:=bc_ hb1 hgl (hat 3 _ rfl).1
 have e4:=bc_ hb1 hgl (hat 4 _ rfl).1
 have e5:=bc_ hb1 hgl (hat 5 _ rfl).1
 rw [Nat.add_zero] at e0
 have hz1:=hb1.size
 have hlt1:=(ge_ hn1).1
 have HB:=hid hb1
 obtain ⟨b1,hb1'⟩:∃ b,w.heap.size = b:=⟨_,rfl⟩
 rw [hb1'] at p0 p1 hlt1
 have hw2:IntKind.i64.wrap (wx.hi - wx.goes) = wx.hi - wx.goes:=IntWalk.i64_in _ (by omega)
 have hw3:IntKind.i64.wrap (wx.goes - min wx.lo wx.goes) = wx.goes - min wx.lo wx.goes:=IntWalk.i64_in _ (by omega)
 have hw4:IntKind.i64.wrap (-wx.cost) = -wx.cost:=IntWalk.i64_in _ (by omega)
 have HB1:=hid hb1'
 clear hat hN hx hW hn1 hb1
 go_enter Tryz.func160,Tryz.ntmps160
 go_upto_region 1 with fail
 try rw [hw1]
 try simp only [hb1']
 clear hw1 hb1'
 have SC:=hid (fun (V:World) (hb:Below w1.heap.size w1 V)=>show V.cell? ⟨N,0,none⟩ = some (.slice (some ⟨g,0,none⟩) ws.length c)∧V.cell? ⟨b1,0,none⟩ = some (.int .i64 i)∧V.cell? ⟨b1,1,none⟩ = some (.bool true)∧V.cell? ⟨g,i * 6,none⟩ = some (.int .i64 wx.f)∧V.cell? ⟨g,i * 6 + 1,none⟩ = some (.int .i64 wx.t)∧V.cell? ⟨g,i * 6 + 2,none⟩ = some (.int .i64 wx.lo)∧V.cell? ⟨g,i * 6 + 3,none⟩ = some (.int .i64 wx.hi)∧V.cell? ⟨g,i * 6 + 4,none⟩ = some (.int .i64 wx.cost)∧V.cell? ⟨g,i * 6 + 5,none⟩ = some (.int .i64 wx.goes) from ⟨bc_ hb (by omega) n0,bc_ hb hlt1 p0,bc_ hb hlt1 p1,bc_ hb (by omega) e0,bc_ hb (by omega) e1,bc_ hb (by omega) e2,bc_ hb (by omega) e3,bc_ hb (by omega) e4,bc_ hb (by omega) e5⟩)
 have hS0:=SC.out w1.drew (Below.refl _ w1).drew
 clear n0 p0 e0 e1 e2 e3 e4 e5
 refine (wpIn_wide (n:=9)).1 ?_
 refine q6_ (fun V:World=>V.cell? ⟨N,0,none⟩ = some (.slice (some ⟨g,0,none⟩) ws.length c)∧V.cell? ⟨b1,0,none⟩ = some (.int .i64 i)∧V.cell? ⟨b1,1,none⟩ = some (.bool true)∧V.cell? ⟨g,i * 6,none⟩ = some (.int .i64 wx.f)∧V.cell? ⟨g,i * 6 + 1,none⟩ = some (.int .i64 wx.t)∧V.cell? ⟨g,i * 6 + 2,none⟩ = some (.int .i64 wx.lo)∧V.cell? ⟨g,i * 6 + 3,none⟩ = some (.int .i64 wx.hi)∧V.cell? ⟨g,i * 6 + 4,none⟩ = some (.int .i64 wx.cost)∧V.cell? ⟨g,i * 6 + 5,none⟩ = some (.int .i64 wx.goes)) (by kernel_rfl) ?_
 refine tkZ 0 9 (.pointer (some ⟨N,0,none⟩)) rfl rfl hS0 ?_
 refine tkZ 1 10 (.pointer (some ⟨N,0,none⟩)) rfl rfl hS0 ?_
 refine tkZ 2 11 (.pointer (some ⟨N,0,none⟩)) rfl rfl hS0 ?_
 refine tkZ 3 12 (.slice (some ⟨g,0,none⟩) ws.length c) rfl rfl hS0 ?_
 refine tkZ 4 13 (.pointer (some ⟨b1,0,none⟩)) rfl rfl hS0 ?_
 refine tkZ 5 14 (.int .i64 i) rfl rfl hS0 ?_
 refine tkZ 6 15 (.pointer (some ⟨g,i * 6,none⟩)) rfl rfl hS0 ?_
 refine tkZ 7 16 (.agg #[.int .i64 wx.f, .int .i64 wx.t, .int .i64 wx.lo, .int .i64 wx.hi, .int .i64 wx.cost, .int .i64 wx.goes]) rfl rfl hS0 ?_
 refine aHO 8 rfl fun K hK=>?_
 go_simp
 refine hK _ _ ⟨SC.out _ ((Below.refl _ w1).alloc (nl_ _) _).drew,?_⟩
 clear hK
 refine aHO 9 rfl fun K hK=>?_
 go_simp
 refine hK _ _ ⟨SC.out _ ((Below.refl _ w1).alloc (nl_ _) _).drew,?_⟩
 clear hK hS0
 refine q7_ (by kernel_rfl) ?_
 go_simp
 have hb2:Below w1.heap.size w1 (w1.alloc (.cells #[.int .i64 wx.f, .int .i64 wx.t, .int .i64 wx.lo, .int .i64 wx.hi, .int .i64 wx.cost, .int .i64 wx.goes] 229)).drew:=((Below.refl _ w1).alloc (nl_ _) _).drew
 have hn2:(w1.alloc (.cells #[.int .i64 wx.f, .int .i64 wx.t, .int .i64 wx.lo, .int .i64 wx.hi, .int .i64 wx.cost, .int .i64 wx.goes] 229)).drew.heap[w1.heap.size]? = some (.cells #[.int .i64 wx.f, .int .i64 wx.t, .int .i64 wx.lo, .int .i64 wx.hi, .int .i64 wx.cost, .int .i64 wx.goes] 229 (0,0)):=ha_ _ _
 obtain ⟨w2,hw2'⟩:∃ w2,(w1.alloc (.cells #[.int .i64 wx.f, .int .i64 wx.t, .int .i64 wx.lo, .int .i64 wx.hi, .int .i64 wx.cost, .int .i64 wx.goes] 229)).drew = w2:=⟨_,rfl⟩
 rw [hw2'] at hb2 hn2 ⊢
 have p2:=bc_ hb2 hlt1 p1
 obtain ⟨b2,hb2'⟩:∃ b,w1.heap.size = b:=⟨_,rfl⟩
 have HB2:=hid (HB.out.trans (hb2.mono HB.out.size))
 rw [hb2'] at hn2 ⊢
 have XN:=hid hn2
 clear hw2' hb2 hn2 p1 hb2'
 go_wp2_with fail
 have SC:=hid (fun (V:World) (hx:V.heap[b2]? = some (.cells #[.int .i64 wx.f, .int .i64 wx.t, .int .i64 wx.lo, .int .i64 wx.hi, .int .i64 wx.cost, .int .i64 wx.goes] 229 (0,0)))=>show V.cell? ⟨b2,0,none⟩ = some (.int .i64 wx.f)∧V.cell? ⟨b2,1,none⟩ = some (.int .i64 wx.t)∧V.cell? ⟨b2,2,none⟩ = some (.int .i64 wx.lo)∧V.cell? ⟨b2,3,none⟩ = some (.int .i64 wx.hi)∧V.cell? ⟨b2,4,none⟩ = some (.int .i64 wx.cost)∧V.cell? ⟨b2,5,none⟩ = some (.int .i64 wx.goes) from ⟨cg_ hx (k:=0) rfl,cg_ hx (k:=1) rfl,cg_ hx (k:=2) rfl,cg_ hx (k:=3) rfl,cg_ hx (k:=4) rfl,cg_ hx (k:=5) rfl⟩)
 have hbd:Below w2.heap.size w2 w2.drew:=(Below.refl _ w2).drew
 obtain ⟨w3,hw3'⟩:∃ w3,w2.drew = w3:=⟨_,rfl⟩
 rw [hw3'] at hbd
 have XN3:=hid (q0_ XN.out hbd)
 have HB3:=hid (HB2.out.trans (hbd.mono HB2.out.size))
 have hS0:=SC.out w3 XN3.out
 refine (wpIn_wide (n:=9)).1 ?_
 refine q6_ (fun V:World=>V.cell? ⟨b2,0,none⟩ = some (.int .i64 wx.f)∧V.cell? ⟨b2,1,none⟩ = some (.int .i64 wx.t)∧V.cell? ⟨b2,2,none⟩ = some (.int .i64 wx.lo)∧V.cell? ⟨b2,3,none⟩ = some (.int .i64 wx.hi)∧V.cell? ⟨b2,4,none⟩ = some (.int .i64 wx.cost)∧V.cell? ⟨b2,5,none⟩ = some (.int .i64 wx.goes)) (by kernel_rfl) ?_
 rw [hw3']
 clear hw3' hbd p2
 refine tkZ 0 19 (.pointer (some ⟨b2,0,none⟩)) rfl rfl hS0 ?_
 refine tkZ 1 20 (.int .i64 wx.f) rfl rfl hS0 ?_
 refine tkZ 2 21 (.pointer (some ⟨b2,1,none⟩)) rfl rfl hS0 ?_
 refine tkZ 3 22 (.int .i64 wx.t) rfl rfl hS0 ?_
 refine tkZ 4 23 (.pointer (some ⟨b2,4,none⟩)) rfl rfl hS0 ?_
 refine tkZ 5 24 (.int .i64 wx.cost) rfl rfl hS0 ?_
 refine tkZ 6 25 (.pointer (some ⟨b2,3,none⟩)) rfl rfl hS0 ?_
 refine tkZ 7 26 (.int .i64 wx.hi) rfl rfl hS0 ?_
 refine tkZ 8 27 (.pointer (some ⟨b2,5,none⟩)) rfl rfl hS0 ?_
 refine tkZ 9 28 (.int .i64 wx.goes) rfl rfl hS0 ?_
 refine tkZ 10 29 (.int .i64 (wx.hi - wx.goes)) rfl rfl hS0 ?_
 refine tkZ 11 4 (.int .i64 wx.f) rfl rfl hS0 ?_
 refine tkZ 12 5 (.int .i64 wx.t) rfl rfl hS0 ?_
 refine tkZ 13 6 (.int .i64 wx.cost) rfl rfl hS0 ?_
 refine tkZ 14 7 (.int .i64 (wx.hi - wx.goes)) rfl rfl hS0 ?_
 refine q7_ (by kernel_rfl) ?_
 go_simp
 go_wp2_with fail
 refine bodyPost_ret (v := .tuple #[.int .i64 (wx.f), .int .i64 (wx.t), .int .i64 (wx.cost), .int .i64 (wx.hi - wx.goes)]) (by simp [results,Tryz.results160,go_sem]) rfl ?_
 exact ⟨rfl,HB3.out⟩
theorem yO_ (B N i:Nat) (v:Value) (ws:List Way) (wx:Way) (w:World) (hN:NetS B N v ws w) (hi:i < ws.length) (hx:ws[i] = wx) (hW:WB ws) :
 Calls Tryz.prog 160 #[.pointer (some ⟨N,0,none⟩), .agg #[.int .i64 i, .bool false]] w fun e w'=>e = .returned (.tuple #[.int .i64 (wx.t), .int .i64 (wx.f), .int .i64 (-wx.cost), .int .i64 (wx.goes - min wx.lo wx.goes)])∧Below w.heap.size w w':=by
 obtain ⟨g,c,rfl,hBg,hgl,hnc,hcm,hat⟩:=hN.at hi
 rw [hx] at hat
 have hwb:=hW wx (by rw [← hx];exact List.getElem_mem hi)
 unfold maxLen at hcm
 have hi':(i:Int) < (ws.length:Int):=by omega
 have hi0:(0:Int) ≤ (i:Int):=by omega
 obtain ⟨w1,hw1⟩:∃ w1,w.alloc (.cells #[.int .i64 i, .bool false] 237) = w1:=⟨_,rfl⟩
 have hb1:Below w.heap.size w w1:=by rw [← hw1];exact (Below.refl _ _).alloc (nl_ _) _
 have hn1:w1.heap[w.heap.size]? = some (.cells #[.int .i64 i, .bool false] 237 (0,0)):=by rw [← hw1];exact ha_ _ _
 have hNl:=(ge_ hN.n).1
 have n0:=bc_ hb1 hNl (cg_ hN.n (k:=0) (v := .slice (some ⟨g,0,none⟩) ws.length c) rfl)
 have p0:=cg_ hn1 (k:=0) (v := .int .i64 i) rfl
 have p1:=cg_ hn1 (k:=1) (v := .bool false) rfl
 have e0:=bc_ hb1 hgl (hat 0 _ rfl).1
 have e1:=bc_ hb1 hgl (hat 1 _ rfl).1
 have e2:=bc_ hb1 hgl (hat 2 _ rfl).1
 have e3:=bc_ hb1 hgl (hat 3 _ rfl).1
 have e4:=bc_ hb1 hgl (hat 4 _ rfl).1
 have e5:=bc_ hb1 hgl (hat 5 _ rfl).1
 rw [Nat.add_zero] at e0
 have hz1:=hb1.size
 have hlt1:=(ge_ hn1).1
 have HB:=hid hb1
 obtain ⟨b1,hb1'⟩:∃ b,w.heap.size = b:=⟨_,rfl⟩
 rw [hb1'] at p0 p1 hlt1
 have hw2:IntKind.i64.wrap (wx.hi - wx.goes) = wx.hi - wx.goes:=IntWalk.i64_in _ (by omega)
 have hw3:IntKind.i64.wrap (wx.goes - min wx.lo wx.goes) = wx.goes - min wx.lo wx.goes:=IntWalk.i64_in _ (by omega)
 have hw4:IntKind.i64.wrap (-wx.cost) = -wx.cost:=IntWalk.i64_in _ (by omega)
 have HB1:=hid hb1'
 clear hat hN hx hW hn1 hb1
 go_enter Tryz.func160,Tryz.ntmps160
 go_upto_region 1 with fail
 try rw [hw1]
 try simp only [hb1']
 clear hw1 hb1'
 have SC:=hid (fun (V:World) (hb:Below w1.heap.size w1 V)=>show V.cell? ⟨N,0,none⟩ = some (.slice (some ⟨g,0,none⟩) ws.length c)∧V.cell? ⟨b1,0,none⟩ = some (.int .i64 i)∧V.cell? ⟨b1,1,none⟩ = some (.bool false)∧V.cell? ⟨g,i * 6,none⟩ = some (.int .i64 wx.f)∧V.cell? ⟨g,i * 6 + 1,none⟩ = some (.int .i64 wx.t)∧V.cell? ⟨g,i * 6 + 2,none⟩ = some (.int .i64 wx.lo)∧V.cell? ⟨g,i * 6 + 3,none⟩ = some (.int .i64 wx.hi)∧V.cell? ⟨g,i * 6 + 4,none⟩ = some (.int .i64 wx.cost)∧V.cell? ⟨g,i * 6 + 5,none⟩ = some (.int .i64 wx.goes) from ⟨bc_ hb (by omega) n0,bc_ hb hlt1 p0,bc_ hb hlt1 p1,bc_ hb (by omega) e0,bc_ hb (by omega) e1,bc_ hb (by omega) e2,bc_ hb (by omega) e3,bc_ hb (by omega) e4,bc_ hb (by omega) e5⟩)
 have hS0:=SC.out w1.drew (Below.refl _ w1).drew
 clear n0 p0 e0 e1 e2 e3 e4 e5
 refine (wpIn_wide (n:=9)).1 ?_
 refine q6_ (fun V:World=>V.cell? ⟨N,0,none⟩ = some (.slice (some ⟨g,0,none⟩) ws.length c)∧V.cell? ⟨b1,0,none⟩ = some (.int .i64 i)∧V.cell? ⟨b1,1,none⟩ = some (.bool false)∧V.cell? ⟨g,i * 6,none⟩ = some (.int .i64 wx.f)∧V.cell? ⟨g,i * 6 + 1,none⟩ = some (.int .i64 wx.t)∧V.cell? ⟨g,i * 6 + 2,none⟩ = some (.int .i64 wx.lo)∧V.cell? ⟨g,i * 6 + 3,none⟩ = some (.int .i64 wx.hi)∧V.cell? ⟨g,i * 6 + 4,none⟩ = some (.int .i64 wx.cost)∧V.cell? ⟨g,i * 6 + 5,none⟩ = some (.int .i64 wx.goes)) (by kernel_rfl) ?_
 refine tkZ 0 9 (.pointer (some ⟨N,0,none⟩)) rfl rfl hS0 ?_
 refine tkZ 1 10 (.pointer (some ⟨N,0,none⟩)) rfl rfl hS0 ?_
 refine tkZ 2 11 (.pointer (some ⟨N,0,none⟩)) rfl rfl hS0 ?_
 refine tkZ 3 12 (.slice (some ⟨g,0,none⟩) ws.length c) rfl rfl hS0 ?_
 refine tkZ 4 13 (.pointer (some ⟨b1,0,none⟩)) rfl rfl hS0 ?_
 refine tkZ 5 14 (.int .i64 i) rfl rfl hS0 ?_
 refine tkZ 6 15 (.pointer (some ⟨g,i * 6,none⟩)) rfl rfl hS0 ?_
 refine tkZ 7 16 (.agg #[.int .i64 wx.f, .int .i64 wx.t, .int .i64 wx.lo, .int .i64 wx.hi, .int .i64 wx.cost, .int .i64 wx.goes]) rfl rfl hS0 ?_
 refine aHO 8 rfl fun K hK=>?_
 go_simp
 refine hK _ _ ⟨SC.out _ ((Below.refl _ w1).alloc (nl_ _) _).drew,?_⟩
 clear hK
 refine aHO 9 rfl fun K hK=>?_
 go_simp
 refine hK _ _ ⟨SC.out _ ((Below.refl _ w1).alloc (nl_ _) _).drew,?_⟩
 clear hK hS0
 refine q7_ (by kernel_rfl) ?_
 go_simp
 have hb2:Below w1.heap.size w1 (w1.alloc (.cells #[.int .i64 wx.f, .int .i64 wx.t, .int .i64 wx.lo, .int .i64 wx.hi, .int .i64 wx.cost, .int .i64 wx.goes] 229)).drew:=((Below.refl _ w1).alloc (nl_ _) _).drew
 have hn2:(w1.alloc (.cells #[.int .i64 wx.f, .int .i64 wx.t, .int .i64 wx.lo, .int .i64 wx.hi, .int .i64 wx.cost, .int .i64 wx.goes] 229)).drew.heap[w1.heap.size]? = some (.cells #[.int .i64 wx.f, .int .i64 wx.t, .int .i64 wx.lo, .int .i64 wx.hi, .int .i64 wx.cost, .int .i64 wx.goes] 229 (0,0)):=ha_ _ _
 obtain ⟨w2,hw2'⟩:∃ w2,(w1.alloc (.cells #[.int .i64 wx.f, .int .i64 wx.t, .int .i64 wx.lo, .int .i64 wx.hi, .int .i64 wx.cost, .int .i64 wx.goes] 229)).drew = w2:=⟨_,rfl⟩
 rw [hw2'] at hb2 hn2 ⊢
 have p2:=bc_ hb2 hlt1 p1
 obtain ⟨b2,hb2'⟩:∃ b,w1.heap.size = b:=⟨_,rfl⟩
 have HB2:=hid (HB.out.trans (hb2.mono HB.out.size))
 rw [hb2'] at hn2 ⊢
 have XN:=hid hn2
 clear hw2' hb2 hn2 p1 hb2'
 go_wp2_with fail
 have SC:=hid (fun (V:World) (hx:V.heap[b2]? = some (.cells #[.int .i64 wx.f, .int .i64 wx.t, .int .i64 wx.lo, .int .i64 wx.hi, .int .i64 wx.cost, .int .i64 wx.goes] 229 (0,0)))=>show V.cell? ⟨b2,0,none⟩ = some (.int .i64 wx.f)∧V.cell? ⟨b2,1,none⟩ = some (.int .i64 wx.t)∧V.cell? ⟨b2,2,none⟩ = some (.int .i64 wx.lo)∧V.cell? ⟨b2,3,none⟩ = some (.int .i64 wx.hi)∧V.cell? ⟨b2,4,none⟩ = some (.int .i64 wx.cost)∧V.cell? ⟨b2,5,none⟩ = some (.int .i64 wx.goes) from ⟨cg_ hx (k:=0) rfl,cg_ hx (k:=1) rfl,cg_ hx (k:=2) rfl,cg_ hx (k:=3) rfl,cg_ hx (k:=4) rfl,cg_ hx (k:=5) rfl⟩)
 have hbd:Below w2.heap.size w2 w2.drew:=(Below.refl _ w2).drew
 obtain ⟨w3,hw3'⟩:∃ w3,w2.drew = w3:=⟨_,rfl⟩
 rw [hw3'] at hbd
 have XN3:=hid (q0_ XN.out hbd)
 have HB3:=hid (HB2.out.trans (hbd.mono HB2.out.size))
 have hS0:=SC.out w3 XN3.out
 refine (wpIn_wide (n:=9)).1 ?_
 refine q6_ (fun V:World=>V.cell? ⟨b2,0,none⟩ = some (.int .i64 wx.f)∧V.cell? ⟨b2,1,none⟩ = some (.int .i64 wx.t)∧V.cell? ⟨b2,2,none⟩ = some (.int .i64 wx.lo)∧V.cell? ⟨b2,3,none⟩ = some (.int .i64 wx.hi)∧V.cell? ⟨b2,4,none⟩ = some (.int .i64 wx.cost)∧V.cell? ⟨b2,5,none⟩ = some (.int .i64 wx.goes)) (by kernel_rfl) ?_
 rw [hw3']
 clear hw3' hbd p2
 refine tkZ 0 30 (.pointer (some ⟨b2,1,none⟩)) rfl rfl hS0 ?_
 refine tkZ 1 31 (.int .i64 wx.t) rfl rfl hS0 ?_
 refine tkZ 2 32 (.pointer (some ⟨b2,0,none⟩)) rfl rfl hS0 ?_
 refine tkZ 3 33 (.int .i64 wx.f) rfl rfl hS0 ?_
 refine tkZ 4 34 (.pointer (some ⟨b2,4,none⟩)) rfl rfl hS0 ?_
 refine tkZ 5 35 (.int .i64 wx.cost) rfl rfl hS0 ?_
 refine tkZ 6 36 (.int .i64 (-wx.cost)) rfl rfl hS0 ?_
 refine tkZ 7 37 (.pointer (some ⟨b2,5,none⟩)) rfl rfl hS0 ?_
 refine tkZ 8 38 (.int .i64 wx.goes) rfl rfl hS0 ?_
 refine tkZ 9 39 (.pointer (some ⟨b2,2,none⟩)) rfl rfl hS0 ?_
 refine tkZ 10 40 (.int .i64 wx.lo) rfl rfl hS0 ?_
 refine tkZ 11 41 (.pointer (some ⟨b2,5,none⟩)) rfl rfl hS0 ?_
 refine tkZ 12 42 (.int .i64 wx.goes) rfl rfl hS0 ?_
 refine aHO 13 rfl fun K hK=>?_
 go_simp
 have hb:=(Below.refl w3.heap.size w3).alloc (nl_ _) (.cells #[.int .i64 wx.goes] 3)
 have hk:=ha_ w3 (.cells #[.int .i64 wx.goes] 3)
 obtain ⟨w6,hw6⟩:∃ w6,w3.alloc (.cells #[.int .i64 wx.goes] 3) = w6:=⟨_,rfl⟩
 rw [hw6] at hb hk ⊢
 have c4:=cg_ hk (k:=0) rfl
 have GR:=hid (least1 wx.lo wx.goes w3.heap.size 0 1 w6 c4)
 have XN6:=hid (q0_ XN3.out hb)
 have HB6:=hid (HB3.out.trans (hb.mono HB3.out.size))
 have hS6:=SC.out w6 XN6.out
 refine hK _ _ ⟨hS6,?_⟩
 clear hK hb hk hw6 c4 hS0
 refine aHO 14 rfl fun K hK=>?_
 go_simp
 refine ⟨trivial,(callsIn_wide.2 GR.out).mono ?_⟩
 rintro e w7 ⟨rfl,hw7⟩
 subst hw7
 refine hK _ _ ⟨hS6,?_⟩
 clear hK GR
 refine tkZ 15 45 (.int .i64 (wx.goes - min wx.lo wx.goes)) rfl rfl hS6 ?_
 refine tkZ 16 4 (.int .i64 wx.t) rfl rfl hS6 ?_
 refine tkZ 17 5 (.int .i64 wx.f) rfl rfl hS6 ?_
 refine tkZ 18 6 (.int .i64 (-wx.cost)) rfl rfl hS6 ?_
 refine tkZ 19 7 (.int .i64 (wx.goes - min wx.lo wx.goes)) rfl rfl hS6 ?_
 refine q7_ (by kernel_rfl) ?_
 go_simp
 go_wp2_with fail
 refine bodyPost_ret (v := .tuple #[.int .i64 (wx.t), .int .i64 (wx.f), .int .i64 (-wx.cost), .int .i64 (wx.goes - min wx.lo wx.goes)]) (by simp [results,Tryz.results160,go_sem]) rfl ?_
 exact ⟨rfl,HB6.out⟩
theorem zT_ (B N:Nat) (c:Cg) (v:Value) (ws:List Way) (w:World) (hN:NetS B N v ws w) (hc:c.way < ws.length) (hW:WB ws) :
 Calls Tryz.prog 160 #[.pointer (some ⟨N,0,none⟩), .agg #[.int .i64 c.way, .bool c.more]] w fun e w'=>e = .returned (.tuple #[.int .i64 (eF ws c), .int .i64 (eT ws c), .int .i64 (eC ws c), .int .i64 (eR ws c)])∧Below w.heap.size w w':=by
 have hg:ws.getD c.way Way.z = ws[c.way]:=by simp [List.getD_eq_getElem?_getD,List.getElem?_eq_getElem hc]
 obtain ⟨i,m⟩:=c
 cases m with
 | true=>have:=ends_true B N i v ws _ w hN hc rfl hW;simpa only [eF,eT,eC,eR,hg,if_true] using this
 | false=>have:=yO_ B N i v ws _ w hN hc rfl hW;simpa only [eF,eT,eC,eR,hg,Bool.false_eq_true,if_false] using this
end Go.Proofs.LS