/- Parts of the proof of a law of layer 11 (file): LbS9, LbS10, LbS11, LbS10p, LbS12, LbS13, LbS14. The conditions stand in each theorem. -/
import Derived.Deep.MidRow
import Derived.Deep.WholeRow
import Derived.Stop.BytesEq
import Derived.Test.YtffjknkcogmnbaaGreatDoorProg
import Derived.Test.YtffjknkcogmnbaaGreatDoorSpba
set_option linter.all false
set_option linter.unusedVariables false
set_option linter.unusedSimpArgs false
namespace Go.Proofs.LS
open Go.RowKit Go.Sort Go.Proofs.LF Go.Proofs.LB
set_option maxHeartbeats 4000000
set_option maxRecDepth 100000
attribute [local go_sem] q1_ q2_ q6_
theorem xW_ (n x:Int) (g o c:Nat) (w:World) (hx:w.cell? ⟨g,o,none⟩ = some (.int .i64 x)):Calls Tryz.prog 62 #[.int .i64 n, .slice (some ⟨g,o,none⟩) 1 c] w fun e w'=>e = .returned (.int .i64 (min n x))∧w' = w:=by
 go_enter Tryz.func62,Tryz.ntmps62
 go_wp2_with fail
 go_loopw [0,9] (fun vn vi wr=>wr = w∧((vi = .int .i64 0∧vn = .int .i64 n) ∨ (vi = .int .i64 1∧vn = .int .i64 (min n x)))) (fun _ vi _=>1 - (intOf vi).toNat)
 case atStart=>exact ⟨rfl, .inl ⟨rfl,rfl⟩⟩
 case round=>
  obtain ⟨rfl,⟨rfl,rfl⟩ | ⟨rfl,rfl⟩⟩:=hrel
  · go_wp2_with fail
    go_roundw
    case rel=>exact ⟨by trivial, .inr ⟨rfl,rfl⟩⟩
    case measure=>simp [intOf]
  · go_wp2_with fail
    go_ret
    exact ⟨rfl,rfl⟩
def WB (ws:List Way):Prop:=∀ x ∈ ws,x.f < 12∧x.t < 12∧(0 ≤ x.lo∧x.lo ≤ 1000000)∧(0 ≤ x.hi∧x.hi ≤ 1000000)∧(0 ≤ x.goes∧x.goes ≤ 1000000)∧(0 ≤ x.cost∧x.cost ≤ 1)
structure NetS (B N:Nat) (v:Value) (ws:List Way) (W:World):Prop where
 n:W.heap[N]? = some (.cells #[v] 227 (0,0))
 own:W.ownsRow B 229 6 v ws.length (wV ws)
 lt:N < B
theorem NetS.below {B N:Nat} {v:Value} {ws:List Way} {W W':World} (h:NetS B N v ws W) (hb:Below W.heap.size W W'):NetS B N v ws W':=⟨q0_ h.n hb,ob_ h.own hb (nl_ _),h.lt⟩
theorem wV_at {ws:List Way} {i j:Nat} {u:Value} (hi:i < ws.length) (hj:j < 6) (hu:(wC ws[i]).toList[j]? = some u):(wV ws)[i * 6 + j]? = some u:=by
 induction ws generalizing i with
 | nil=>simp at hi
 | cons x ws ih=>
   rw [wV,List.flatMap_cons]
   cases i with
   | zero=>
     rw [Nat.zero_mul,Nat.zero_add,List.getElem?_append_left (by simp [wC];omega)]
     exact hu
   | succ i=>
     rw [List.getElem?_append_right (by simp [wC];omega)]
     have:(i + 1) * 6 + j - ((wC x).toList).length = i * 6 + j:=by simp [wC];omega
     rw [this]
     exact ih (by simpa using hi) hu
theorem NetS.at {B N:Nat} {v:Value} {ws:List Way} {W:World} (h:NetS B N v ws W) {i:Nat} (hi:i < ws.length):∃ g c,v = .slice (some ⟨g,0,none⟩) ws.length c∧B ≤ g∧g < W.heap.size∧ws.length ≤ c∧c ≤ maxLen∧∀ j u,(wC ws[i]).toList[j]? = some u→W.cell? ⟨g,i * 6 + j,none⟩ = some u∧W.frozen? ⟨g,i * 6 + j,none⟩ = false:=by
 have ho:=h.own
 obtain ⟨h1,⟨rfl,hn⟩ | ⟨g,cap,cur,rfl,hbg,hgg,hn,hcap,hsz,htk⟩⟩:=ho
 · omega
 · refine ⟨g,cap,rfl,hbg,(ge_ hgg).1,hn,hcap,fun j u hu=>?_⟩
   have hj:j < 6:=by
    have:=(List.getElem?_eq_some_iff.1 hu).1
    simpa [wC] using this
   exact owns_cell h.own (by omega) (wV_at hi hj hu)
theorem ends_true (B N i:Nat) (v:Value) (ws:List Way) (wx:Way) (w:World) (hN:NetS B N v ws w) (hi:i < ws.length) (hx:ws[i] = wx) (hW:WB ws) :
 Calls Tryz.prog 160 #[.pointer (some ⟨N,0,none⟩), .agg #[.int .i64 i, .bool true]] w fun e w'=>e = .returned (.tuple #[.int .i64 (wx.f), .int .i64 (wx.t), .int .i64 (wx.cost), .int .i64 (wx.hi - wx.goes)])∧Below w.heap.size w w':=by
 obtain ⟨g,c,rfl,hBg,hgl,hnc,hcm,hat⟩:=hN.at hi
 rw [hx] at hat
 have hwb:=hW wx (by rw [← hx];exact List.getElem_mem hi)
 unfold maxLen at hcm
 have hi':(i:Int) < (ws.length:Int):=by omega
 have hi0:(0:Int) ≤ (i:Int):=by omega
 obtain ⟨w1,hw1⟩:∃ w1,w.alloc (.cells #[.int .i64 i, .bool true] 237) = w1:=⟨_,rfl⟩
 have hb1:Below w.heap.size w w1:=by rw [← hw1];exact (Below.refl _ _).alloc (nl_ _) _
 have hn1:w1.heap[w.heap.size]? = some (.cells #[.int .i64 i, .bool true] 237 (0,0)):=by rw [← hw1];exact ha_ _ _
 have hNl:=(ge_ hN.n).1
 have n0:=bc_ hb1 hNl (cg_ hN.n (k:=0) (v := .slice (some ⟨g,0,none⟩) ws.length c) rfl)
 have p0:=cg_ hn1 (k:=0) (v := .int .i64 i) rfl
 have p1:=cg_ hn1 (k:=1) (v := .bool true) rfl
 have e0:=bc_ hb1 hgl (hat 0 _ rfl).1
 have e1:=bc_ hb1 hgl (hat 1 _ rfl).1
 have e2:=bc_ hb1 hgl (hat 2 _ rfl).1
 have e3:=bc_ hb1 hgl (hat 3 _ rfl).1
 have e4:=bc_ hb1 hgl (hat 4 _ rfl).1
 have e5:=bc_ hb1 hgl (hat 5 _ rfl).1
 rw [Nat.add_zero] at e0
 have hz1:=hb1.size
 have hlt1:=(ge_ hn1).1
 have HB:=hid hb1
 obtain ⟨b1,hb1'⟩:∃ b,w.heap.size = b:=⟨_,rfl⟩
 rw [hb1'] at p0 p1 hlt1
 have hw2:IntKind.i64.wrap (wx.hi - wx.goes) = wx.hi - wx.goes:=IntWalk.i64_in _ (by omega)
 have hw3:IntKind.i64.wrap (wx.goes - min wx.lo wx.goes) = wx.goes - min wx.lo wx.goes:=IntWalk.i64_in _ (by omega)
 have hw4:IntKind.i64.wrap (-wx.cost) = -wx.cost:=IntWalk.i64_in _ (by omega)
 have HB1:=hid hb1'
 clear hat hN hx hW hn1 hb1
 go_enter Tryz.func160,Tryz.ntmps160
 go_upto_region 1 with fail
 try rw [hw1]
 try simp only [hb1']
 clear hw1 hb1'
 have SC:=hid (fun (V:World) (hb:Below w1.heap.size w1 V)=>show V.cell? ⟨N,0,none⟩ = some (.slice (some ⟨g,0,none⟩) ws.length c)∧V.cell? ⟨b1,0,none⟩ = some (.int .i64 i)∧V.cell? ⟨b1,1,none⟩ = some (.bool true)∧V.cell? ⟨g,i * 6,none⟩ = some (.int .i64 wx.f)∧V.cell? ⟨g,i * 6 + 1,none⟩ = some (.int .i64 wx.t)∧V.cell? ⟨g,i * 6 + 2,none⟩ = some (.int .i64 wx.lo)∧V.cell? ⟨g,i * 6 + 3,none⟩ = some (.int .i64 wx.hi)∧V.cell? ⟨g,i * 6 + 4,none⟩ = some (.int .i64 wx.cost)∧V.cell? ⟨g,i * 6 + 5,none⟩ = some (.int .i64 wx.goes) from ⟨bc_ hb (by omega) n0,bc_ hb hlt1 p0,bc_ hb hlt1 p1,bc_ hb (by omega) e0,bc_ hb (by omega) e1,bc_ hb (by omega) e2,bc_ hb (by omega) e3,bc_ hb (by omega) e4,bc_ hb (by omega) e5⟩)
 have hS0:=SC.out w1.drew (Below.refl _ w1).drew
 clear n0 p0 e0 e1 e2 e3 e4 e5
 refine (wpIn_wide (n:=9)).1 ?_
 refine q8_ (fun V:World=>V.cell? ⟨N,0,none⟩ = some (.slice (some ⟨g,0,none⟩) ws.length c)∧V.cell? ⟨b1,0,none⟩ = some (.int .i64 i)∧V.cell? ⟨b1,1,none⟩ = some (.bool true)∧V.cell? ⟨g,i * 6,none⟩ = some (.int .i64 wx.f)∧V.cell? ⟨g,i * 6 + 1,none⟩ = some (.int .i64 wx.t)∧V.cell? ⟨g,i * 6 + 2,none⟩ = some (.int .i64 wx.lo)∧V.cell? ⟨g,i * 6 + 3,none⟩ = some (.int .i64 wx.hi)∧V.cell? ⟨g,i * 6 + 4,none⟩ = some (.int .i64 wx.cost)∧V.cell? ⟨g,i * 6 + 5,none⟩ = some (.int .i64 wx.goes)) (by kernel_rfl) ?_
 refine tkZ 0 9 (.pointer (some ⟨N,0,none⟩)) rfl rfl hS0 ?_
 refine tkZ 1 10 (.pointer (some ⟨N,0,none⟩)) rfl rfl hS0 ?_
 refine tkZ 2 11 (.pointer (some ⟨N,0,none⟩)) rfl rfl hS0 ?_
 refine tkZ 3 12 (.slice (some ⟨g,0,none⟩) ws.length c) rfl rfl hS0 ?_
 refine tkZ 4 13 (.pointer (some ⟨b1,0,none⟩)) rfl rfl hS0 ?_
 refine tkZ 5 14 (.int .i64 i) rfl rfl hS0 ?_
 refine tkZ 6 15 (.pointer (some ⟨g,i * 6,none⟩)) rfl rfl hS0 ?_
 refine tkZ 7 16 (.agg #[.int .i64 wx.f, .int .i64 wx.t, .int .i64 wx.lo, .int .i64 wx.hi, .int .i64 wx.cost, .int .i64 wx.goes]) rfl rfl hS0 ?_
 refine aHO 8 rfl fun K hK=>?_
 go_simp
 refine hK _ _ ⟨SC.out _ ((Below.refl _ w1).alloc (nl_ _) _).drew,?_⟩
 clear hK
 refine aHO 9 rfl fun K hK=>?_
 go_simp
 refine hK _ _ ⟨SC.out _ ((Below.refl _ w1).alloc (nl_ _) _).drew,?_⟩
 clear hK hS0
 refine q7_ (by kernel_rfl) ?_
 go_simp
 have hb2:Below w1.heap.size w1 (w1.alloc (.cells #[.int .i64 wx.f, .int .i64 wx.t, .int .i64 wx.lo, .int .i64 wx.hi, .int .i64 wx.cost, .int .i64 wx.goes] 229)).drew:=((Below.refl _ w1).alloc (nl_ _) _).drew
 have hn2:(w1.alloc (.cells #[.int .i64 wx.f, .int .i64 wx.t, .int .i64 wx.lo, .int .i64 wx.hi, .int .i64 wx.cost, .int .i64 wx.goes] 229)).drew.heap[w1.heap.size]? = some (.cells #[.int .i64 wx.f, .int .i64 wx.t, .int .i64 wx.lo, .int .i64 wx.hi, .int .i64 wx.cost, .int .i64 wx.goes] 229 (0,0)):=ha_ _ _
 obtain ⟨w2,hw2'⟩:∃ w2,(w1.alloc (.cells #[.int .i64 wx.f, .int .i64 wx.t, .int .i64 wx.lo, .int .i64 wx.hi, .int .i64 wx.cost, .int .i64 wx.goes] 229)).drew = w2:=⟨_,rfl⟩
 rw [hw2'] at hb2 hn2 ⊢
 have p2:=bc_ hb2 hlt1 p1
 obtain ⟨b2,hb2'⟩:∃ b,w1.heap.size = b:=⟨_,rfl⟩
 have HB2:=hid (HB.out.trans (hb2.mono HB.out.size))
 rw [hb2'] at hn2 ⊢
 have XN:=hid hn2
 clear hw2' hb2 hn2 p1 hb2'
 go_wp2_with fail
 have SC:=hid (fun (V:World) (hx:V.heap[b2]? = some (.cells #[.int .i64 wx.f, .int .i64 wx.t, .int .i64 wx.lo, .int .i64 wx.hi, .int .i64 wx.cost, .int .i64 wx.goes] 229 (0,0)))=>show V.cell? ⟨b2,0,none⟩ = some (.int .i64 wx.f)∧V.cell? ⟨b2,1,none⟩ = some (.int .i64 wx.t)∧V.cell? ⟨b2,2,none⟩ = some (.int .i64 wx.lo)∧V.cell? ⟨b2,3,none⟩ = some (.int .i64 wx.hi)∧V.cell? ⟨b2,4,none⟩ = some (.int .i64 wx.cost)∧V.cell? ⟨b2,5,none⟩ = some (.int .i64 wx.goes) from ⟨cg_ hx (k:=0) rfl,cg_ hx (k:=1) rfl,cg_ hx (k:=2) rfl,cg_ hx (k:=3) rfl,cg_ hx (k:=4) rfl,cg_ hx (k:=5) rfl⟩)
 have hbd:Below w2.heap.size w2 w2.drew:=(Below.refl _ w2).drew
 obtain ⟨w3,hw3'⟩:∃ w3,w2.drew = w3:=⟨_,rfl⟩
 rw [hw3'] at hbd
 have XN3:=hid (q0_ XN.out hbd)
 have HB3:=hid (HB2.out.trans (hbd.mono HB2.out.size))
 have hS0:=SC.out w3 XN3.out
 refine (wpIn_wide (n:=9)).1 ?_
 refine q8_ (fun V:World=>V.cell? ⟨b2,0,none⟩ = some (.int .i64 wx.f)∧V.cell? ⟨b2,1,none⟩ = some (.int .i64 wx.t)∧V.cell? ⟨b2,2,none⟩ = some (.int .i64 wx.lo)∧V.cell? ⟨b2,3,none⟩ = some (.int .i64 wx.hi)∧V.cell? ⟨b2,4,none⟩ = some (.int .i64 wx.cost)∧V.cell? ⟨b2,5,none⟩ = some (.int .i64 wx.goes)) (by kernel_rfl) ?_
 rw [hw3']
 clear hw3' hbd p2
 refine tkZ 0 19 (.pointer (some ⟨b2,0,none⟩)) rfl rfl hS0 ?_
 refine tkZ 1 20 (.int .i64 wx.f) rfl rfl hS0 ?_
 refine tkZ 2 21 (.pointer (some ⟨b2,1,none⟩)) rfl rfl hS0 ?_
 refine tkZ 3 22 (.int .i64 wx.t) rfl rfl hS0 ?_
 refine tkZ 4 23 (.pointer (some ⟨b2,4,none⟩)) rfl rfl hS0 ?_
 refine tkZ 5 24 (.int .i64 wx.cost) rfl rfl hS0 ?_
 refine tkZ 6 25 (.pointer (some ⟨b2,3,none⟩)) rfl rfl hS0 ?_
 refine tkZ 7 26 (.int .i64 wx.hi) rfl rfl hS0 ?_
 refine tkZ 8 27 (.pointer (some ⟨b2,5,none⟩)) rfl rfl hS0 ?_
 refine tkZ 9 28 (.int .i64 wx.goes) rfl rfl hS0 ?_
 refine tkZ 10 29 (.int .i64 (wx.hi - wx.goes)) rfl rfl hS0 ?_
 refine tkZ 11 4 (.int .i64 wx.f) rfl rfl hS0 ?_
 refine tkZ 12 5 (.int .i64 wx.t) rfl rfl hS0 ?_
 refine tkZ 13 6 (.int .i64 wx.cost) rfl rfl hS0 ?_
 refine tkZ 14 7 (.int .i64 (wx.hi - wx.goes)) rfl rfl hS0 ?_
 refine q7_ (by kernel_rfl) ?_
 go_simp
 go_wp2_with fail
 refine bodyPost_ret (v := .tuple #[.int .i64 (wx.f), .int .i64 (wx.t), .int .i64 (wx.cost), .int .i64 (wx.hi - wx.goes)]) (by simp [results,Tryz.results160,go_sem]) rfl ?_
 exact ⟨rfl,HB3.out⟩
theorem w4_ (B N i:Nat) (v:Value) (ws:List Way) (wx:Way) (w:World) (hN:NetS B N v ws w) (hi:i < ws.length) (hx:ws[i] = wx) (hW:WB ws) :
 Calls Tryz.prog 160 #[.pointer (some ⟨N,0,none⟩), .agg #[.int .i64 i, .bool false]] w fun e w'=>e = .returned (.tuple #[.int .i64 (wx.t), .int .i64 (wx.f), .int .i64 (-wx.cost), .int .i64 (wx.goes - min wx.lo wx.goes)])∧Below w.heap.size w w':=by
 obtain ⟨g,c,rfl,hBg,hgl,hnc,hcm,hat⟩:=hN.at hi
 rw [hx] at hat
 have hwb:=hW wx (by rw [← hx];exact List.getElem_mem hi)
 unfold maxLen at hcm
 have hi':(i:Int) < (ws.length:Int):=by omega
 have hi0:(0:Int) ≤ (i:Int):=by omega
 obtain ⟨w1,hw1⟩:∃ w1,w.alloc (.cells #[.int .i64 i, .bool false] 237) = w1:=⟨_,rfl⟩
 have hb1:Below w.heap.size w w1:=by rw [← hw1];exact (Below.refl _ _).alloc (nl_ _) _
 have hn1:w1.heap[w.heap.size]? = some (.cells #[.int .i64 i, .bool false] 237 (0,0)):=by rw [← hw1];exact ha_ _ _
 have hNl:=(ge_ hN.n).1
 have n0:=bc_ hb1 hNl (cg_ hN.n (k:=0) (v := .slice (some ⟨g,0,none⟩) ws.length c) rfl)
 have p0:=cg_ hn1 (k:=0) (v := .int .i64 i) rfl
 have p1:=cg_ hn1 (k:=1) (v := .bool false) rfl
 have e0:=bc_ hb1 hgl (hat 0 _ rfl).1
 have e1:=bc_ hb1 hgl (hat 1 _ rfl).1
 have e2:=bc_ hb1 hgl (hat 2 _ rfl).1
 have e3:=bc_ hb1 hgl (hat 3 _ rfl).1
 have e4:=bc_ hb1 hgl (hat 4 _ rfl).1
 have e5:=bc_ hb1 hgl (hat 5 _ rfl).1
 rw [Nat.add_zero] at e0
 have hz1:=hb1.size
 have hlt1:=(ge_ hn1).1
 have HB:=hid hb1
 obtain ⟨b1,hb1'⟩:∃ b,w.heap.size = b:=⟨_,rfl⟩
 rw [hb1'] at p0 p1 hlt1
 have hw2:IntKind.i64.wrap (wx.hi - wx.goes) = wx.hi - wx.goes:=IntWalk.i64_in _ (by omega)
 have hw3:IntKind.i64.wrap (wx.goes - min wx.lo wx.goes) = wx.goes - min wx.lo wx.goes:=IntWalk.i64_in _ (by omega)
 have hw4:IntKind.i64.wrap (-wx.cost) = -wx.cost:=IntWalk.i64_in _ (by omega)
 have HB1:=hid hb1'
 clear hat hN hx hW hn1 hb1
 go_enter Tryz.func160,Tryz.ntmps160
 go_upto_region 1 with fail
 try rw [hw1]
 try simp only [hb1']
 clear hw1 hb1'
 have SC:=hid (fun (V:World) (hb:Below w1.heap.size w1 V)=>show V.cell? ⟨N,0,none⟩ = some (.slice (some ⟨g,0,none⟩) ws.length c)∧V.cell? ⟨b1,0,none⟩ = some (.int .i64 i)∧V.cell? ⟨b1,1,none⟩ = some (.bool false)∧V.cell? ⟨g,i * 6,none⟩ = some (.int .i64 wx.f)∧V.cell? ⟨g,i * 6 + 1,none⟩ = some (.int .i64 wx.t)∧V.cell? ⟨g,i * 6 + 2,none⟩ = some (.int .i64 wx.lo)∧V.cell? ⟨g,i * 6 + 3,none⟩ = some (.int .i64 wx.hi)∧V.cell? ⟨g,i * 6 + 4,none⟩ = some (.int .i64 wx.cost)∧V.cell? ⟨g,i * 6 + 5,none⟩ = some (.int .i64 wx.goes) from ⟨bc_ hb (by omega) n0,bc_ hb hlt1 p0,bc_ hb hlt1 p1,bc_ hb (by omega) e0,bc_ hb (by omega) e1,bc_ hb (by omega) e2,bc_ hb (by omega) e3,bc_ hb (by omega) e4,bc_ hb (by omega) e5⟩)
 have hS0:=SC.out w1.drew (Below.refl _ w1).drew
 clear n0 p0 e0 e1 e2 e3 e4 e5
 refine (wpIn_wide (n:=9)).1 ?_
 refine q8_ (fun V:World=>V.cell? ⟨N,0,none⟩ = some (.slice (some ⟨g,0,none⟩) ws.length c)∧V.cell? ⟨b1,0,none⟩ = some (.int .i64 i)∧V.cell? ⟨b1,1,none⟩ = some (.bool false)∧V.cell? ⟨g,i * 6,none⟩ = some (.int .i64 wx.f)∧V.cell? ⟨g,i * 6 + 1,none⟩ = some (.int .i64 wx.t)∧V.cell? ⟨g,i * 6 + 2,none⟩ = some (.int .i64 wx.lo)∧V.cell? ⟨g,i * 6 + 3,none⟩ = some (.int .i64 wx.hi)∧V.cell? ⟨g,i * 6 + 4,none⟩ = some (.int .i64 wx.cost)∧V.cell? ⟨g,i * 6 + 5,none⟩ = some (.int .i64 wx.goes)) (by kernel_rfl) ?_
 refine tkZ 0 9 (.pointer (some ⟨N,0,none⟩)) rfl rfl hS0 ?_
 refine tkZ 1 10 (.pointer (some ⟨N,0,none⟩)) rfl rfl hS0 ?_
 refine tkZ 2 11 (.pointer (some ⟨N,0,none⟩)) rfl rfl hS0 ?_
 refine tkZ 3 12 (.slice (some ⟨g,0,none⟩) ws.length c) rfl rfl hS0 ?_
 refine tkZ 4 13 (.pointer (some ⟨b1,0,none⟩)) rfl rfl hS0 ?_
 refine tkZ 5 14 (.int .i64 i) rfl rfl hS0 ?_
 refine tkZ 6 15 (.pointer (some ⟨g,i * 6,none⟩)) rfl rfl hS0 ?_
 refine tkZ 7 16 (.agg #[.int .i64 wx.f, .int .i64 wx.t, .int .i64 wx.lo, .int .i64 wx.hi, .int .i64 wx.cost, .int .i64 wx.goes]) rfl rfl hS0 ?_
 refine aHO 8 rfl fun K hK=>?_
 go_simp
 refine hK _ _ ⟨SC.out _ ((Below.refl _ w1).alloc (nl_ _) _).drew,?_⟩
 clear hK
 refine aHO 9 rfl fun K hK=>?_
 go_simp
 refine hK _ _ ⟨SC.out _ ((Below.refl _ w1).alloc (nl_ _) _).drew,?_⟩
 clear hK hS0
 refine q7_ (by kernel_rfl) ?_
 go_simp
 have hb2:Below w1.heap.size w1 (w1.alloc (.cells #[.int .i64 wx.f, .int .i64 wx.t, .int .i64 wx.lo, .int .i64 wx.hi, .int .i64 wx.cost, .int .i64 wx.goes] 229)).drew:=((Below.refl _ w1).alloc (nl_ _) _).drew
 have hn2:(w1.alloc (.cells #[.int .i64 wx.f, .int .i64 wx.t, .int .i64 wx.lo, .int .i64 wx.hi, .int .i64 wx.cost, .int .i64 wx.goes] 229)).drew.heap[w1.heap.size]? = some (.cells #[.int .i64 wx.f, .int .i64 wx.t, .int .i64 wx.lo, .int .i64 wx.hi, .int .i64 wx.cost, .int .i64 wx.goes] 229 (0,0)):=ha_ _ _
 obtain ⟨w2,hw2'⟩:∃ w2,(w1.alloc (.cells #[.int .i64 wx.f, .int .i64 wx.t, .int .i64 wx.lo, .int .i64 wx.hi, .int .i64 wx.cost, .int .i64 wx.goes] 229)).drew = w2:=⟨_,rfl⟩
 rw [hw2'] at hb2 hn2 ⊢
 have p2:=bc_ hb2 hlt1 p1
 obtain ⟨b2,hb2'⟩:∃ b,w1.heap.size = b:=⟨_,rfl⟩
 have HB2:=hid (HB.out.trans (hb2.mono HB.out.size))
 rw [hb2'] at hn2 ⊢
 have XN:=hid hn2
 clear hw2' hb2 hn2 p1 hb2'
 go_wp2_with fail
 have SC:=hid (fun (V:World) (hx:V.heap[b2]? = some (.cells #[.int .i64 wx.f, .int .i64 wx.t, .int .i64 wx.lo, .int .i64 wx.hi, .int .i64 wx.cost, .int .i64 wx.goes] 229 (0,0)))=>show V.cell? ⟨b2,0,none⟩ = some (.int .i64 wx.f)∧V.cell? ⟨b2,1,none⟩ = some (.int .i64 wx.t)∧V.cell? ⟨b2,2,none⟩ = some (.int .i64 wx.lo)∧V.cell? ⟨b2,3,none⟩ = some (.int .i64 wx.hi)∧V.cell? ⟨b2,4,none⟩ = some (.int .i64 wx.cost)∧V.cell? ⟨b2,5,none⟩ = some (.int .i64 wx.goes) from ⟨cg_ hx (k:=0) rfl,cg_ hx (k:=1) rfl,cg_ hx (k:=2) rfl,cg_ hx (k:=3) rfl,cg_ hx (k:=4) rfl,cg_ hx (k:=5) rfl⟩)
 have hbd:Below w2.heap.size w2 w2.drew:=(Below.refl _ w2).drew
 obtain ⟨w3,hw3'⟩:∃ w3,w2.drew = w3:=⟨_,rfl⟩
 rw [hw3'] at hbd
 have XN3:=hid (q0_ XN.out hbd)
 have HB3:=hid (HB2.out.trans (hbd.mono HB2.out.size))
 have hS0:=SC.out w3 XN3.out
 refine (wpIn_wide (n:=9)).1 ?_
 refine q8_ (fun V:World=>V.cell? ⟨b2,0,none⟩ = some (.int .i64 wx.f)∧V.cell? ⟨b2,1,none⟩ = some (.int .i64 wx.t)∧V.cell? ⟨b2,2,none⟩ = some (.int .i64 wx.lo)∧V.cell? ⟨b2,3,none⟩ = some (.int .i64 wx.hi)∧V.cell? ⟨b2,4,none⟩ = some (.int .i64 wx.cost)∧V.cell? ⟨b2,5,none⟩ = some (.int .i64 wx.goes)) (by kernel_rfl) ?_
 rw [hw3']
 clear hw3' hbd p2
 refine tkZ 0 30 (.pointer (some ⟨b2,1,none⟩)) rfl rfl hS0 ?_
 refine tkZ 1 31 (.int .i64 wx.t) rfl rfl hS0 ?_
 refine tkZ 2 32 (.pointer (some ⟨b2,0,none⟩)) rfl rfl hS0 ?_
 refine tkZ 3 33 (.int .i64 wx.f) rfl rfl hS0 ?_
 refine tkZ 4 34 (.pointer (some ⟨b2,4,none⟩)) rfl rfl hS0 ?_
 refine tkZ 5 35 (.int .i64 wx.cost) rfl rfl hS0 ?_
 refine tkZ 6 36 (.int .i64 (-wx.cost)) rfl rfl hS0 ?_
 refine tkZ 7 37 (.pointer (some ⟨b2,5,none⟩)) rfl rfl hS0 ?_
 refine tkZ 8 38 (.int .i64 wx.goes) rfl rfl hS0 ?_
 refine tkZ 9 39 (.pointer (some ⟨b2,2,none⟩)) rfl rfl hS0 ?_
 refine tkZ 10 40 (.int .i64 wx.lo) rfl rfl hS0 ?_
 refine tkZ 11 41 (.pointer (some ⟨b2,5,none⟩)) rfl rfl hS0 ?_
 refine tkZ 12 42 (.int .i64 wx.goes) rfl rfl hS0 ?_
 refine aHO 13 rfl fun K hK=>?_
 go_simp
 have hb:=(Below.refl w3.heap.size w3).alloc (nl_ _) (.cells #[.int .i64 wx.goes] 3)
 have hk:=ha_ w3 (.cells #[.int .i64 wx.goes] 3)
 obtain ⟨w6,hw6⟩:∃ w6,w3.alloc (.cells #[.int .i64 wx.goes] 3) = w6:=⟨_,rfl⟩
 rw [hw6] at hb hk ⊢
 have c4:=cg_ hk (k:=0) rfl
 have GR:=hid (xW_ wx.lo wx.goes w3.heap.size 0 1 w6 c4)
 have XN6:=hid (q0_ XN3.out hb)
 have HB6:=hid (HB3.out.trans (hb.mono HB3.out.size))
 have hS6:=SC.out w6 XN6.out
 refine hK _ _ ⟨hS6,?_⟩
 clear hK hb hk hw6 c4 hS0
 refine aHO 14 rfl fun K hK=>?_
 go_simp
 refine ⟨trivial,(callsIn_wide.2 GR.out).mono ?_⟩
 rintro e w7 ⟨rfl,hw7⟩
 subst hw7
 refine hK _ _ ⟨hS6,?_⟩
 clear hK GR
 refine tkZ 15 45 (.int .i64 (wx.goes - min wx.lo wx.goes)) rfl rfl hS6 ?_
 refine tkZ 16 4 (.int .i64 wx.t) rfl rfl hS6 ?_
 refine tkZ 17 5 (.int .i64 wx.f) rfl rfl hS6 ?_
 refine tkZ 18 6 (.int .i64 (-wx.cost)) rfl rfl hS6 ?_
 refine tkZ 19 7 (.int .i64 (wx.goes - min wx.lo wx.goes)) rfl rfl hS6 ?_
 refine q7_ (by kernel_rfl) ?_
 go_simp
 go_wp2_with fail
 refine bodyPost_ret (v := .tuple #[.int .i64 (wx.t), .int .i64 (wx.f), .int .i64 (-wx.cost), .int .i64 (wx.goes - min wx.lo wx.goes)]) (by simp [results,Tryz.results160,go_sem]) rfl ?_
 exact ⟨rfl,HB6.out⟩
theorem zW_ (B N:Nat) (c:Cg) (v:Value) (ws:List Way) (w:World) (hN:NetS B N v ws w) (hc:c.way < ws.length) (hW:WB ws) :
 Calls Tryz.prog 160 #[.pointer (some ⟨N,0,none⟩), .agg #[.int .i64 c.way, .bool c.more]] w fun e w'=>e = .returned (.tuple #[.int .i64 (eF ws c), .int .i64 (eT ws c), .int .i64 (eC ws c), .int .i64 (eR ws c)])∧Below w.heap.size w w':=by
 have hg:ws.getD c.way Way.z = ws[c.way]:=by simp [List.getD_eq_getElem?_getD,List.getElem?_eq_getElem hc]
 obtain ⟨i,m⟩:=c
 cases m with
 | true=>have:=ends_true B N i v ws _ w hN hc rfl hW;simpa only [eF,eT,eC,eR,hg,if_true] using this
 | false=>have:=w4_ B N i v ws _ w hN hc rfl hW;simpa only [eF,eT,eC,eR,hg,Bool.false_eq_true,if_false] using this
theorem NetS.kept {B N:Nat} {v:Value} {ws:List Way} {W W':World} (h:NetS B N v ws W) (hN:W'.heap[N]? = W.heap[N]?) (hv:∀ g,v.ownBlock = some g→W'.heap[g]? = W.heap[g]?):NetS B N v ws W':=⟨hN.trans h.n,owns_agree h.own hv,h.lt⟩
def qW_ (ws:List Way) (k j:Nat):List Cg:=qM_ ws k ++ (([⟨k,true⟩,⟨k,false⟩]:List Cg).take j).filter fun c=>decide (0 < eR ws c)
theorem x9_ (ws:List Way) (k:Nat):qW_ ws k 0 = qM_ ws k:=by simp [qW_]
theorem vi_ (ws:List Way) (k:Nat):qW_ ws k 2 = qM_ ws (k + 1):=by
 rw [qW_,qM_,qM_,chs,List.filter_append];rfl
theorem x2_ (ws:List Way) (k j:Nat) (b:Bool) (hj:(j = 0∧b = true) ∨ (j = 1∧b = false)):qW_ ws k (j + 1) = if 0 < eR ws ⟨k,b⟩ then qW_ ws k j ++ [⟨k,b⟩] else qW_ ws k j:=by
 rcases hj with ⟨rfl,rfl⟩ | ⟨rfl,rfl⟩
 · simp only [qW_]
   by_cases h:0 < eR ws ⟨k,true⟩ <;> simp [h]
 · simp only [qW_]
   by_cases h:0 < eR ws ⟨k,false⟩ <;> by_cases h2:0 < eR ws ⟨k,true⟩ <;> simp [h,h2]
theorem zr_ {ws:List Way} (hW:WB ws) {c:Cg} (hc:c.way < ws.length):eF ws c < 12∧eT ws c < 12∧(-1 ≤ eC ws c∧eC ws c ≤ 1)∧(-1000000 ≤ eR ws c∧eR ws c ≤ 1000000):=by
 have hg:ws.getD c.way Way.z = ws[c.way]:=by simp [List.getD_eq_getElem?_getD,List.getElem?_eq_getElem hc]
 have:=hW _ (List.getElem_mem hc)
 rw [eF,eT,eC,eR,hg]
 cases c.more <;> simp <;> omega
theorem jR_ {σ:Type} (gf:Nat) (hE:LF.z5_ gf) (lb:Array Value) (B N:Nat) (v:Value) (ws:List Way) (R:σ→World→Prop) (step:σ→Cg→σ) (O:Nat→Prop) (w:World) (s0:σ) (hN:NetS B N v ws w) (hW:WB ws) (hlen:ws.length ≤ 100)
 (hO:∀ b,O b→b < w.heap.size∧b ≠ N∧v.ownBlock ≠ some b) (hR0:R s0 w) (hRk:∀ s W W',R s W→(∀ b,O b→W'.heap[b]? = W.heap[b]?)→R s W')
 (hstep:∀ s c W,c ∈ qM_ ws ws.length→R s W→w.heap.size ≤ W.heap.size→Calls Tryz.prog gf (#[.agg #[.int .i64 c.way, .bool c.more], .int .i64 (eF ws c), .int .i64 (eT ws c), .int .i64 (eC ws c), .int .i64 (eR ws c)] ++ lb) W fun e W'=>(∃ r,e = .returned r)∧R (step s c) W'∧Keep O W W') :
 Calls Tryz.prog 158 #[.pointer (some ⟨N,0,none⟩), .func (.func gf) #[] lb] w fun e w'=>(∃ r,e = .returned r)∧R ((qM_ ws ws.length).foldl step s0) w'∧Keep O w w':=by
 have hE':∀ (args:Array Value) (W:World),Sem.run Tryz.prog (callFunc gf args) W = .ok (.enter gf args) W:=hE
 have HN:=hid hN
 have HW:=hid hW
 have HO:=hid hO
 have HR0:=hid hR0
 have HRK:=hid hRk
 have HST:=hid hstep
 have hsh:=owns_shape hN.own
 obtain ⟨ga,gc,rfl,_,_⟩:=hsh
 have NK:=hid (fun (W:World) (hk:Keep O w W)=>HN.out.kept (hk.block N (ge_ HN.out.n).1 (fun h=>(HO.out _ h).2.1 rfl)) fun g hg=>hk.block g (HN.out.own.lt g hg).2 fun h=>(HO.out g h).2.2 hg)
 have n0:=cg_ HN.out.n (k:=0) (v := .slice ga ws.length gc) rfl
 clear hE hN hW hO hR0 hRk hstep
 go_enter Tryz.func158,Tryz.ntmps158
 go_wp2_with fail
 go_loopw [17] (fun vi wr=>∃ i:Nat,i ≤ ws.length∧vi = .int .i64 i∧Hid (R ((qM_ ws i).foldl step s0) wr)∧Hid (Keep O w wr)) (fun vi _=>ws.length - (intOf vi).toNat)
 case atStart=>exact ⟨0,by omega,rfl,HR0.out,Keep.refl _ _⟩
 case round=>
  obtain ⟨i,hi,rfl,HR,HK⟩:=hrel
  by_cases hlt:i < ws.length
  · have hlt':(i:Int) < (ws.length:Int):=by omega
    clear n0
    obtain ⟨w1,hw1⟩:∃ w1,wr.alloc (.cells #[.bool true, .bool false] 4) = w1:=⟨_,rfl⟩
    have hb1:Below wr.heap.size wr w1:=by rw [← hw1];exact (Below.refl _ _).alloc (nl_ _) _
    have hn1:w1.heap[wr.heap.size]? = some (.cells #[.bool true, .bool false] 4 (0,0)):=by rw [← hw1];exact ha_ _ _
    have BN:=hid hn1
    have HK1:=hid (HK.out.trans (Keep.of_below hb1))
    have HR1:=hid (HRK.out _ _ w1 HR.out fun b hb=>hb1.block b (by have:=(HO.out b hb).1;have:=HK.out.size;omega))
    have hzz:=HK.out.size
    obtain ⟨bs,hbs⟩:∃ b,wr.heap.size = b:=⟨_,rfl⟩
    rw [hbs] at BN hzz
    clear hn1 hb1 HR HK
    go_wp2_with fail
    try rw [hw1]
    try simp only [hbs]
    clear hw1 hbs
    go_loopw [22] (fun vk wk=>∃ j:Nat,j ≤ 2∧vk = .int .i64 j∧Hid (R ((qW_ ws i j).foldl step s0) wk)∧Hid (Keep O w wk)∧Hid (wk.heap[bs]? = some (.cells #[.bool true, .bool false] 4 (0,0)))) (fun vk _=>2 - (intOf vk).toNat)
    case atStart=>exact ⟨0,by omega,rfl,by rw [x9_];exact HR1.out,HK1.out,BN.out⟩
    case round=>
     obtain ⟨j,hj,rfl,HR,HK,HBN⟩:=hrel
     by_cases hj2:j < 2
     · obtain ⟨b,hb⟩:∃ b:Bool,(j = 0∧b = true) ∨ (j = 1∧b = false):=by
        rcases (show j = 0 ∨ j = 1 by omega) with h | h
        · exact ⟨true, .inl ⟨h,rfl⟩⟩
        · exact ⟨false, .inr ⟨h,rfl⟩⟩
       have hcell:wr.cell? ⟨bs,j,none⟩ = some (.bool b):=by
        rcases hb with ⟨rfl,rfl⟩ | ⟨rfl,rfl⟩
        · exact cg_ HBN.out (k:=0) rfl
        · exact cg_ HBN.out (k:=1) rfl
       have hjI:(j:Int) < 2:=by omega
       have hj0:(0:Int) ≤ (j:Int):=by omega
       have HJ:=hid (x2_ ws i j b hb)
       have HBJ:=hid hb
       obtain ⟨w2,hw2⟩:∃ w2,wr.alloc (.cells #[.int .i64 i, .bool b] 237) = w2:=⟨_,rfl⟩
       have hb2:Below wr.heap.size wr w2:=by rw [← hw2];exact (Below.refl _ _).alloc (nl_ _) _
       have hn2:w2.heap[wr.heap.size]? = some (.cells #[.int .i64 i, .bool b] 237 (0,0)):=by rw [← hw2];exact ha_ _ _
       have HK2:=hid (HK.out.trans (Keep.of_below hb2))
       have HR2:=hid (HRK.out _ _ w2 HR.out fun b hb=>hb2.block b (by have:=(HO.out b hb).1;have:=HK.out.size;omega))
       have BN2:=hid (q0_ HBN.out hb2)
       have hzk:=HK.out.size
       have CN:=hid hn2
       have EN:=hid (zW_ B N ⟨i,b⟩ _ ws w2 (NK.out w2 HK2.out) hlt HW.out)
       have EB:=hid (zr_ HW.out (c:=⟨i,b⟩) hlt)
       have hc0:=cg_ hn2 (k:=0) (v := .int .i64 i) rfl
       have hc1:=cg_ hn2 (k:=1) (v := .bool b) rfl
       obtain ⟨bc,hbc⟩:∃ b,wr.heap.size = b:=⟨_,rfl⟩
       rw [hbc] at CN hzk hc0 hc1
       clear hb hn2 hb2 HR HK HBN
       go_wp2_with fail
       try simp only [hbc]
       clear hbc hc0 hc1 hcell
       refine EN.out.mono ?_
       rintro e w3 ⟨rfl,hb3⟩
       have HK3:=hid (HK2.out.trans (Keep.of_below hb3))
       have HR3:=hid (HRK.out _ _ w3 HR2.out fun b hb=>hb3.block b (by have:=(HO.out b hb).1;have:=HK2.out.size;omega))
       have BN3:=hid (q0_ BN2.out hb3)
       have CN3:=hid (q0_ CN.out hb3)
       clear hb3 HK2 HR2 BN2 CN EN
       obtain ⟨fF,hfF⟩:∃ x,eF ws ⟨i,b⟩ = x:=⟨_,rfl⟩
       obtain ⟨fT,hfT⟩:∃ x,eT ws ⟨i,b⟩ = x:=⟨_,rfl⟩
       obtain ⟨fC,hfC⟩:∃ x,eC ws ⟨i,b⟩ = x:=⟨_,rfl⟩
       obtain ⟨fR,hfR⟩:∃ x,eR ws ⟨i,b⟩ = x:=⟨_,rfl⟩
       have ST:=hid (fun s W (hc:(⟨i,b⟩:Cg) ∈ qM_ ws ws.length)=>HST.out s ⟨i,b⟩ W hc)
       simp only [hfF,hfT,hfC,hfR] at ST HJ ⊢
       have HFR:=hid hfR
       clear hfF hfT hfC hfR
       by_cases hr:0 < fR
       · have hlv:(⟨i,b⟩:Cg) ∈ qM_ ws ws.length:=qu_.2 ⟨hlt,by rw [HFR.out];exact hr⟩
         have ST2:=hid (ST.out _ w3 hlv HR3.out HK3.out.size)
         have HJ2:=hid (show qW_ ws i (j + 1) = qW_ ws i j ++ [⟨i,b⟩] by rw [HJ.out,if_pos hr])
         have hc0:=cg_ CN3.out (k:=0) (v := .int .i64 i) rfl
         have hc1:=cg_ CN3.out (k:=1) (v := .bool b) rfl
         clear ST hlv HJ HFR
         go_wp2_with fail
         refine ST2.out.mono ?_
         rintro e w4 ⟨⟨r,rfl⟩,hR4,hK4⟩
         have BN4:=hid ((hK4.block bs (ge_ BN3.out).1 (fun h=>by have:=(HO.out _ h).1;omega)).trans BN3.out)
         have HR4:=hid (show R ((qW_ ws i (j + 1)).foldl step s0) w4 by rw [HJ2.out,List.foldl_append];exact hR4)
         have HK4:=hid (HK3.out.trans hK4)
         clear hR4 hK4 hc0 hc1 ST2 HJ2 BN3 HR3 HK3 CN3
         go_wp2_with fail
         go_roundw
         case rel=>exact ⟨j + 1,by omega,by go_num,HR4.out,HK4.out,BN4.out⟩
         case measure=>simp [intOf];omega
       · have HJ2:=hid (show qW_ ws i (j + 1) = qW_ ws i j by rw [HJ.out,if_neg hr])
         have HR4:=hid (show R ((qW_ ws i (j + 1)).foldl step s0) w3 by rw [HJ2.out];exact HR3.out)
         clear ST HJ HFR HJ2 HR3 CN3
         go_wp2_with fail
         go_roundw
         case rel=>exact ⟨j + 1,by omega,by go_num,HR4.out,HK3.out,BN3.out⟩
         case measure=>simp [intOf];omega
     · obtain rfl:j = 2:=by omega
       have HR4:=hid (show R ((qM_ ws (i + 1)).foldl step s0) wr by rw [← vi_];exact HR.out)
       clear HR HBN
       go_wp2_with fail
       go_roundw
       case rel=>exact ⟨i + 1,by omega,by go_num,HR4.out,HK.out⟩
       case measure=>simp [intOf];omega
  · obtain rfl:i = ws.length:=by omega
    go_wp2_with fail
    go_end0
    exact ⟨⟨_,rfl⟩,HR.out,HK.out⟩
def mV (l:List Bool):Array Value:=(l.map Value.bool).toArray
def cgL (c:Cg):List Value:=[.int .i64 c.way, .bool c.more]
def byV (l:List Cg):Array Value:=(l.flatMap cgL).toArray
theorem mV_set (l:List Bool) (b:Nat) (x:Bool):(mV l).setIfInBounds b (.bool x) = mV (l.set b x):=by
 simp [mV,List.map_set]
theorem yi_ {l:List Bool} {b:Nat} (h:b < l.length):(mV l)[b]? = some (.bool (l.getD b false)):=by
 simp [mV,List.getD_eq_getElem?_getD,List.getElem?_eq_getElem h]
theorem byL_set:∀ (l:List Cg) (b:Nat) (c:Cg),((l.flatMap cgL).set (b * 2) (.int .i64 c.way)).set (b * 2 + 1) (.bool c.more) = (l.set b c).flatMap cgL
 | [],b,c=>by simp
 | x :: l,0,c=>by simp [cgL]
 | x :: l,b + 1,c=>by
   have ih:=byL_set l b c
   rw [List.set_cons_succ,List.flatMap_cons,List.flatMap_cons,← ih,show (b + 1) * 2 = b * 2 + 2 by omega,show b * 2 + 2 + 1 = (b * 2 + 1) + 2 by omega]
   simp [cgL]
theorem byV_set (l:List Cg) (b:Nat) (c:Cg):((byV l).setIfInBounds (b * 2) (.int .i64 c.way)).setIfInBounds (b * 2 + 1) (.bool c.more) = byV (l.set b c):=by
 simp only [byV,List.setIfInBounds_toArray,byL_set]
theorem xe_:∀ {l:List Cg} {b:Nat} (h:b < l.length),(l.flatMap cgL)[b * 2]? = some (.int .i64 (l.getD b Cg.z).way)∧(l.flatMap cgL)[b * 2 + 1]? = some (.bool (l.getD b Cg.z).more)
 | x :: l,0,_=>by simp [cgL]
 | x :: l,b + 1,h=>by
   have ih:=xe_ (l:=l) (b:=b) (by simpa using h)
   rw [List.flatMap_cons,show (b + 1) * 2 = b * 2 + 2 by omega,show b * 2 + 2 + 1 = (b * 2 + 1) + 2 by omega]
   simpa [cgL] using ih
theorem zE_ {l:List Cg} {b:Nat} (h:b < l.length):(byV l)[b * 2]? = some (.int .i64 (l.getD b Cg.z).way)∧(byV l)[b * 2 + 1]? = some (.bool (l.getD b Cg.z).more):=by
 simpa [byV] using xe_ h
structure PR (bm bb:Nat) (s:PS) (W:World):Prop where
 m:W.heap[bm]? = some (.cells (mV s.met) 231 (0,0))
 b:W.heap[bb]? = some (.cells (byV s.by_) 276 (0,0))
 lm:s.met.length = 12
 lb:s.by_.length = 12
theorem enters159:LF.z5_ 159:=by intro args W;simp [go_sem]
def pSt (s:PS) (a b:Nat) (c:Cg):PS:=if s.met.getD a false && !s.met.getD b false then ⟨s.met.set b true,s.by_.set b c⟩ else s
theorem q4_ {W:World} {b k:Nat} {v:Value} {cs:Array Value} {t:TypeId} (h:W.heap[b]? = some (.cells cs t (0,0))):(W.setCell ⟨b,k,none⟩ v).heap[b]? = some (.cells (cs.setIfInBounds k v) t (0,0)):=by
 simp [World.setCell,Array.getElem?_modify,h]
theorem path1_any (bm bb a b:Nat) (co ro:Int) (c:Cg) (s:PS) (w:World) (hR:PR bm bb s w) (hne:bm ≠ bb) (ha:a < 12) (hb:b < 12) :
 Calls Tryz.prog 159 #[.agg #[.int .i64 c.way, .bool c.more], .int .i64 a, .int .i64 b, .int .i64 co, .int .i64 ro, .pointer (some ⟨bm,0,none⟩), .pointer (some ⟨bb,0,none⟩)] w fun e w'=>(∃ r,e = .returned r)∧PR bm bb (pSt s a b c) w'∧Keep (fun k=>k = bm ∨ k = bb) w w':=by
 obtain ⟨w1,hw1⟩:∃ w1,w.alloc (.cells #[.int .i64 c.way, .bool c.more] 237) = w1:=⟨_,rfl⟩
 have hb1:Below w.heap.size w w1:=by rw [← hw1];exact (Below.refl _ _).alloc (nl_ _) _
 have hn1:w1.heap[w.heap.size]? = some (.cells #[.int .i64 c.way, .bool c.more] 237 (0,0)):=by rw [← hw1];exact ha_ _ _
 have hm1:=q0_ hR.m hb1
 have hbb1:=q0_ hR.b hb1
 have lm:=hR.lm
 have lb:=hR.lb
 have ma:=cg_ hm1 (yi_ (b:=a) (by omega))
 have mb:=cg_ hm1 (yi_ (b:=b) (by omega))
 have hml:=(ge_ hR.m).1
 have hbl:=(ge_ hR.b).1
 have haI:(a:Int) < 12:=by omega
 have hbI:(b:Int) < 12:=by omega
 have ha0:(0:Int) ≤ (a:Int):=by omega
 have hb0:(0:Int) ≤ (b:Int):=by omega
 obtain ⟨va,hva⟩:∃ v,s.met.getD a false = v:=⟨_,rfl⟩
 obtain ⟨vb,hvb⟩:∃ v,s.met.getD b false = v:=⟨_,rfl⟩
 rw [hva] at ma
 rw [hvb] at mb
 have HK1:=hid (Keep.of_below (O:=fun k=>k = bm ∨ k = bb) hb1)
 have HR1:=hid (show PR bm bb s w1 from ⟨hm1,hbb1,lm,lb⟩)
 have HS:=hid (show pSt s a b c = if va && !vb then ⟨s.met.set b true,s.by_.set b c⟩ else s by rw [pSt,hva,hvb])
 cases va with
 | false=>
   have HS2:=hid (show pSt s a b c = s from HS.out)
   clear hva hvb HS hR hm1 hbb1 hn1 hb1
   go_enter Tryz.func159,Tryz.ntmps159
   go_wp2_with fail
   go_end0
   rw [HS2.out]
   exact ⟨⟨_,rfl⟩,HR1.out,HK1.out⟩
 | true=>
   cases vb with
   | true=>
     have HS2:=hid (show pSt s a b c = s from HS.out)
     clear hva hvb HS hR hm1 hbb1 hn1 hb1
     go_enter Tryz.func159,Tryz.ntmps159
     go_wp2_with fail
     go_end0
     rw [HS2.out]
     exact ⟨⟨_,rfl⟩,HR1.out,HK1.out⟩
   | false=>
     have HS2:=hid (show pSt s a b c = ⟨s.met.set b true,s.by_.set b c⟩ from HS.out)
     have CN:=hid hn1
     have hlt1:=(ge_ hn1).1
     obtain ⟨bx,hbx⟩:∃ x,w.heap.size = x:=⟨_,rfl⟩
     have hc0:=cg_ hn1 (k:=0) (v := .int .i64 c.way) rfl
     have hc1:=cg_ hn1 (k:=1) (v := .bool c.more) rfl
     rw [hbx] at CN hlt1 hc0 hc1 hml hbl
     clear hva hvb HS hR hm1 hbb1 hn1 hb1
     go_enter Tryz.func159,Tryz.ntmps159
     go_wp2_with fail
     try rw [hw1]
     try simp only [hbx]
     clear hw1 hbx ma mb
     have hbd:Below w1.heap.size w1 w1.drew:=(Below.refl _ w1).drew
     obtain ⟨x0,hx0⟩:∃ x0,w1.drew = x0:=⟨_,rfl⟩
     rw [hx0] at hbd
     have CN0:=hid (q0_ CN.out hbd)
     have M0:=hid (q0_ HR1.out.m hbd)
     have B0:=hid (q0_ HR1.out.b hbd)
     have K0:=hid (HK1.out.trans (Keep.of_below hbd))
     have SC:=hid (fun (V:World) (h:V.heap[bx]? = some (.cells #[.int .i64 c.way, .bool c.more] 237 (0,0)))=>show V.cell? ⟨bx,0,none⟩ = some (.int .i64 c.way)∧V.cell? ⟨bx,1,none⟩ = some (.bool c.more) from ⟨cg_ h (k:=0) rfl,cg_ h (k:=1) rfl⟩)
     have hS0:=SC.out x0 CN0.out
     refine (wpIn_wide (n:=9)).1 ?_
     refine q8_ (fun V:World=>V.cell? ⟨bx,0,none⟩ = some (.int .i64 c.way)∧V.cell? ⟨bx,1,none⟩ = some (.bool c.more)) (by kernel_rfl) ?_
     rw [hx0]
     clear hx0 hbd hc0 hc1
     refine tkZ 0 21 (.int .i64 b) rfl rfl hS0 ?_
     refine tkZ 1 22 (.int .i64 b) rfl rfl hS0 ?_
     refine tkZ 2 23 (.agg #[.int .i64 c.way, .bool c.more]) rfl rfl hS0 ?_
     refine tkZ 3 24 (.pointer (some ⟨bm,b,none⟩)) rfl rfl hS0 ?_
     refine aHO 4 rfl fun K hK=>?_
     have z0:=cg_ M0.out (yi_ (b:=b) (by omega))
     have z1:=cells_frz M0.out (k:=b)
     have C1:=hid (show (x0.setCell ⟨bm,b,none⟩ (.bool true)).heap[bx]? = _ from (Below.heap_setCell _ _ _ _ (by simp;omega)).trans CN0.out)
     have M1:=hid (show (x0.setCell ⟨bm,b,none⟩ (.bool true)).heap[bm]? = some (.cells (mV (s.met.set b true)) 231 (0,0)) by rw [q4_ M0.out,mV_set])
     have B1:=hid (show (x0.setCell ⟨bm,b,none⟩ (.bool true)).heap[bb]? = _ from (Below.heap_setCell _ _ _ _ (by simp;omega)).trans B0.out)
     have K1:=hid (K0.out.trans (Keep.setCell (A:=x0) (p:=⟨bm,b,none⟩) (v := .bool true) (.inl rfl)))
     go_simp
     have hS1:=SC.out _ C1.out
     refine hK _ _ ⟨hS1,?_⟩
     obtain ⟨x1,hx1⟩:∃ x1,x0.setCell ⟨bm,b,none⟩ (.bool true) = x1:=⟨_,rfl⟩
     rw [hx1] at C1 M1 B1 K1 hS1 ⊢
     clear hK z0 z1 hx1 hS0 M0 B0 K0 CN0
     refine tkZ 5 25 (.pointer (some ⟨bb,b * 2,none⟩)) rfl rfl hS1 ?_
     refine aHO 6 rfl fun K hK=>?_
     have z0:=cg_ B1.out (zE_ (b:=b) (by omega)).1
     have z1:=cells_frz B1.out (k:=b * 2)
     have z2:=cg_ B1.out (zE_ (b:=b) (by omega)).2
     have z3:=cells_frz B1.out (k:=b * 2 + 1)
     have C2:=hid (show ((x1.setCell ⟨bb,b * 2,none⟩ (.int .i64 c.way)).setCell ⟨bb,b * 2 + 1,none⟩ (.bool c.more)).heap[bx]? = _ from (Below.heap_setCell _ _ _ _ (by simp;omega)).trans ((Below.heap_setCell _ _ _ _ (by simp;omega)).trans C1.out))
     have M2:=hid (show ((x1.setCell ⟨bb,b * 2,none⟩ (.int .i64 c.way)).setCell ⟨bb,b * 2 + 1,none⟩ (.bool c.more)).heap[bm]? = _ from (Below.heap_setCell _ _ _ _ (by simp;omega)).trans ((Below.heap_setCell _ _ _ _ (by simp;omega)).trans M1.out))
     have B2:=hid (show ((x1.setCell ⟨bb,b * 2,none⟩ (.int .i64 c.way)).setCell ⟨bb,b * 2 + 1,none⟩ (.bool c.more)).heap[bb]? = some (.cells (byV (s.by_.set b c)) 276 (0,0)) by rw [q4_ (q4_ B1.out),byV_set])
     have K2:=hid ((K1.out.trans (Keep.setCell (A:=x1) (p:=⟨bb,b * 2,none⟩) (v := .int .i64 c.way) (.inr rfl))).trans (Keep.setCell (p:=⟨bb,b * 2 + 1,none⟩) (v := .bool c.more) (.inr rfl)))
     go_simp
     have hS2:=SC.out _ C2.out
     refine hK _ _ ⟨hS2,?_⟩
     clear hK z0 z1 z2 z3 hS1
     refine q7_ (by kernel_rfl) ?_
     go_simp
     go_wp2_with fail
     go_end0
     rw [HS2.out]
     exact ⟨⟨_,rfl⟩,⟨M2.out,B2.out,by simpa using lm,by simpa using lb⟩,K2.out⟩
theorem y4_ (ws:List Way) (k:Nat):∀ d,qM_ ws k <+: qM_ ws (k + d)
 | 0=>List.prefix_refl _
 | d + 1=>(y4_ ws k d).trans (by rw [show k + (d + 1) = (k + d) + 1 by omega,qM_,qM_,chs,List.filter_append];exact List.prefix_append _ _)
theorem liveJ_pre (ws:List Way) (k:Nat) (hk:k < ws.length) {j:Nat} (hj:j ≤ 2):qW_ ws k j <+: qM_ ws ws.length:=by
 have h1:=y4_ ws (k + 1) (ws.length - (k + 1))
 rw [show k + 1 + (ws.length - (k + 1)) = ws.length by omega,← vi_] at h1
 refine List.IsPrefix.trans ?_ h1
 rw [qW_,qW_,List.prefix_append_right_inj]
 exact List.IsPrefix.filter _ (List.take_prefix_take_left hj)
theorem jx_ (gf:Nat) (hE:LF.z5_ gf) (lb:Array Value) (B N:Nat) (v:Value) (ws:List Way) (R:List Cg→World→Prop) (O:Nat→Prop) (w:World) (hN:NetS B N v ws w) (hW:WB ws) (hlen:ws.length ≤ 100)
 (hO:∀ b,O b→b < w.heap.size∧b ≠ N∧v.ownBlock ≠ some b) (hR0:R [] w) (hRk:∀ s W W',R s W→(∀ b,O b→W'.heap[b]? = W.heap[b]?)→R s W')
 (hstep:∀ s c W,s ++ [c] <+: qM_ ws ws.length→R s W→w.heap.size ≤ W.heap.size→Calls Tryz.prog gf (#[.agg #[.int .i64 c.way, .bool c.more], .int .i64 (eF ws c), .int .i64 (eT ws c), .int .i64 (eC ws c), .int .i64 (eR ws c)] ++ lb) W fun e W'=>(∃ r,e = .returned r)∧R (s ++ [c]) W'∧Keep O W W') :
 Calls Tryz.prog 158 #[.pointer (some ⟨N,0,none⟩), .func (.func gf) #[] lb] w fun e w'=>(∃ r,e = .returned r)∧R (qM_ ws ws.length) w'∧Keep O w w':=by
 have hE':∀ (args:Array Value) (W:World),Sem.run Tryz.prog (callFunc gf args) W = .ok (.enter gf args) W:=hE
 have HN:=hid hN
 have HW:=hid hW
 have HO:=hid hO
 have HR0:=hid hR0
 have HRK:=hid hRk
 have HST:=hid hstep
 have hsh:=owns_shape hN.own
 obtain ⟨ga,gc,rfl,_,_⟩:=hsh
 have NK:=hid (fun (W:World) (hk:Keep O w W)=>HN.out.kept (hk.block N (ge_ HN.out.n).1 (fun h=>(HO.out _ h).2.1 rfl)) fun g hg=>hk.block g (HN.out.own.lt g hg).2 fun h=>(HO.out g h).2.2 hg)
 have n0:=cg_ HN.out.n (k:=0) (v := .slice ga ws.length gc) rfl
 clear hE hN hW hO hR0 hRk hstep
 go_enter Tryz.func158,Tryz.ntmps158
 go_wp2_with fail
 go_loopw [17] (fun vi wr=>∃ i:Nat,i ≤ ws.length∧vi = .int .i64 i∧Hid (R (qM_ ws i) wr)∧Hid (Keep O w wr)) (fun vi _=>ws.length - (intOf vi).toNat)
 case atStart=>exact ⟨0,by omega,rfl,HR0.out,Keep.refl _ _⟩
 case round=>
  obtain ⟨i,hi,rfl,HR,HK⟩:=hrel
  by_cases hlt:i < ws.length
  · have hlt':(i:Int) < (ws.length:Int):=by omega
    clear n0
    obtain ⟨w1,hw1⟩:∃ w1,wr.alloc (.cells #[.bool true, .bool false] 4) = w1:=⟨_,rfl⟩
    have hb1:Below wr.heap.size wr w1:=by rw [← hw1];exact (Below.refl _ _).alloc (nl_ _) _
    have hn1:w1.heap[wr.heap.size]? = some (.cells #[.bool true, .bool false] 4 (0,0)):=by rw [← hw1];exact ha_ _ _
    have BN:=hid hn1
    have HK1:=hid (HK.out.trans (Keep.of_below hb1))
    have HR1:=hid (HRK.out _ _ w1 HR.out fun b hb=>hb1.block b (by have:=(HO.out b hb).1;have:=HK.out.size;omega))
    have hzz:=HK.out.size
    obtain ⟨bs,hbs⟩:∃ b,wr.heap.size = b:=⟨_,rfl⟩
    rw [hbs] at BN hzz
    clear hn1 hb1 HR HK
    go_wp2_with fail
    try rw [hw1]
    try simp only [hbs]
    clear hw1 hbs
    go_loopw [22] (fun vk wk=>∃ j:Nat,j ≤ 2∧vk = .int .i64 j∧Hid (R (qW_ ws i j) wk)∧Hid (Keep O w wk)∧Hid (wk.heap[bs]? = some (.cells #[.bool true, .bool false] 4 (0,0)))) (fun vk _=>2 - (intOf vk).toNat)
    case atStart=>exact ⟨0,by omega,rfl,by rw [x9_];exact HR1.out,HK1.out,BN.out⟩
    case round=>
     obtain ⟨j,hj,rfl,HR,HK,HBN⟩:=hrel
     by_cases hj2:j < 2
     · obtain ⟨b,hb⟩:∃ b:Bool,(j = 0∧b = true) ∨ (j = 1∧b = false):=by
        rcases (show j = 0 ∨ j = 1 by omega) with h | h
        · exact ⟨true, .inl ⟨h,rfl⟩⟩
        · exact ⟨false, .inr ⟨h,rfl⟩⟩
       have hcell:wr.cell? ⟨bs,j,none⟩ = some (.bool b):=by
        rcases hb with ⟨rfl,rfl⟩ | ⟨rfl,rfl⟩
        · exact cg_ HBN.out (k:=0) rfl
        · exact cg_ HBN.out (k:=1) rfl
       have hjI:(j:Int) < 2:=by omega
       have hj0:(0:Int) ≤ (j:Int):=by omega
       have HJ:=hid (x2_ ws i j b hb)
       have HBJ:=hid hb
       obtain ⟨w2,hw2⟩:∃ w2,wr.alloc (.cells #[.int .i64 i, .bool b] 237) = w2:=⟨_,rfl⟩
       have hb2:Below wr.heap.size wr w2:=by rw [← hw2];exact (Below.refl _ _).alloc (nl_ _) _
       have hn2:w2.heap[wr.heap.size]? = some (.cells #[.int .i64 i, .bool b] 237 (0,0)):=by rw [← hw2];exact ha_ _ _
       have HK2:=hid (HK.out.trans (Keep.of_below hb2))
       have HR2:=hid (HRK.out _ _ w2 HR.out fun b hb=>hb2.block b (by have:=(HO.out b hb).1;have:=HK.out.size;omega))
       have BN2:=hid (q0_ HBN.out hb2)
       have hzk:=HK.out.size
       have CN:=hid hn2
       have EN:=hid (zW_ B N ⟨i,b⟩ _ ws w2 (NK.out w2 HK2.out) hlt HW.out)
       have EB:=hid (zr_ HW.out (c:=⟨i,b⟩) hlt)
       have hc0:=cg_ hn2 (k:=0) (v := .int .i64 i) rfl
       have hc1:=cg_ hn2 (k:=1) (v := .bool b) rfl
       obtain ⟨bc,hbc⟩:∃ b,wr.heap.size = b:=⟨_,rfl⟩
       rw [hbc] at CN hzk hc0 hc1
       clear hb hn2 hb2 HR HK HBN
       go_wp2_with fail
       try simp only [hbc]
       clear hbc hc0 hc1 hcell
       refine EN.out.mono ?_
       rintro e w3 ⟨rfl,hb3⟩
       have HK3:=hid (HK2.out.trans (Keep.of_below hb3))
       have HR3:=hid (HRK.out _ _ w3 HR2.out fun b hb=>hb3.block b (by have:=(HO.out b hb).1;have:=HK2.out.size;omega))
       have BN3:=hid (q0_ BN2.out hb3)
       have CN3:=hid (q0_ CN.out hb3)
       clear hb3 HK2 HR2 BN2 CN EN
       obtain ⟨fF,hfF⟩:∃ x,eF ws ⟨i,b⟩ = x:=⟨_,rfl⟩
       obtain ⟨fT,hfT⟩:∃ x,eT ws ⟨i,b⟩ = x:=⟨_,rfl⟩
       obtain ⟨fC,hfC⟩:∃ x,eC ws ⟨i,b⟩ = x:=⟨_,rfl⟩
       obtain ⟨fR,hfR⟩:∃ x,eR ws ⟨i,b⟩ = x:=⟨_,rfl⟩
       have ST:=hid (fun s W (hc:s ++ [(⟨i,b⟩:Cg)] <+: qM_ ws ws.length)=>HST.out s ⟨i,b⟩ W hc)
       simp only [hfF,hfT,hfC,hfR] at ST HJ ⊢
       have HFR:=hid hfR
       clear hfF hfT hfC hfR
       by_cases hr:0 < fR
       · have HJ2:=hid (show qW_ ws i (j + 1) = qW_ ws i j ++ [⟨i,b⟩] by rw [HJ.out,if_pos hr])
         have hlv:qW_ ws i j ++ [(⟨i,b⟩:Cg)] <+: qM_ ws ws.length:=by rw [← HJ2.out];exact liveJ_pre ws i hlt (by omega)
         have ST2:=hid (ST.out _ w3 hlv HR3.out HK3.out.size)
         have hc0:=cg_ CN3.out (k:=0) (v := .int .i64 i) rfl
         have hc1:=cg_ CN3.out (k:=1) (v := .bool b) rfl
         clear ST hlv HJ HFR
         go_wp2_with fail
         refine ST2.out.mono ?_
         rintro e w4 ⟨⟨r,rfl⟩,hR4,hK4⟩
         have BN4:=hid ((hK4.block bs (ge_ BN3.out).1 (fun h=>by have:=(HO.out _ h).1;omega)).trans BN3.out)
         have HR4:=hid (show R (qW_ ws i (j + 1)) w4 by rw [HJ2.out];exact hR4)
         have HK4:=hid (HK3.out.trans hK4)
         clear hR4 hK4 hc0 hc1 ST2 HJ2 BN3 HR3 HK3 CN3
         go_wp2_with fail
         go_roundw
         case rel=>exact ⟨j + 1,by omega,by go_num,HR4.out,HK4.out,BN4.out⟩
         case measure=>simp [intOf];omega
       · have HJ2:=hid (show qW_ ws i (j + 1) = qW_ ws i j by rw [HJ.out,if_neg hr])
         have HR4:=hid (show R (qW_ ws i (j + 1)) w3 by rw [HJ2.out];exact HR3.out)
         clear ST HJ HFR HJ2 HR3 CN3
         go_wp2_with fail
         go_roundw
         case rel=>exact ⟨j + 1,by omega,by go_num,HR4.out,HK3.out,BN3.out⟩
         case measure=>simp [intOf];omega
     · obtain rfl:j = 2:=by omega
       have HR4:=hid (show R (qM_ ws (i + 1)) wr by rw [← vi_];exact HR.out)
       clear HR HBN
       go_wp2_with fail
       go_roundw
       case rel=>exact ⟨i + 1,by omega,by go_num,HR4.out,HK.out⟩
       case measure=>simp [intOf];omega
  · obtain rfl:i = ws.length:=by omega
    go_wp2_with fail
    go_end0
    exact ⟨⟨_,rfl⟩,HR.out,HK.out⟩
end Go.Proofs.LS
namespace Go.Proofs.LS
open Go.RowKit Go.Proofs.LF Go.Proofs.LB
theorem k1_:∀ (xs ys:List Bool),xs.length = ys.length→((List.range xs.length).all fun i=>xs.getD i false == ys.getD i false) = (xs == ys)
 | [],[],_=>rfl
 | x :: xs,y :: ys,h=>by
   have ih:=k1_ xs ys (by simpa using h)
   rw [List.length_cons,List.range_succ_eq_map,List.all_cons,List.all_map]
   simp only [List.getD_cons_zero,Function.comp_def,List.getD_cons_succ,ih]
   simp [List.cons_beq_cons]
 | [],_ :: _,h=>by simp at h
 | _ :: _,[],h=>by simp at h
section
variable {P:Program} (w:World)
theorem kJ_ (d:Nat) (t e:TypeId) (n:Nat) (ht:P.underlying t = some (.array n e)) (he:P.underlying e = some .bool) (hsz:∀ w,(sizeOf e).run P w = .ok 1 w)
 (xs ys:List Bool) (hx:xs.length = n) (hy:ys.length = n) :
 (Op.equalIn (d + 2) t (.agg (mV xs)) (.agg (mV ys))).run P w = .ok (xs == ys) w:=by
 rw [mV,mV,← k1_ xs ys (hx.trans hy.symm),hx,List.range_eq_range',Op.equalIn]
 simp only [Sem.run_bind,run_underlying ht,Result.andThen_ok,hsz,Std.Legacy.Range.forIn_eq_forIn_range',Std.Legacy.Range.size,Nat.sub_zero,Nat.add_sub_cancel,Nat.div_one]
 have hl:∀ i ∈ List.range' 0 n 1,i < n:=fun i hi=>by simpa using (List.mem_range'_1.1 hi).2
 generalize List.range' 0 n 1 = l at hl ⊢
 induction l with
 | nil=>simp
 | cons i l ih=>
   have hi:i < n:=hl i (by simp)
   have px:(part e (xs.map Value.bool).toArray (i * 1)).run P w = .ok (.bool (xs.getD i false)) w:=by
    simp [part,isAgg,run_underlying he,List.getD,List.getElem?_eq_getElem (show i < xs.length by omega)]
   have py:(part e (ys.map Value.bool).toArray (i * 1)).run P w = .ok (.bool (ys.getD i false)) w:=by
    simp [part,isAgg,run_underlying he,List.getD,List.getElem?_eq_getElem (show i < ys.length by omega)]
   have pe:(Op.equalIn (d + 1) e (.bool (xs.getD i false)) (.bool (ys.getD i false))).run P w = .ok (xs.getD i false == ys.getD i false) w:=by
    first
     | exact run_equalIn_bool w d e _ _ he
     | (unfold Op.equalIn;simp [run_underlying he])
   simp only [List.forIn_cons,Sem.run_bind,px,py,pe,Result.andThen_ok,List.all_cons]
   cases hb:(xs.getD i false == ys.getD i false)
   · simp
   · simp only [Bool.not_true,Bool.false_eq_true,if_false,Sem.run_pure,Result.andThen_ok,Bool.true_and]
     exact ih fun j hj=>hl j (by simp [hj])
end
theorem size4 (w:World):(sizeOf 4).run Tryz.prog w = .ok 1 w:=by kernel_rfl
end Go.Proofs.LS
namespace Go.Proofs.LS
open Go.RowKit Go.Sort Go.Proofs.LF Go.Proofs.LB
set_option maxHeartbeats 4000000
set_option maxRecDepth 100000
attribute [local go_sem] q1_ q2_ q6_
theorem kK_ {P:Program} {o:Oper} {a:Act} {w w':World} {x y:Operand} {v1 v2:Value} (t:TypeId) (ho:o.op = .store t x y) (hx:a.eval x = v1) (hy:a.eval y = v2) (hr:(Instr.storeAt t v1 v2).run P w = .ok () w'):(execOp a.eval o).run P w = .ok .skip w':=by
 unfold execOp
 simp [ho,hx,hy,hr,Result.andThen]
theorem kA_ {b n:Nat} {a:World} (hb:n ≤ b):∀ (vs:List Value) (o:Nat) {w:World},Below n a w→Below n a (w.setCells b o vs)
 | [],_,_,h=>h
 | u :: vs,o,_,h=>kA_ hb vs (o + 1) (h.setCell (p:=⟨b,o,none⟩) hb u)
theorem zZ_ {b k:Nat} (hk:k ≠ b):∀ (vs:List Value) (o:Nat) (w:World),(w.setCells b o vs).heap[k]? = w.heap[k]?
 | [],_,_=>rfl
 | u :: vs,o,w=>(zZ_ hk vs (o + 1) (w.setCell ⟨b,o,none⟩ u)).trans (Below.heap_setCell _ _ _ _ hk)
theorem xb_ {fn:Func} {p u:Tmp} {ty:TypeId} (h:fn.results = #[.tmp u, .cell p ty]) (tmps:Array Value) (P:Program) (w:World):(results fn tmps).run P w = ((asAddr (tmps.getD p undef)).run P w).andThen fun a w₁=>((loadVar ty a).run P w₁).andThen fun v w₂ => .ok (.tuple #[tmps.getD u undef,v]) w₂:=by
 simp only [results,h]
 simp [Sem.run_bind,Result.andThen]
theorem jU_ {tmps:Array Value} {W:World} {q:Nat} {vl:Value} {met:List Bool} (hl:met.length = 12) (h:W.rangeAt q 0 (met.map Value.bool)) (h6:tmps.getD 6 undef = vl) (h7:tmps.getD 7 undef = .pointer (some ⟨q,0,none⟩)) :
 (results Tryz.f114 tmps).run Tryz.prog W = .ok (.tuple #[vl, .agg (mV met)]) W:=by
 have hld:=run_loadVar_mid (P:=Tryz.prog) W q 0 231 (met.map Value.bool) _ h Tryz.underlying231 rfl (by rw [List.length_map,hl];kernel_rfl)
 have ha:(asAddr (.pointer (some ⟨q,0,none⟩))).run Tryz.prog W = .ok ⟨q,0,none⟩ W:=rfl
 rw [xb_ rfl,h6,h7,ha,Result.andThen_ok,hld,Result.andThen_ok]
 rfl
theorem Tryz.info237:(Tryz.prog.info? 237).map (fun i=>(i.zero,i.size,i.bytes)) = some (some (.agg #[.int .i64 0, .bool false]),2,16):=by kernel_rfl
def lenOf:Value→Nat
 | .slice _ n _=>n
 | _=>0
theorem v7_ {W:World} {b:Nat} {cs:Array Value} {t:TypeId} {n:Nat} (h:W.heap[b]? = some (.cells cs t (0,0))) (hn:n ≤ cs.size):W.there b 0 n:=fun j hj=>by
 have hc:=cg_ h (k:=j) (v:=cs[j]'(by omega)) (by simp)
 rw [Nat.zero_add]
 exact ⟨by simp [hc],cells_frz h⟩
theorem path_any (B N a b:Nat) (v:Value) (ws:List Way) (l:List Cg) (met:List Bool) (w:World) (hN:NetS B N v ws w) (hW:WB ws) (hlen:ws.length ≤ 100) (hF:Flow ws) (ha:a < 12) (hb:b < 12) (hab:a ≠ b) (hp:path ws a b = some (l,met)) :
 Calls Tryz.prog 114 #[.pointer (some ⟨N,0,none⟩), .int .i64 a, .int .i64 b] w fun e w'=>∃ vl,e = .returned (.tuple #[vl, .agg (mV met)])∧w'.ownsRow w.heap.size 237 2 vl l.length (l.flatMap cgL)∧(vl = .slice none 0 0 ↔ l = [])∧met.length = 12∧Below w.heap.size w w':=by
 refine (callsIn_wide (n:=9)).1 ?_
 refine callsIn_of_wp Tryz.func114 rfl trivial ?_ rfl
 simp only [Tryz.ntmps114,List.size_toArray,List.length_cons,List.length_nil,Nat.reduceAdd,Nat.reduceSub,Array.replicate_succ,Array.replicate_zero,List.push_toArray,List.append_toArray,List.nil_append,List.cons_append]
 have NK:=hid hN
 have HW:=hid hW
 have hNl:=(ge_ hN.n).1
 obtain ⟨w3,hw3⟩:∃ w3,((w.alloc (.cells #[.bool false, .bool false, .bool false, .bool false, .bool false, .bool false, .bool false, .bool false, .bool false, .bool false, .bool false, .bool false] 231)).alloc (.cells (([.bool false, .bool false, .bool false, .bool false, .bool false, .bool false, .bool false, .bool false, .bool false, .bool false, .bool false, .bool false]:List Value).set a (.bool true)).toArray 231)).alloc (.cells #[.int .i64 0, .bool false, .int .i64 0, .bool false, .int .i64 0, .bool false, .int .i64 0, .bool false, .int .i64 0, .bool false, .int .i64 0, .bool false, .int .i64 0, .bool false, .int .i64 0, .bool false, .int .i64 0, .bool false, .int .i64 0, .bool false, .int .i64 0, .bool false, .int .i64 0, .bool false] 276) = w3:=⟨_,rfl⟩
 have hz3:w3.heap.size = w.heap.size + 3:=by rw [← hw3];simp
 have hb3:Below w.heap.size w w3:=by rw [← hw3];exact (((Below.refl _ _).alloc (nl_ _) _).alloc (by simp) _).alloc (by simp;omega) _
 have r1:w3.heap[w.heap.size]? = some (.cells (mV (List.replicate 12 false)) 231 (0,0)):=by rw [← hw3];exact qc_ _ (qc_ _ (ha_ _ _))
 have hset:(([.bool false, .bool false, .bool false, .bool false, .bool false, .bool false, .bool false, .bool false, .bool false, .bool false, .bool false, .bool false]:List Value).set a (.bool true)).toArray = mV (p0 a).met:=by
  rw [p0,← mV_set];simp [mV]
 have r2:w3.heap[w.heap.size + 1]? = some (.cells (mV (p0 a).met) 231 (0,0)):=by rw [← hw3,← hset];have:=qc_ (.cells #[.int .i64 0, .bool false, .int .i64 0, .bool false, .int .i64 0, .bool false, .int .i64 0, .bool false, .int .i64 0, .bool false, .int .i64 0, .bool false, .int .i64 0, .bool false, .int .i64 0, .bool false, .int .i64 0, .bool false, .int .i64 0, .bool false, .int .i64 0, .bool false, .int .i64 0, .bool false] 276) (ha_ (w.alloc (.cells #[.bool false, .bool false, .bool false, .bool false, .bool false, .bool false, .bool false, .bool false, .bool false, .bool false, .bool false, .bool false] 231)) (.cells (([.bool false, .bool false, .bool false, .bool false, .bool false, .bool false, .bool false, .bool false, .bool false, .bool false, .bool false, .bool false]:List Value).set a (.bool true)).toArray 231));simpa using this
 have r3:w3.heap[w.heap.size + 2]? = some (.cells (byV (p0 a).by_) 276 (0,0)):=by
  rw [← hw3];have:=ha_ ((w.alloc (.cells #[.bool false, .bool false, .bool false, .bool false, .bool false, .bool false, .bool false, .bool false, .bool false, .bool false, .bool false, .bool false] 231)).alloc (.cells (([.bool false, .bool false, .bool false, .bool false, .bool false, .bool false, .bool false, .bool false, .bool false, .bool false, .bool false, .bool false]:List Value).set a (.bool true)).toArray 231)) (.cells #[.int .i64 0, .bool false, .int .i64 0, .bool false, .int .i64 0, .bool false, .int .i64 0, .bool false, .int .i64 0, .bool false, .int .i64 0, .bool false, .int .i64 0, .bool false, .int .i64 0, .bool false, .int .i64 0, .bool false, .int .i64 0, .bool false, .int .i64 0, .bool false, .int .i64 0, .bool false] 276)
  rw [show byV (p0 a).by_ = #[.int .i64 0, .bool false, .int .i64 0, .bool false, .int .i64 0, .bool false, .int .i64 0, .bool false, .int .i64 0, .bool false, .int .i64 0, .bool false, .int .i64 0, .bool false, .int .i64 0, .bool false, .int .i64 0, .bool false, .int .i64 0, .bool false, .int .i64 0, .bool false, .int .i64 0, .bool false] from rfl]
  simpa using this
 obtain ⟨q,hq⟩:∃ q,w.heap.size = q:=⟨_,rfl⟩
 rw [hq] at r1 r2 r3 hz3 hNl
 have HQ:=hid hq
 have P3:=hid (show PR (q + 1) (q + 2) (p0 a) w3 from ⟨r2,r3,by simp [p0],by simp [p0]⟩)
 have R3:=hid r1
 have B3:=hid (show Below q w w3 by rw [← hq];exact hb3)
 have HZ3:=hid hz3
 obtain ⟨sf,hsf⟩:∃ sf,pLoop ws 13 (p0 a) = some sf:=by
  rw [path] at hp
  cases hpl:pLoop ws 13 (p0 a) with
  | none=>rw [hpl] at hp;cases hp
  | some s=>exact ⟨s,rfl⟩
 have PATH:=hid hp
 rw [path,hsf] at hp
 have HP:=hid hp
 have HSF:=hid hsf
 have OWV:=hid (fun g (h:v.ownBlock = some g)=>show B ≤ g∧g < q by rw [← hq];exact hN.own.lt g h)
 have NLT:=hid hN.lt
 clear hN hW hp hsf hb3 r1 r2 r3 hset hq hz3
 gi_wp2_with fail
 try rw [hw3]
 simp only [HQ.out]
 clear hw3
 refine ko_ (fun r A wr=>∃ s:PS,(pLoop ws r s = some sf∧PR (q + 1) (q + 2) s wr∧wr.heap[q]? = some (.cells (mV (List.replicate 12 false)) 231 (0,0))∧Below q w wr∧q + 3 ≤ wr.heap.size)∧A = { tmps:=#[.pointer (some ⟨N,0,none⟩), .int .i64 a, .int .i64 b,undef,undef,undef, .slice none 0 0, .pointer (some ⟨q,0,none⟩), .pointer (some ⟨(q + 1),0,none⟩), .pointer (some ⟨(q + 1 + 1),0,none⟩),A.tmps.getD 10 undef,undef,undef, .int .i64 a, .pointer (some ⟨(q + 1),a,none⟩),A.tmps.getD 15 undef,A.tmps.getD 16 undef,A.tmps.getD 17 undef,A.tmps.getD 18 undef,A.tmps.getD 19 undef,A.tmps.getD 20 undef,A.tmps.getD 21 undef,A.tmps.getD 22 undef,A.tmps.getD 23 undef,A.tmps.getD 24 undef,A.tmps.getD 25 undef,A.tmps.getD 26 undef,A.tmps.getD 27 undef,A.tmps.getD 28 undef,A.tmps.getD 29 undef,A.tmps.getD 30 undef,A.tmps.getD 31 undef,A.tmps.getD 32 undef,A.tmps.getD 33 undef,A.tmps.getD 34 undef,A.tmps.getD 35 undef,A.tmps.getD 36 undef,A.tmps.getD 37 undef,A.tmps.getD 38 undef,A.tmps.getD 39 undef,A.tmps.getD 40 undef,A.tmps.getD 41 undef,A.tmps.getD 42 undef,A.tmps.getD 43 undef,A.tmps.getD 44 undef,A.tmps.getD 45 undef,A.tmps.getD 46 undef,A.tmps.getD 47 undef,A.tmps.getD 48 undef],defers:=[] }) 13 ?_ ?_
 · exact ⟨p0 a,⟨HSF.out,P3.out,R3.out,B3.out,by have:=HZ3.out;omega⟩,by rfl⟩
 clear P3 R3 B3 HZ3 HSF w3
 rintro r A wr ⟨s,⟨hpl,hPR,hR7,hBe,hsz⟩,ha'⟩
 obtain ⟨p,hu⟩:∃ p:Nat→Value,∀ k,A.tmps.getD k undef = p k:=⟨_,fun _=>rfl⟩
 simp only [hu] at ha'
 clear hu
 subst ha'
 cases r with
 | zero=>simp [pLoop] at hpl
 | succ r=>
   have HPR:=hid hPR
   have HR7:=hid hR7
   have HBe:=hid hBe
   have hld:=run_loadAt_mid (P:=Tryz.prog) wr (q + 1) 0 231 (s.met.map Value.bool) _ (fun j u hj=>by
    have:=cg_ hPR.m (k:=j) (v:=u) (by simpa [mV] using hj)
    simpa using this) Tryz.underlying231 rfl (by rw [List.length_map,hPR.lm];kernel_rfl)
   have hst:=run_storeAt_new (P:=Tryz.prog) wr 231 (mV (List.replicate 12 false)) (mV s.met) (by rw [show (mV s.met).size = 12 by simp [mV,hPR.lm]];kernel_rfl) (by simp [mV,hPR.lm]) (by simp [mV,Value.oneCell'])
   clear hPR hR7 hBe
   gi_wp2_with (first | (refine LB.wpIn_val (fun _=>trivial) rfl (LB.exec_load 231 rfl rfl hld) ?_) | (refine LB.wpIn_skip (fun _=>trivial) rfl (kK_ 231 rfl rfl rfl hst) ?_))
   obtain ⟨bf,hbf⟩:∃ x,wr.heap.size = x:=⟨_,rfl⟩
   have hbfq:q + 3 ≤ bf:=by rw [← hbf];exact hsz
   obtain ⟨w4,hw4⟩:∃ w4,wr.alloc (.cells (mV s.met) 231) = w4:=⟨_,rfl⟩
   have hb4:Below wr.heap.size wr w4:=by rw [← hw4];exact (Below.refl _ _).alloc (nl_ _) _
   have hn4:w4.heap[wr.heap.size]? = some (.cells (mV s.met) 231 (0,0)):=by rw [← hw4];exact ha_ _ _
   have NS4:=hid (show NetS B N v ws w4 from (NK.out.below (HQ.out ▸ HBe.out:Below w.heap.size w wr)).below hb4)
   have PR4:=hid (show PR (q + 1) (q + 2) s w4 from ⟨q0_ HPR.out.m hb4,q0_ HPR.out.b hb4,HPR.out.lm,HPR.out.lb⟩)
   have R74:=hid (q0_ HR7.out hb4)
   have BE4:=hid (HBe.out.trans (hb4.mono (by omega)))
   have hw4l:bf < w4.heap.size:=by rw [← hbf];exact (ge_ hn4).1
   rw [hbf] at hn4
   have BF4:=hid hn4
   rw [hw4]
   simp only [hbf]
   clear hw4 hbf hb4 hn4 hld hst HPR HR7 HBe hsz
   have CH:=hid (jR_ 159 enters159 #[.pointer (some ⟨(q + 1),0,none⟩), .pointer (some ⟨(q + 1 + 1),0,none⟩)] B N v ws (PR (q + 1) (q + 1 + 1)) (vR_ ws) (fun k=>k = q + 1 ∨ k = q + 1 + 1) w4 s NS4.out HW.out hlen (fun k hk=>by
    refine ⟨by omega,by have:=NLT.out;omega,fun h=>?_⟩
    have:=OWV.out k h
    omega) PR4.out (fun s V V' h hk=>⟨(hk _ (.inl rfl)).trans h.m,(hk _ (.inr rfl)).trans h.b,h.lm,h.lb⟩) (fun s c V hc h hz=>by
    have he:=zr_ HW.out (qu_.1 hc).1
    have:=path1_any (q + 1) (q + 1 + 1) (eF ws c) (eT ws c) (eC ws c) (eR ws c) c s V h (by omega) he.1 he.2.1
    exact this))
   refine ⟨trivial,?_⟩
   refine (callsIn_wide.2 CH.out).mono ?_
   rintro e w5 ⟨⟨rv,rfl⟩,hP5,hK5⟩
   have hP5:PR (q + 1) (q + 1 + 1) (z4_ ws s) w5:=hP5
   have hz5:=hK5.size
   have R75:=hid ((hK5.block q (by omega) (by omega)).trans R74.out)
   have BF5:=hid ((hK5.block bf (by omega) (by omega)).trans BF4.out)
   have BE5:=hid (BE4.out.trans (hK5.below (by omega) (fun b hb h=>by omega)))
   have P5:=hid hP5
   have LM0:=hid PR4.out.lm
   have hsz5:q + 3 ≤ w5.heap.size:=by omega
   clear hP5 hK5 CH PR4 R74 BF4 BE4 NS4 hw4l hz5
   have hldA:=run_loadAt_mid (P:=Tryz.prog) w5 (q + 1) 0 231 ((z4_ ws s).met.map Value.bool) _ (fun j u hj=>by
    have:=cg_ P5.out.m (k:=j) (v:=u) (by simpa [mV] using hj)
    simpa using this) Tryz.underlying231 rfl (by rw [List.length_map,P5.out.lm];kernel_rfl)
   have hldB:=run_loadAt_mid (P:=Tryz.prog) w5 bf 0 231 (s.met.map Value.bool) _ (fun j u hj=>by
    have:=cg_ BF5.out (k:=j) (v:=u) (by simpa [mV] using hj)
    simpa using this) Tryz.underlying231 rfl (by rw [List.length_map,LM0.out];kernel_rfl)
   have heq:=kJ_ (P:=Tryz.prog) w5 9998 231 4 12 Tryz.underlying231 Tryz.underlying4 size4 (z4_ ws s).met s.met P5.out.lm LM0.out
   rw [mV,mV] at heq
   obtain ⟨bq,hbq⟩:∃ x,((z4_ ws s).met == s.met) = x:=⟨_,rfl⟩
   rw [hbq] at heq
   rw [pLoop] at hpl
   cases bq with
   | false=>
     have hne:¬ (z4_ ws s).met = s.met:=fun e=>by rw [e] at hbq;simp at hbq
     rw [if_neg hne] at hpl
     have HPL:=hid hpl
     clear hpl hne hbq
     gi_wp2_with (first | (refine LB.wpIn_val (fun _=>trivial) rfl (LB.exec_load 231 rfl rfl hldA) ?_) | (refine LB.wpIn_val (fun _=>trivial) rfl (LB.exec_load 231 rfl rfl hldB) ?_))
     exact ⟨r,by omega,z4_ ws s,⟨HPL.out,P5.out,R75.out,BE5.out,hsz5⟩,by rfl⟩
   | true=>
     have hye:(z4_ ws s).met = s.met:=by simpa using hbq
     rw [if_pos hye] at hpl
     have hpl:z4_ ws s = sf:=Option.some.inj hpl
     rw [hpl] at P5 hldA heq
     have PF:=hid P5.out
     clear hbq hye hpl P5
     have hmb:=cg_ PF.out.m (yi_ (b:=b) (by have:=PF.out.lm;omega))
     have hbI:(b:Int) < 12:=by omega
     have hb0:(0:Int) ≤ (b:Int):=by omega
     obtain ⟨vb,hvb⟩:∃ x,sf.met.getD b false = x:=⟨_,rfl⟩
     rw [hvb] at hmb
     have HVB:=hid hvb
     clear hvb
     have hHP:(if sf.met.getD b false then (back ws sf.by_ a 12 b).map (·,sf.met) else some ([],sf.met)) = some (l,met):=HP.out
     rw [HVB.out] at hHP
     cases vb with
     | false=>
       have hHP:some (([]:List Cg),sf.met) = some (l,met):=by simpa using hHP
       obtain ⟨rfl,rfl⟩:[] = l∧sf.met = met:=by simpa using hHP
       clear hHP HP
       gi_wp2_with (first | (refine LB.wpIn_val (fun _=>trivial) rfl (LB.exec_load 231 rfl rfl hldA) ?_) | (refine LB.wpIn_val (fun _=>trivial) rfl (LB.exec_load 231 rfl rfl hldB) ?_))
       have RG:=hid (fun (V:World) (hb:V.heap[q + 1]? = w5.heap[q + 1]?)=>show V.rangeAt (q + 1) 0 (sf.met.map Value.bool) from fun j u hj=>by
        have:=cg_ (hb.trans PF.out.m) (k:=j) (v:=u) (by simpa [mV] using hj)
        simpa using this)
       have hS0:=RG.out w5.drew rfl
       refine q8_ (fun V:World=>V.rangeAt (q + 1) 0 (sf.met.map Value.bool)) (by kernel_rfl) ?_
       refine tkY 0 26 (.agg (sf.met.map Value.bool).toArray) rfl rfl hS0 (fun w' hs=>?_) ?_
       · exact LB.exec_load 231 rfl rfl (run_loadAt_mid (P:=Tryz.prog) w' (q + 1) 0 231 _ _ hs Tryz.underlying231 rfl (by rw [List.length_map,PF.out.lm];kernel_rfl))
       refine tkY 1 6 (.slice none 0 0) rfl rfl hS0 (fun w' hs=>?_) ?_
       · go_simp
       have hst:=run_storeAt_mid (P:=Tryz.prog) w5.drew q 0 231 (mV sf.met) (v7_ (show w5.drew.heap[q]? = _ from R75.out) (by simp [mV,PF.out.lm])) (by rw [show (mV sf.met).size = 12 by simp [mV,PF.out.lm]];kernel_rfl) (by simp [mV,Value.oneCell'])
       have hran:=World.rangeAt_setCells_same w5.drew q 0 (mV sf.met).toList (v7_ (show w5.drew.heap[q]? = _ from R75.out) (by simp [mV,PF.out.lm]))
       have hbel:=kA_ (b:=q) (nl_ _) (mV sf.met).toList 0 (show Below q w w5.drew from BE5.out.drew)
       obtain ⟨w6,hw6⟩:∃ x,w5.drew.setCells q 0 (mV sf.met).toList = x:=⟨_,rfl⟩
       have hkp:w6.heap[q + 1]? = w5.heap[q + 1]?:=by rw [← hw6];exact zZ_ (by omega) _ _ _
       rw [hw6] at hst hran hbel
       have RAN:=hid (show w6.rangeAt q 0 (sf.met.map Value.bool) by simpa [mV] using hran)
       refine aHO 2 rfl fun K hK=>?_
       refine LB.wpIn_skip (fun _=>trivial) rfl (kK_ 231 rfl rfl rfl hst) ?_
       refine hK _ _ ⟨RG.out _ hkp,?_⟩
       have BE6:=hid hbel
       clear hK hst hran hbel hw6 hkp
       refine q7_ (by kernel_rfl) ?_
       go_simp
       gi_wp2_with fail
       refine bodyPost_ret (jU_ PF.out.lm RAN.out rfl rfl) rfl ?_
       exact ⟨_,rfl,World.ownsRow_nil _ _ _ _,by simp,PF.out.lm,by rw [HQ.out];exact BE6.out⟩
     | true=>
       have hHP:(back ws sf.by_ a 12 b).map (·,sf.met) = some (l,met):=by simpa using hHP
       obtain ⟨l',hbk,he⟩:=Option.map_eq_some_iff.1 hHP
       obtain ⟨rfl,rfl⟩:l' = l∧sf.met = met:=by simpa using he
       have hlv:(∀ c ∈ l',c.way < ws.length)∧l'.length ≤ 12∧l' ≠ []:=by
        have hpp:path ws a b = some (l',sf.met):=PATH.out
        rcases path_ok (b:=b) hF ha hab with ⟨m,p1,_,_,p3,_⟩ | ⟨l2,m,p1,_,p2,p3,_,p4,_⟩
        · rw [hpp] at p1
          obtain ⟨rfl,rfl⟩:l' = []∧sf.met = m:=by simpa using p1
          rw [HVB.out] at p3;cases p3
        · rw [hpp] at p1
          obtain ⟨rfl,rfl⟩:l' = l2∧sf.met = m:=by simpa using p1
          exact ⟨fun c hc=>(qu_.1 (p4 c hc).1).1,p3,p2⟩
       have HLV:=hid hlv
       have HBK:=hid hbk
       obtain ⟨i0,hi0,hy0,hy1,hy2⟩:=info_parts Tryz.info237
       have hbq5:∀ g,v.ownBlock = some g→g < q:=fun g h=>(OWV.out g h).2
       have NS5:=hid (show NetS B N v ws w5 from NK.out.below (HQ.out ▸ BE5.out:Below w.heap.size w w5))
       clear hlv hbk he hHP HP
       gi_wp2_with (first | (refine LB.wpIn_val (fun _=>trivial) rfl (LB.exec_load 231 rfl rfl hldA) ?_) | (refine LB.wpIn_val (fun _=>trivial) rfl (LB.exec_load 231 rfl rfl hldB) ?_))
       clear hldA hldB heq hmb
       gi_loopw [11,12] (fun vo va wk=>∃ (k at_:Nat) (l1 l2:List Cg),l' = l1 ++ l2∧back ws sf.by_ a k at_ = some l2∧at_ < 12∧va = .int .i64 at_∧wk.ownsRow (q + 3) 237 2 vo l1.length (l1.flatMap cgL)∧Hid (vo = .slice none 0 0 ↔ l1 = [])∧Hid (PR (q + 1) (q + 2) sf wk)∧Hid (wk.heap[q]? = some (.cells (mV (List.replicate 12 false)) 231 (0,0)))∧Hid (Below q w wk)∧k ≤ 12) (fun vo va wk=>13 - (lenOf vo))
       case atStart=>exact ⟨12,b,[],l',rfl,HBK.out,hb,rfl,World.ownsRow_nil _ _ _ _,hid (by simp),PF.out,R75.out,BE5.out,nl_ _⟩
       case round=>
        obtain ⟨k,at_,l1,l2,hl,hbk,hat,rfl,hown,hnil,HPR,HR7,HBe,hk12⟩:=hrel
        obtain ⟨sa,sc,rfl,hsc1,hsc2⟩:=owns_shape hown
        have hqw:q ≤ wr.heap.size:=by have:=HBe.out.size;have:=HQ.out;omega
        have hqr:=(ge_ HPR.out.b).1
        by_cases hea:at_ = a
        · subst hea
          have hl2:l2 = []:=by
           cases k with
           | zero=>simpa [back] using hbk.symm
           | succ k=>simpa [back] using hbk.symm
          subst hl2
          rw [List.append_nil] at hl
          subst hl
          have HPR2:=hid HPR.out
          clear hbk
          gi_wp2_with fail
          have RG:=hid (fun (V:World) (hb:V.heap[q + 1]? = wr.heap[q + 1]?)=>show V.rangeAt (q + 1) 0 (sf.met.map Value.bool) from fun j u hj=>by
           have:=cg_ (hb.trans HPR.out.m) (k:=j) (v:=u) (by simpa [mV] using hj)
           simpa using this)
          have hS0:=RG.out wr.drew rfl
          refine q8_ (fun V:World=>V.rangeAt (q + 1) 0 (sf.met.map Value.bool)) (by kernel_rfl) ?_
          refine tkY 0 47 (.slice sa l'.length sc) rfl rfl hS0 (fun w' hs=>?_) ?_
          · go_simp
          refine tkY 1 48 (.agg (sf.met.map Value.bool).toArray) rfl rfl hS0 (fun w' hs=>?_) ?_
          · exact LB.exec_load 231 rfl rfl (run_loadAt_mid (P:=Tryz.prog) w' (q + 1) 0 231 _ _ hs Tryz.underlying231 rfl (by rw [List.length_map,HPR.out.lm];kernel_rfl))
          refine tkY 2 6 (.slice sa l'.length sc) rfl rfl hS0 (fun w' hs=>?_) ?_
          · go_simp
          have hst:=run_storeAt_mid (P:=Tryz.prog) wr.drew q 0 231 (mV sf.met) (v7_ (show wr.drew.heap[q]? = _ from HR7.out) (by simp [mV,HPR.out.lm])) (by rw [show (mV sf.met).size = 12 by simp [mV,HPR.out.lm]];kernel_rfl) (by simp [mV,Value.oneCell'])
          have hran:=World.rangeAt_setCells_same wr.drew q 0 (mV sf.met).toList (v7_ (show wr.drew.heap[q]? = _ from HR7.out) (by simp [mV,HPR.out.lm]))
          have hbel:=kA_ (b:=q) (nl_ _) (mV sf.met).toList 0 (show Below q w wr.drew from HBe.out.drew)
          have hOW:=owns_agree hown (w':=wr.drew.setCells q 0 (mV sf.met).toList) fun g hg=>zZ_ (by have:=(hown.lt _ hg).1;omega) _ _ _
          obtain ⟨w6,hw6⟩:∃ x,wr.drew.setCells q 0 (mV sf.met).toList = x:=⟨_,rfl⟩
          have hkp:w6.heap[q + 1]? = wr.heap[q + 1]?:=by rw [← hw6];exact zZ_ (by omega) _ _ _
          rw [hw6] at hst hran hbel hOW
          have RAN:=hid (show w6.rangeAt q 0 (sf.met.map Value.bool) by simpa [mV] using hran)
          refine aHO 3 rfl fun K hK=>?_
          refine LB.wpIn_skip (fun _=>trivial) rfl (kK_ 231 rfl rfl rfl hst) ?_
          refine hK _ _ ⟨RG.out _ hkp,?_⟩
          have BE6:=hid hbel
          have OW6:=hid hOW
          clear hK hst hran hbel hw6 hkp hOW
          refine q7_ (by kernel_rfl) ?_
          go_simp
          gi_wp2_with fail
          refine bodyPost_ret (jU_ HPR.out.lm RAN.out rfl rfl) rfl ?_
          exact ⟨_,rfl,qp_ OW6.out (fun g hg=>by have:=(OW6.out.lt _ hg).1;have:=HQ.out;omega),hnil.out,HPR.out.lm,by rw [HQ.out];exact BE6.out⟩
        · obtain ⟨c,hc⟩:∃ c,sf.by_.getD at_ Cg.z = c:=⟨_,rfl⟩
          obtain ⟨k',l3,rfl,rfl,hbk3⟩:∃ k' l3,k = k' + 1∧l2 = c :: l3∧back ws sf.by_ a k' (eF ws c) = some l3:=by
           cases k with
           | zero=>rw [back,if_neg hea] at hbk;cases hbk
           | succ k=>
             rw [back,if_neg hea,hc] at hbk
             obtain ⟨l3,h1,h2⟩:=Option.map_eq_some_iff.1 hbk
             exact ⟨k,l3,rfl,h2.symm,h1⟩
          have hcl:c.way < ws.length:=HLV.out.1 c (by rw [hl];simp)
          have hll:l1.length + 1 ≤ 12:=by
           have:=HLV.out.2.1
           rw [hl] at this;simp at this;omega
          have HL:=hid hl
          have HBK3:=hid hbk3
          have hneI:¬ (at_:Int) = (a:Int):=by omega
          have hatI:(at_:Int) < 12:=by omega
          have hat0:(0:Int) ≤ (at_:Int):=by omega
          have hbg:=zE_ (l:=sf.by_) (b:=at_) (by have:=HPR.out.lb;omega)
          rw [hc] at hbg
          have HC:=hid hc
          have g0:=cg_ HPR.out.b hbg.1
          have g1:=cg_ HPR.out.b hbg.2
          have EF:=hid (zr_ HW.out hcl).1
          obtain ⟨w6,hw6⟩:∃ w6,wr.alloc (.cells #[.int .i64 c.way, .bool c.more] 237) = w6:=⟨_,rfl⟩
          have hb6:Below wr.heap.size wr w6:=by rw [← hw6];exact (Below.refl _ _).alloc (nl_ _) _
          have hn6:w6.heap[wr.heap.size]? = some (.cells #[.int .i64 c.way, .bool c.more] 237 (0,0)):=by rw [← hw6];exact ha_ _ _
          obtain ⟨a5,c5,w7,hr,hown5,hg5,hat5⟩:=run_append_ao (P:=Tryz.prog) (w:=w6) 230 230 (q + 3) 237 i0 _ 2 16 Tryz.underlying230 hi0 hy0 hy1 hy2 rfl (by omega) _ l1.length _ (ob_ hown hb6 (nl_ _)) (some ⟨wr.heap.size,0,none⟩) 1 1 (cgL c) rfl (fun h=>by cases h) (fun ad had=>by cases had;exact fun j u hj=>World.news_of_block (cs:=#[.int .i64 c.way, .bool c.more]) (t:=237) (fr:=(0,0)) hn6 j u (by simpa [cgL] using hj)) (by intro u hu;simp [cgL] at hu;rcases hu with rfl | rfl <;> rfl) (by unfold maxLen;omega) (by omega) (by have:=hb6.size;omega)
          have hz6:=hb6.size
          have hz7:=hg5.size
          have hrow:∀ g,g < q + 3→some g ≠ (Value.slice sa l1.length sc).ownBlock:=fun g hg e=>by have:=(hown.lt _ e.symm).1;omega
          have P7:=hid (show PR (q + 1) (q + 2) sf w7 from ⟨(hg5.block _ (by omega) (hrow _ (by omega))).trans (q0_ HPR.out.m hb6),(hg5.block _ (by omega) (hrow _ (by omega))).trans (q0_ HPR.out.b hb6),HPR.out.lm,HPR.out.lb⟩)
          have R7:=hid ((hg5.block q (by omega) (hrow _ (by omega))).trans (q0_ HR7.out hb6))
          have BE7:=hid (show Below q w w7 from (HBe.out.trans (hb6.mono hqw)).grown hg5 (by omega) (fun b hb=>by have:=(hown.lt _ hb).1;omega))
          have NS7:=hid (show NetS B N v ws w7 from NK.out.below (HQ.out ▸ BE7.out:Below w.heap.size w w7))
          have OW7:=hid hown5
          have EN:=hid (zW_ B N c v ws w7 NS7.out hcl HW.out)
          have hr':=cg_ P7.out.b hbg.1
          have hr'':=cg_ P7.out.b hbg.2
          clear hl hbk3 hc hbg hb6 hn6 hown5 hg5 hat5 hbk
          gi_wp2_with (refine zw_ (fun _=>trivial) rfl (zc_ rfl rfl rfl hr) ?_)
          refine ⟨trivial,?_⟩
          refine (callsIn_wide.2 EN.out).mono ?_
          rintro e w8 ⟨rfl,hb8⟩
          have P8:=hid (show PR (q + 1) (q + 2) sf w8 from ⟨q0_ P7.out.m hb8,q0_ P7.out.b hb8,P7.out.lm,P7.out.lb⟩)
          have R8:=hid (q0_ R7.out hb8)
          have BE8:=hid (BE7.out.trans (hb8.mono (by omega)))
          have OW8:=hid (ob_ OW7.out hb8 (nl_ _))
          clear hb8 P7 R7 BE7 OW7 NS7 EN hr' hr'' g0 g1 hr
          gi_wp2_with fail
          go_roundw
          case rel=>exact ⟨k',eF ws c,l1 ++ [c],l3,by rw [HL.out];simp,HBK3.out,EF.out,by go_num,by simpa [List.length_append] using OW8.out,hid (by simp),P8.out,R8.out,BE8.out,by omega⟩
          case measure=>simp [lenOf];omega
theorem wV_set:∀ (ws:List Way) (i:Nat) (g:Int),i < ws.length→(wV ws).set (i * 6 + 5) (.int .i64 g) = wV (ws.modify i fun w=>{ w with goes:=g })
 | x :: ws,0,g,_=>by simp [wV,wC]
 | x :: ws,i + 1,g,h=>by
   have ih:=wV_set ws i g (by simpa using h)
   rw [List.modify_succ_cons,show wV (x :: ws) = (wC x).toList ++ wV ws from by simp [wV],show wV (x :: ws.modify i fun w=>{ w with goes:=g }) = (wC x).toList ++ wV (ws.modify i fun w=>{ w with goes:=g }) from by simp [wV],← ih,List.set_append_right _ _ (by simp [wC];omega)]
   congr 1
   rw [show (i + 1) * 6 + 5 - (wC x).toList.length = i * 6 + 5 by simp [wC];omega]
theorem put1_mod (ws:List Way) (d:Int) (c:Cg):x3_ ws d c = ws.modify c.way fun w=>{ w with goes:=(at_ ws c.way).goes + d * (if c.more then 1 else -1) }:=by
 refine List.ext_getElem? fun i=>?_
 rw [x3_,List.getElem?_modify,List.getElem?_modify]
 by_cases e:c.way = i
 · subst e
   cases hq:ws[c.way]? with
   | none=>rfl
   | some x=>
     have:at_ ws c.way = x:=by rw [LS.at_,List.getD_eq_getElem?_getD,hq];rfl
     simp only [this,if_true,Option.map_eq_map,Option.map_some]
     cases c.more <;> simp <;> omega
 · simp [e]
theorem NetS.put {B N:Nat} {v:Value} {ws:List Way} {W:World} (h:NetS B N v ws W) {i:Nat} (hi:i < ws.length) (g:Int):∃ ga gc,v = .slice (some ⟨ga,0,none⟩) ws.length gc∧NetS B N v (ws.modify i fun w=>{ w with goes:=g }) (W.setCell ⟨ga,i * 6 + 5,none⟩ (.int .i64 g))∧v.ownBlock = some ga:=by
 obtain ⟨ga,gc,rfl,hB,hl,_,_,_⟩:=h.at hi
 have ho:=(qZ_ (u := .int .i64 g) h.own (i:=i * 6 + 5) (by omega)).1
 rw [wV_set _ _ _ hi] at ho
 refine ⟨ga,gc,rfl,⟨(Below.heap_setCell _ _ _ _ (by have:=h.lt;simp;omega)).trans h.n,by rw [List.length_modify];exact ho,h.lt⟩,rfl⟩
theorem yH_ (B N:Nat) (v:Value) (ws:List Way) (al:Option Addr) (cl:Nat) (l:List Cg) (m:Int) (S:Nat→Prop) (w:World) (hN:NetS B N v ws w) (hW:WB ws) (hlen:ws.length ≤ 100) (hl:SlC S w 2 (.slice al l.length cl) l.length (l.flatMap cgL)) (hS:∀ b,S b→b < w.heap.size∧v.ownBlock ≠ some b)
 (hc:∀ c ∈ l,c.way < ws.length) (hll:l.length ≤ 20) (hm:0 ≤ m∧m ≤ 1000000) :
 Calls Tryz.prog 116 #[.pointer (some ⟨N,0,none⟩), .slice al l.length cl, .int .i64 m] w fun e w'=>(∃ r,e = .returned r)∧NetS B N v (kP_ ws l m) w'∧Keep (fun b=>v.ownBlock = some b) w w':=by
 have HN:=hid hN
 have HW:=hid hW
 have HL:=hid hl
 have HS:=hid hS
 have HC:=hid hc
 obtain ⟨hsl1,hsl2,_⟩:=SlC.caps hl
 have hbnd:∀ k, -1000000 ≤ mMost ws (l.take k) m∧mMost ws (l.take k) m ≤ 1000000:=by
  intro k
  refine ⟨?_,Int.le_trans (jl_ (ws:=ws)).1 hm.2⟩
  have:∀ (l:List Cg) (m:Int), -1000000 ≤ m→(∀ c ∈ l,c.way < ws.length) → -1000000 ≤ mMost ws l m:=by
   intro l
   induction l with
   | nil=>intro m h _;exact h
   | cons c l ih=>
     intro m h hc
     rw [mMost,List.foldl_cons]
     exact ih _ (by have:=(zr_ hW (hc c (List.mem_cons_self ..))).2.2.2;omega) fun c h=>hc c (List.mem_cons_of_mem _ h)
  exact this _ _ (by omega) fun c h=>hc c (List.mem_of_mem_take h)
 have HBD:=hid hbnd
 clear hN hW hl hS hc hbnd
 go_enter Tryz.func116,Tryz.ntmps116
 go_wp2_with fail
 go_loopw [2,16] (fun vm vi wr=>∃ k:Nat,k ≤ l.length∧vi = .int .i64 k∧vm = .int .i64 (mMost ws (l.take k) m)∧Hid (Below w.heap.size w wr)) (fun _ vi _=>l.length - (intOf vi).toNat)
 case atStart=>exact ⟨0,by omega,rfl,rfl,Below.refl _ _⟩
 case round=>
  obtain ⟨k,hk,rfl,rfl,HB⟩:=hrel
  by_cases hlt:k < l.length
  · have hlt':(k:Int) < (l.length:Int):=by omega
    obtain ⟨g,o,rfl,hg,_,_,hcell⟩:=SlC.cells HL.out (by omega)
    obtain ⟨c,hc⟩:∃ c,l[k] = c:=⟨_,rfl⟩
    have hgb:=xe_ hlt
    rw [List.getD_eq_getElem?_getD,List.getElem?_eq_getElem hlt,Option.getD_some,hc] at hgb
    have e0:=bc_ HB.out (HS.out g hg).1 (hcell _ _ hgb.1)
    have e1:=bc_ HB.out (HS.out g hg).1 (hcell _ _ hgb.2)
    rw [← Nat.add_assoc] at e1
    have hcm:c ∈ l:=by rw [← hc];exact List.getElem_mem hlt
    have HMM:=hid (show mMost ws (l.take (k + 1)) m = min (mMost ws (l.take k) m) (eR ws c) by rw [List.take_succ_eq_append_getElem hlt,hc,mMost,List.foldl_append];rfl)
    obtain ⟨mm,hmm⟩:∃ mm,mMost ws (l.take k) m = mm:=⟨_,rfl⟩
    rw [hmm] at HMM ⊢
    obtain ⟨w1,hw1⟩:∃ w1,wr.alloc (.cells #[.int .i64 c.way, .bool c.more] 237) = w1:=⟨_,rfl⟩
    have hb1:Below wr.heap.size wr w1:=by rw [← hw1];exact (Below.refl _ _).alloc (nl_ _) _
    have hn1:w1.heap[wr.heap.size]? = some (.cells #[.int .i64 c.way, .bool c.more] 237 (0,0)):=by rw [← hw1];exact ha_ _ _
    have hzr:=HB.out.size
    have B1:=hid (HB.out.trans (hb1.mono hzr))
    have EN:=hid (zW_ B N c v ws w1 (HN.out.below B1.out) (HC.out c hcm) HW.out)
    have z0:=cg_ hn1 (k:=0) (v := .int .i64 c.way) rfl
    have z1:=cg_ hn1 (k:=1) (v := .bool c.more) rfl
    clear hcell hgb hc hb1 hn1 hmm HB
    go_wp2_with fail
    refine EN.out.mono ?_
    rintro e w2 ⟨rfl,hb2⟩
    have B2:=hid (B1.out.trans (hb2.mono B1.out.size))
    obtain ⟨w3,hw3⟩:∃ w3,w2.alloc (.cells #[.int .i64 (eR ws c)] 3) = w3:=⟨_,rfl⟩
    have hb3:Below w2.heap.size w2 w3:=by rw [← hw3];exact (Below.refl _ _).alloc (nl_ _) _
    have hn3:w3.heap[w2.heap.size]? = some (.cells #[.int .i64 (eR ws c)] 3 (0,0)):=by rw [← hw3];exact ha_ _ _
    have B3:=hid (B2.out.trans (hb3.mono B2.out.size))
    have LE:=hid (xW_ mm (eR ws c) w2.heap.size 0 1 w3 (cg_ hn3 (k:=0) rfl))
    clear hb2 hb3 hn3 z0 z1 e0 e1 EN B1 B2
    go_wp2_with fail
    try rw [hw3]
    refine LE.out.mono ?_
    rintro e w4 ⟨rfl,hw4⟩
    subst hw4
    rw [← HMM.out]
    clear LE HMM hw3
    go_wp2_with fail
    go_roundw
    case rel=>exact ⟨k + 1,by omega,by go_num,rfl,B3.out⟩
    case measure=>simp [intOf];omega
  · obtain rfl:k = l.length:=by omega
    rw [List.take_length]
    have hbm:=HBD.out l.length
    rw [List.take_length] at hbm
    obtain ⟨d,hd⟩:∃ d,mMost ws l m = d:=⟨_,rfl⟩
    rw [hd] at hbm ⊢
    have HD:=hid hd
    clear HBD hd
    go_wp2_with fail
    go_loopw [35] (fun vi wk=>∃ (k:Nat) (ws':List Way),k ≤ l.length∧vi = .int .i64 k∧Hid (ws' = (l.take k).foldl (fun ws' c=>x3_ ws' d c) ws)∧Hid (NetS B N v ws' wk)∧Hid (Keep (fun b=>v.ownBlock = some b) w wk)∧Hid (∀ x ∈ ws', -(1000000 * (k:Int)) ≤ x.goes∧x.goes ≤ 1000000 * ((k:Int) + 1))) (fun vi _=>l.length - (intOf vi).toNat)
    case atStart=>
     refine ⟨0,ws,by omega,rfl,rfl,HN.out.below HB.out,Keep.of_below HB.out,fun x hx=>?_⟩
     have:=HW.out x hx
     omega
    case round=>
     obtain ⟨k,ws',hk,rfl,hws,hns,HK,hbx⟩:=hrel
     by_cases hlt2:k < l.length
     · have hlt':(k:Int) < (l.length:Int):=by omega
       obtain ⟨g,o,rfl,hg,_,_,hcell⟩:=SlC.cells HL.out (by omega)
       obtain ⟨c,hc⟩:∃ c,l[k] = c:=⟨_,rfl⟩
       have hgb:=xe_ hlt2
       rw [List.getD_eq_getElem?_getD,List.getElem?_eq_getElem hlt2,Option.getD_some,hc] at hgb
       have hgS:=HS.out g hg
       have hzk:=HK.out.size
       have e0:=HK.out.cell hgS.1 hgS.2 (hcell _ _ hgb.1)
       have e1:=HK.out.cell hgS.1 hgS.2 (hcell _ _ hgb.2)
       rw [← Nat.add_assoc] at e1
       have hcm:c ∈ l:=by rw [← hc];exact List.getElem_mem hlt2
       have hwl:ws'.length = ws.length:=by
        rw [hws.out]
        have:∀ (l:List Cg) (ws:List Way),(l.foldl (fun ws' c=>x3_ ws' d c) ws).length = ws.length:=by
         intro l
         induction l with
         | nil=>intro ws;rfl
         | cons c l ih=>intro ws;rw [List.foldl_cons,ih,put1_len]
        exact this _ _
       have hcw:c.way < ws'.length:=by rw [hwl];exact HC.out c hcm
       obtain ⟨ga,gc,hve,hBg,hgl,hgc1,hgc2,hat⟩:=hns.out.at hcw
       obtain ⟨x,hx⟩:∃ x,ws'[c.way] = x:=⟨_,rfl⟩
       have hxm:x ∈ ws':=by rw [← hx];exact List.getElem_mem hcw
       have hxb:=hbx.out x hxm
       have hxa:LS.at_ ws' c.way = x:=by rw [LS.at_,List.getD_eq_getElem?_getD,List.getElem?_eq_getElem hcw,hx];rfl
       have HWS:=hid (show x3_ ws' d c = (l.take (k + 1)).foldl (fun ws' c=>x3_ ws' d c) ws by rw [List.take_succ_eq_append_getElem hlt2,hc,List.foldl_append,← hws.out];rfl)
       have HPM:=hid (put1_mod ws' d c)
       rw [hxa] at HPM
       have hkk:(k:Int) ≤ 20:=by omega
       have hva:v.ownBlock = some ga:=by rw [hve];rfl
       obtain ⟨w1,hw1⟩:∃ w1,wr.alloc (.cells #[.int .i64 c.way, .bool c.more] 237) = w1:=⟨_,rfl⟩
       have hb1:Below wr.heap.size wr w1:=by rw [← hw1];exact (Below.refl _ _).alloc (nl_ _) _
       have hn1:w1.heap[wr.heap.size]? = some (.cells #[.int .i64 c.way, .bool c.more] 237 (0,0)):=by rw [← hw1];exact ha_ _ _
       obtain ⟨bx,hbx'⟩:∃ b,wr.heap.size = b:=⟨_,rfl⟩
       rw [hbx'] at hn1
       have NS1:=hid (hns.out.below hb1)
       have K1:=hid (HK.out.trans (Keep.of_below hb1))
       have CN:=hid hn1
       have z0:=cg_ hn1 (k:=0) (v := .int .i64 c.way) rfl
       have z1:=cg_ hn1 (k:=1) (v := .bool c.more) rfl
       have HXG:=hid (show ∀ V:World,NetS B N v ws' V→V.cell? ⟨ga,c.way * 6 + 5,none⟩ = some (.int .i64 x.goes)∧V.frozen? ⟨ga,c.way * 6 + 5,none⟩ = false from fun V h=>by
        obtain ⟨ga2,gc2,hve2,_,_,_,_,hat2⟩:=h.at hcw
        rw [hve] at hve2
        cases hve2
        rw [hx] at hat2
        exact hat2 5 _ rfl)
       have hbl:bx ≠ ga:=by rw [← hbx'];omega
       have hxn:∀ y ∈ x3_ ws' d c, -(1000000 * ((k:Int) + 1)) ≤ y.goes∧y.goes ≤ 1000000 * ((k:Int) + 2):=by
        intro y hy
        obtain ⟨i,hi,rfl⟩:=List.mem_iff_getElem.1 hy
        have hi':i < ws'.length:=by rw [put1_len] at hi;exact hi
        have h1:=put1_at ws' d c i hi'
        rw [show LS.at_ (x3_ ws' d c) i = (x3_ ws' d c)[i] by rw [LS.at_,List.getD_eq_getElem?_getD,List.getElem?_eq_getElem hi];rfl] at h1
        have h2:=hbx.out _ (List.getElem_mem hi')
        rw [show LS.at_ ws' i = ws'[i] by rw [LS.at_,List.getD_eq_getElem?_getD,List.getElem?_eq_getElem hi'];rfl] at h1
        rw [h1]
        show _ ≤ ws'[i].goes + d * dl c i∧ws'[i].goes + d * dl c i ≤ _
        rw [dl]
        split
        · split <;> omega
        · omega
       have HXN:=hid hxn
       have hcI:(c.way:Int) < (ws'.length:Int):=by omega
       have hc0:(0:Int) ≤ (c.way:Int):=by omega
       unfold maxLen at hgc2
       clear hcell hgb hc hb1 hn1 hat hx hxm hns HK hxa hws hxn hbx hwl
       go_upto_if 40 with fail
       try rw [hw1]
       try simp only [hbx']
       clear hw1 hbx' e0 e1
       have SC:=hid (fun (V:World) (h:NetS B N v ws' V) (h2:V.heap[bx]? = some (.cells #[.int .i64 c.way, .bool c.more] 237 (0,0)))=>show V.cell? ⟨N,0,none⟩ = some (.slice (some ⟨ga,0,none⟩) ws'.length gc)∧V.cell? ⟨bx,0,none⟩ = some (.int .i64 c.way)∧V.cell? ⟨ga,c.way * 6 + 5,none⟩ = some (.int .i64 x.goes) from ⟨by have:=cg_ h.n (k:=0) (v:=v) rfl;rw [hve] at this;exact this,cg_ h2 (k:=0) rfl,(HXG.out V h).1⟩)
       obtain ⟨mo,hmo⟩:∃ mo,c.more = mo:=⟨_,rfl⟩
       rw [hmo] at z1 HPM
       try simp only [hmo]
       clear hmo
       cases mo with
       | true=>
         have hwr:IntKind.i64.wrap (x.goes + d) = x.goes + d:=IntWalk.i64_in _ (by omega)
         go_upto_region 10 with fail
         have hbd:Below w1.heap.size w1 w1.drew:=(Below.refl _ w1).drew
         obtain ⟨x0,hx0⟩:∃ x0,w1.drew = x0:=⟨_,rfl⟩
         rw [hx0] at hbd
         have NS0:=hid (NS1.out.below hbd)
         have CN0:=hid (q0_ CN.out hbd)
         have K0:=hid (K1.out.trans (Keep.of_below hbd))
         have hS0:=SC.out x0 NS0.out CN0.out
         clear hbd z0 z1
         refine (wpIn_wide (n:=9)).1 ?_
         refine zh_ (fun V:World=>V.cell? ⟨N,0,none⟩ = some (.slice (some ⟨ga,0,none⟩) ws'.length gc)∧V.cell? ⟨bx,0,none⟩ = some (.int .i64 c.way)∧V.cell? ⟨ga,c.way * 6 + 5,none⟩ = some (.int .i64 x.goes)) 13 (by kernel_rfl) ?_
         rw [hx0]
         clear hx0
         refine tkU 0 41 (.pointer (some ⟨N,0,none⟩)) rfl rfl hS0 ?_
         refine tkU 1 42 (.pointer (some ⟨N,0,none⟩)) rfl rfl hS0 ?_
         refine tkU 2 43 (.pointer (some ⟨N,0,none⟩)) rfl rfl hS0 ?_
         refine tkU 3 44 (.slice (some ⟨ga,0,none⟩) ws'.length gc) rfl rfl hS0 ?_
         refine tkU 4 45 (.pointer (some ⟨bx,0,none⟩)) rfl rfl hS0 ?_
         refine tkU 5 46 (.int .i64 c.way) rfl rfl hS0 ?_
         refine tkU 6 47 (.pointer (some ⟨ga,c.way * 6,none⟩)) rfl rfl hS0 ?_
         refine tkU 7 48 (.pointer (some ⟨ga,c.way * 6 + 5,none⟩)) rfl rfl hS0 ?_
         refine tkU 8 49 (.int .i64 x.goes) rfl rfl hS0 ?_
         refine tkU 9 50 (.int .i64 d) rfl rfl hS0 ?_
         refine tkU 10 51 (.int .i64 (x.goes + d)) rfl rfl hS0 ?_
         refine qg_ (i:=11) (by kernel_rfl) rfl (by kernel_rfl) (by decide) (fun K hK=>?_)
         go_simp
         refine hK _ _ ⟨hS0,?_⟩
         clear hK
         refine qg_ (i:=12) (by kernel_rfl) rfl (by kernel_rfl) (by decide) (fun K hK=>?_)
         go_simp
         refine hK _ _ ⟨hS0,?_⟩
         clear hK
         refine z1_ (by kernel_rfl) rfl (by kernel_rfl) (by kernel_rfl) (fun K hK=>?_)
         obtain ⟨hz0,hz1⟩:=HXG.out x0 NS0.out
         obtain ⟨ga2,gc2,hve2,hput,_⟩:=NS0.out.put hcw (x.goes + d)
         rw [hve] at hve2
         cases hve2
         have hpm:=HPM.out
         rw [show (x.goes + d * (if true = true then (1:Int) else -1)) = x.goes + d by simp;try omega] at hpm
         rw [← hpm] at hput
         have NP:=hid hput
         have KP:=hid (K0.out.trans (Keep.setCell (A:=x0) (p:=⟨ga,c.way * 6 + 5,none⟩) (v := .int .i64 (x.goes + d)) hva))
         go_simp
         refine hK _ _ ?_
         clear hK hz0 hz1 hput hS0 hpm
         go_simp
         go_wp2_with fail
         go_roundw
         case rel=>exact ⟨k + 1,x3_ ws' d c,by omega,by go_num,HWS.out,NP.out,KP.out,HXN.out⟩
         case measure=>simp [intOf];omega
       | false=>
         have hwr:IntKind.i64.wrap (x.goes - d) = x.goes - d:=IntWalk.i64_in _ (by omega)
         go_upto_region 11 with fail
         have hbd:Below w1.heap.size w1 w1.drew:=(Below.refl _ w1).drew
         obtain ⟨x0,hx0⟩:∃ x0,w1.drew = x0:=⟨_,rfl⟩
         rw [hx0] at hbd
         have NS0:=hid (NS1.out.below hbd)
         have CN0:=hid (q0_ CN.out hbd)
         have K0:=hid (K1.out.trans (Keep.of_below hbd))
         have hS0:=SC.out x0 NS0.out CN0.out
         clear hbd z0 z1
         refine (wpIn_wide (n:=9)).1 ?_
         refine zh_ (fun V:World=>V.cell? ⟨N,0,none⟩ = some (.slice (some ⟨ga,0,none⟩) ws'.length gc)∧V.cell? ⟨bx,0,none⟩ = some (.int .i64 c.way)∧V.cell? ⟨ga,c.way * 6 + 5,none⟩ = some (.int .i64 x.goes)) 13 (by kernel_rfl) ?_
         rw [hx0]
         clear hx0
         refine tkU 0 54 (.pointer (some ⟨N,0,none⟩)) rfl rfl hS0 ?_
         refine tkU 1 55 (.pointer (some ⟨N,0,none⟩)) rfl rfl hS0 ?_
         refine tkU 2 56 (.pointer (some ⟨N,0,none⟩)) rfl rfl hS0 ?_
         refine tkU 3 57 (.slice (some ⟨ga,0,none⟩) ws'.length gc) rfl rfl hS0 ?_
         refine tkU 4 58 (.pointer (some ⟨bx,0,none⟩)) rfl rfl hS0 ?_
         refine tkU 5 59 (.int .i64 c.way) rfl rfl hS0 ?_
         refine tkU 6 60 (.pointer (some ⟨ga,c.way * 6,none⟩)) rfl rfl hS0 ?_
         refine tkU 7 61 (.pointer (some ⟨ga,c.way * 6 + 5,none⟩)) rfl rfl hS0 ?_
         refine tkU 8 62 (.int .i64 x.goes) rfl rfl hS0 ?_
         refine tkU 9 63 (.int .i64 d) rfl rfl hS0 ?_
         refine tkU 10 64 (.int .i64 (x.goes - d)) rfl rfl hS0 ?_
         refine qg_ (i:=11) (by kernel_rfl) rfl (by kernel_rfl) (by decide) (fun K hK=>?_)
         go_simp
         refine hK _ _ ⟨hS0,?_⟩
         clear hK
         refine qg_ (i:=12) (by kernel_rfl) rfl (by kernel_rfl) (by decide) (fun K hK=>?_)
         go_simp
         refine hK _ _ ⟨hS0,?_⟩
         clear hK
         refine z1_ (by kernel_rfl) rfl (by kernel_rfl) (by kernel_rfl) (fun K hK=>?_)
         obtain ⟨hz0,hz1⟩:=HXG.out x0 NS0.out
         obtain ⟨ga2,gc2,hve2,hput,_⟩:=NS0.out.put hcw (x.goes - d)
         rw [hve] at hve2
         cases hve2
         have hpm:=HPM.out
         rw [show (x.goes + d * (if false = true then (1:Int) else -1)) = x.goes - d by simp;try omega] at hpm
         rw [← hpm] at hput
         have NP:=hid hput
         have KP:=hid (K0.out.trans (Keep.setCell (A:=x0) (p:=⟨ga,c.way * 6 + 5,none⟩) (v := .int .i64 (x.goes - d)) hva))
         go_simp
         refine hK _ _ ?_
         clear hK hz0 hz1 hput hS0 hpm
         go_simp
         go_wp2_with fail
         go_roundw
         case rel=>exact ⟨k + 1,x3_ ws' d c,by omega,by go_num,HWS.out,NP.out,KP.out,HXN.out⟩
         case measure=>simp [intOf];omega
     · obtain rfl:k = l.length:=by omega
       go_wp2_with fail
       go_end0
       refine ⟨⟨_,rfl⟩,?_,HK.out⟩
       have hn:=hns.out
       rw [hws.out,List.take_length,← HD.out] at hn
       exact hn
end Go.Proofs.LS