/- Parts of the proof of a law of layer 11 (file): LbS16p. The conditions stand in each theorem. -/
import Derived.Test.YtffjknkcogmnbaaGreatDoorProg
import Derived.WalkMore
import Derived.Test.YtffjknkcogmnbaaGreatDoorTyao
import Derived.Test.YtffjknkcogmnbaaGreatDoorTybk
set_option linter.all false
set_option linter.unusedVariables false
set_option linter.unusedSimpArgs false
namespace Go.Proofs.LS
open Go.RowKit Go.Sort Go.Proofs.LF Go.Proofs.LB
set_option maxHeartbeats 4000000
set_option maxRecDepth 100000
attribute [local go_sem] q1_ q2_ q8_
def WB0 (ws:List Way):Prop:=∀ i,i < ws.length→(at_ ws i).lo ≤ 1000000∧(at_ ws i).hi ≤ 1000000∧0 ≤ (at_ ws i).cost∧(at_ ws i).cost ≤ 1
theorem kH_ {ws:List Way} {i:Nat} (hi:i < ws.length):at_ ws i = ws[i]:=by rw [at_,List.getD_eq_getElem?_getD,List.getElem?_eq_getElem hi];rfl
theorem wb_of {ws xs:List Way} (h0:WB0 xs) (hS:z5_ ws xs) (hF:Flow ws):WB ws:=by
 intro x hx
 obtain ⟨i,hi,rfl⟩:=List.mem_iff_getElem.1 hx
 rw [← kH_ hi]
 have h1:=hF.node i hi
 have h2:=hF.low i hi
 have h3:=hF.lim i hi
 have h4:=h0 i (by rw [← hS.len];exact hi)
 have h5:=hS.at i
 refine ⟨h1.1,h1.2.1,⟨h2,by omega⟩,⟨by omega,by omega⟩,⟨h3.1,by omega⟩,by omega,by omega⟩
theorem net_uniq {B N:Nat} {v:Value} {ws xs ls:List Way} {W:World} (h:NetS B N v ws W) (k:NetS B N v xs W) (hs:z5_ ls ws) (ks:z5_ ls xs):ws = xs:=by
 have hl:ws.length = xs.length:=by rw [← hs.len,ks.len]
 refine List.ext_getElem hl fun i hi hi'=>?_
 have b1:=hs.at i
 have b2:=ks.at i
 obtain ⟨g,c,e1,_,_,_,_,c1⟩:=h.at hi
 obtain ⟨g',c',e2,_,_,_,_,c2⟩:=k.at hi'
 rw [e1] at e2
 obtain rfl:g = g':=by simp only [Value.slice.injEq,Option.some.injEq,Addr.mk.injEq] at e2;exact e2.1.1
 have d1:=(c1 5 _ rfl).1
 have d2:=(c2 5 _ rfl).1
 rw [d1] at d2
 have d3:ws[i].goes = xs[i].goes:=by simpa using d2
 rw [kH_ hi] at b1
 rw [kH_ hi'] at b2
 obtain ⟨f1,t1,l1,h1,k1⟩:=b1
 obtain ⟨f2,t2,l2,h2,k2⟩:=b2
 rw [f1] at f2;rw [t1] at t2;rw [l1] at l2;rw [h1] at h2;rw [k1] at k2
 cases hx:ws[i]
 cases hy:xs[i]
 rw [hx,hy] at d3 f2 t2 l2 h2 k2
 simp only at d3 f2 t2 l2 h2 k2
 subst d3 f2 t2 l2 h2 k2
 rfl
open Classical in
noncomputable def wsOf (B N:Nat) (v:Value) (ls:List Way) (W:World):List Way:=if h:∃ ws,NetS B N v ws W∧z5_ ls ws then h.choose else []
theorem x9_ {B N:Nat} {v:Value} {ws ls:List Way} {W:World} (h:NetS B N v ws W) (hs:z5_ ls ws):wsOf B N v ls W = ws:=by
 have hx:∃ ws,NetS B N v ws W∧z5_ ls ws:=⟨ws,h,hs⟩
 rw [wsOf,dif_pos hx]
 exact net_uniq hx.choose_spec.1 h hx.choose_spec.2 hs
structure FlS (ls:List Way) (q N B:Nat) (v:Value) (w:World) (ws:List Way) (W:World):Prop where
 n:NetS B N v ws W
 b:Below q w W
 r:W.heap[q + 1]? = some (.cells #[.bool false, .slice none 0 0] 164 (0,0))
 f:Flow ws
 s:z5_ ls ws
theorem FlS.below {ls:List Way} {q N B:Nat} {v:Value} {w:World} {ws:List Way} {W W':World} (h:FlS ls q N B v w ws W) (hb:Below W.heap.size W W'):FlS ls q N B v w ws W':=
 ⟨h.n.below hb,h.b.trans (hb.mono (by have:=(ge_ h.r).1;omega)),q0_ h.r hb,h.f,h.s⟩
theorem FlS.keep {ls:List Way} {q N B:Nat} {v:Value} {w:World} {ws xs:List Way} {W W':World} (h:FlS ls q N B v w ws W) (hqN:q + 1 < N) (hn:NetS B N v xs W') (hk:Keep (fun b=>v.ownBlock = some b) W W') (hf:Flow xs) (hs:z5_ ws xs):FlS ls q N B v w xs W':=by
 have hq:=(ge_ h.r).1
 have hno:∀ b,b ≤ q + 1→v.ownBlock ≠ some b:=fun b hb e=>by have:=(h.n.own.lt b e).1;have:=h.n.lt;omega
 exact ⟨hn,h.b.trans (hk.below (by omega) fun b hb e=>hno b (by omega) e),(hk.block _ (by omega) (hno _ (nl_ _))).trans h.r,hf,h.s.trans hs⟩
theorem FlS.other {ls:List Way} {q N B:Nat} {v:Value} {w:World} {ws:List Way} {W W':World} {O:Nat→Prop} (h:FlS ls q N B v w ws W) (hk:Keep O W W') (ho:∀ b,O b→q + 1 < b∧b ≠ N∧v.ownBlock ≠ some b):FlS ls q N B v w ws W':=by
 have hq:=(ge_ h.r).1
 have hN:=(ge_ h.n.n).1
 exact ⟨⟨(hk.block N hN fun e=>(ho N e).2.1 rfl).trans h.n.n,q3_ h.n.own fun g hg=>hk.block g (h.n.own.lt g hg).2 fun e=>(ho g e).2.2 hg,h.n.lt⟩,h.b.trans (hk.below (by omega) fun b hb e=>by have:=ho b e;omega),(hk.block _ hq fun e=>by have:=ho _ e;omega).trans h.r,h.f,h.s⟩
end Go.Proofs.LS