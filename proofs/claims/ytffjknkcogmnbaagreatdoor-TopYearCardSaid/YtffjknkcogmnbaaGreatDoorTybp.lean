/- Parts of the proof of a law of layer 11 (file): LbT7a. The conditions stand in each theorem. -/
import Derived.Test.YtffjknkcogmnbaaGreatDoorProg
import Derived.Test.YtffjknkcogmnbaaGreatDoorTybo
set_option linter.all false
set_option linter.unusedVariables false
set_option linter.unusedSimpArgs false
namespace Go.Proofs.LB
open Go.RowKit Go.Sort Go.Proofs.LF Go.Proofs.LS
set_option maxHeartbeats 4000000
set_option maxRecDepth 100000
attribute [local go_sem] q1_ q2_ q8_
theorem qI_ {b:Nat} {S O:Nat→Prop} {W W':World} (h:Hp b S W) (hS:∀ q,S q→q < W.heap.size) (hk:Keep O W W') (hb:¬ O b) (hO:∀ q,S q→¬ O q):Hp b S W':=by
 obtain ⟨a,l,c,nx,rd,h1,h2,h3,h4,h5⟩:=h
 have hl:=(ge_ h1).1
 exact ⟨a,l,c,nx,rd,(hk.block b hl hb).trans h1,h2,h3,SlC.agree h4 (hk.agree fun q hq=>⟨hS q hq,hO q hq⟩),h5⟩
theorem hp_lt {b:Nat} {S:Nat→Prop} {W:World} (h:Hp b S W):b < W.heap.size:=by
 obtain ⟨a,l,c,nx,rd,h1,_⟩:=h
 exact (ge_ h1).1
def zBed:Array Value:=#[.int .i64 0, .int .i64 0, .int .i64 0, .slice none 0 0, .slice none 0 0]
structure MdS (b:Nat) (S:Nat→Prop) (q b9:Nat) (w:World) (room first uns:Int) (ms:List Mo) (rs:List Int) (vm vt vc:Value) (cs:List Value) (W:World):Prop where
 hp:Hp b S W
 kp:Keep (· = b) w W
 c6:W.heap[q]? = some (.cells zBed 26 (0,0))
 c9:W.heap[b9]? = some (.cells (z7_ room first uns vm (.slice none 0 0)) 26 (0,0))
 o1:W.ownsRow (b9 + 1) 79 6 vm ms.length (ms.flatMap fun x=>(moC x).toList)
 o2:W.ownsRow (b9 + 1) 3 1 vt rs.length (rs.map (Value.int .i64))
 o3:W.ownsRow (b9 + 1) 81 2 vc ms.length cs
 a12:∀ g,vm.ownBlock = some g→vt.ownBlock ≠ some g∧vc.ownBlock ≠ some g
 a23:∀ g,vt.ownBlock = some g→vc.ownBlock ≠ some g
theorem j7_ {fn:Func} {p u v:Tmp} {ty:TypeId} (h:fn.results = #[.cell p ty, .tmp u, .tmp v]) (tmps:Array Value) (P:Program) (w:World):(results fn tmps).run P w = ((asAddr (tmps.getD p undef)).run P w).andThen fun a w₁=>((loadVar ty a).run P w₁).andThen fun x w₂ => .ok (.tuple #[x,tmps.getD u undef,tmps.getD v undef]) w₂:=by
 simp only [results,h]
 simp [Sem.run_bind,Result.andThen]
theorem ret26 {fn:Func} {p u v:Tmp} (hr:fn.results = #[.cell p 26, .tmp u, .tmp v]) {tmps:Array Value} {W:World} {q:Nat} {a b c d e x y:Value} (h:W.heap[q]? = some (.cells #[a,b,c,d,e] 26 (0,0))) (h1:tmps.getD p undef = .pointer (some ⟨q,0,none⟩)) (h2:tmps.getD u undef = x) (h3:tmps.getD v undef = y):(results fn tmps).run Tryz.prog W = .ok (.tuple #[.agg #[a,b,c,d,e],x,y]) W:=by
 have e0:=cg_ h (k:=0) rfl
 have e1:=cg_ h (k:=1) rfl
 have e2:=cg_ h (k:=2) rfl
 have e3:=cg_ h (k:=3) rfl
 have e4:=cg_ h (k:=4) rfl
 rw [j7_ hr,h1,h2,h3]
 simp [go_sem,e0,e1,e2,e3,e4]
theorem MdS.keep {b:Nat} {S:Nat→Prop} {q b9:Nat} {w:World} {room first uns:Int} {ms:List Mo} {rs:List Int} {vm vt vc:Value} {cs:List Value} {W W':World} (h:MdS b S q b9 w room first uns ms rs vm vt vc cs W) (hk:Keep (· = b) W W') (hp:Hp b S W') (hb:b < q∧q < b9):MdS b S q b9 w room first uns ms rs vm vt vc cs W':=by
 have l6:=(ge_ h.c6).1
 have l9:=(ge_ h.c9).1
 exact ⟨hp,h.kp.trans hk,(hk.block q l6 (by omega)).trans h.c6,(hk.block b9 l9 (by omega)).trans h.c9,q3_ h.o1 fun g hg=>hk.block g (h.o1.lt g hg).2 (by have:=(h.o1.lt g hg).1;omega),q3_ h.o2 fun g hg=>hk.block g (h.o2.lt g hg).2 (by have:=(h.o2.lt g hg).1;omega),q3_ h.o3 fun g hg=>hk.block g (h.o3.lt g hg).2 (by have:=(h.o3.lt g hg).1;omega),h.a12,h.a23⟩
theorem MdS.below {b:Nat} {S:Nat→Prop} {q b9:Nat} {w:World} {room first uns:Int} {ms:List Mo} {rs:List Int} {vm vt vc:Value} {cs:List Value} {W W':World} (h:MdS b S q b9 w room first uns ms rs vm vt vc cs W) (hb:Below W.heap.size W W') (hS:∀ q',S q'→q' < W.heap.size) (hq:b < q∧q < b9):MdS b S q b9 w room first uns ms rs vm vt vc cs W':=
 h.keep (Keep.of_below hb) (qI_ h.hp hS (Keep.of_below (O:=fun _=>False) hb) (fun e=>e) (fun _ _ e=>e)) hq
theorem MdS.side {b:Nat} {S:Nat→Prop} {q b9 bm:Nat} {w:World} {room first uns:Int} {ms:List Mo} {rs:List Int} {vm vt vc:Value} {cs:List Value} {W W':World} (h:MdS b S q b9 w room first uns ms rs vm vt vc cs W) (hk:Keep (· = bm) W W') (hS:∀ q',S q'→q' < q) (hb:b < q∧q < b9∧b9 < bm) (hw:w.heap.size ≤ bm) (hv:vm.ownBlock ≠ some bm∧vt.ownBlock ≠ some bm∧vc.ownBlock ≠ some bm):MdS b S q b9 w room first uns ms rs vm vt vc cs W':=by
 have l6:=(ge_ h.c6).1
 have l9:=(ge_ h.c9).1
 exact ⟨qI_ h.hp (fun q' e=>by have:=hS q' e;omega) hk (by omega) (fun q' e=>by have:=hS q' e;omega),h.kp.thenO hk fun j hj => .inr (by omega),(hk.block q l6 (by omega)).trans h.c6,(hk.block b9 l9 (by omega)).trans h.c9,q3_ h.o1 fun g hg=>hk.block g (h.o1.lt g hg).2 (fun e=>hv.1 (e ▸ hg)),q3_ h.o2 fun g hg=>hk.block g (h.o2.lt g hg).2 (fun e=>hv.2.1 (e ▸ hg)),q3_ h.o3 fun g hg=>hk.block g (h.o3.lt g hg).2 (fun e=>hv.2.2 (e ▸ hg)),h.a12,h.a23⟩
structure MdT (b:Nat) (S:Nat→Prop) (q b9:Nat) (w:World) (room first uns:Int) (vh:Value) (n1 n2 n3:Nat) (l1 l2 l3:List Value) (v1 v2 v3:Value) (W:World):Prop where
 hp:Hp b S W
 kp:Keep (· = b) w W
 c6:W.heap[q]? = some (.cells zBed 26 (0,0))
 c9:W.heap[b9]? = some (.cells (z7_ room first uns vh (.slice none 0 0)) 26 (0,0))
 o1:W.ownsRow (b9 + 1) 79 6 v1 n1 l1
 o2:W.ownsRow (b9 + 1) 3 1 v2 n2 l2
 o3:W.ownsRow (b9 + 1) 81 2 v3 n3 l3
 a12:∀ g,v1.ownBlock = some g→v2.ownBlock ≠ some g∧v3.ownBlock ≠ some g
 a23:∀ g,v2.ownBlock = some g→v3.ownBlock ≠ some g
theorem MdS.t {b:Nat} {S:Nat→Prop} {q b9:Nat} {w:World} {room first uns:Int} {ms:List Mo} {rs:List Int} {vm vt vc:Value} {cs:List Value} {W:World} (h:MdS b S q b9 w room first uns ms rs vm vt vc cs W):MdT b S q b9 w room first uns vm ms.length rs.length ms.length (ms.flatMap fun x=>(moC x).toList) (rs.map (Value.int .i64)) cs vm vt vc W:=
 ⟨h.hp,h.kp,h.c6,h.c9,h.o1,h.o2,h.o3,h.a12,h.a23⟩
theorem MdT.below {b:Nat} {S:Nat→Prop} {q b9:Nat} {w:World} {room first uns:Int} {vh:Value} {n1 n2 n3:Nat} {l1 l2 l3:List Value} {v1 v2 v3:Value} {W W':World} (h:MdT b S q b9 w room first uns vh n1 n2 n3 l1 l2 l3 v1 v2 v3 W) (hS:∀ q',S q'→q' < q) (hq:b < q∧q < b9) (hw:w.heap.size ≤ q) (hb:Below W.heap.size W W'):MdT b S q b9 w room first uns vh n1 n2 n3 l1 l2 l3 v1 v2 v3 W':=by
 have l6:=(ge_ h.c6).1
 have l9:=(ge_ h.c9).1
 exact ⟨qI_ h.hp (fun q' e=>by have:=hS q' e;omega) (Keep.of_below (O:=fun _=>False) hb) (fun e=>e) (fun _ _ e=>e),h.kp.trans (Keep.of_below hb),q0_ h.c6 hb,q0_ h.c9 hb,ob_ h.o1 hb (nl_ _),ob_ h.o2 hb (nl_ _),ob_ h.o3 hb (nl_ _),h.a12,h.a23⟩
theorem MdT.app1 {b:Nat} {S:Nat→Prop} {q b9:Nat} {w:World} {room first uns:Int} {vh:Value} {n1 n2 n3:Nat} {l1 l2 l3:List Value} {v1 v2 v3:Value} {W W':World} {v':Value} {n':Nat} {l':List Value} (h:MdT b S q b9 w room first uns vh n1 n2 n3 l1 l2 l3 v1 v2 v3 W) (hS:∀ q',S q'→q' < q) (hq:b < q∧q < b9) (hw:w.heap.size ≤ q) (ho:W'.ownsRow (b9 + 1) 79 6 v' n' l') (hg:W.grownBy W' v1.ownBlock) (hat:∀ g,v'.ownBlock = some g→v1.ownBlock = some g ∨ g = W.heap.size):MdT b S q b9 w room first uns vh n' n2 n3 l' l2 l3 v' v2 v3 W':=by
 have l6:=(ge_ h.c6).1
 have l9:=(ge_ h.c9).1
 have hk:Keep (fun j=>v1.ownBlock = some j) W W':=Keep.grown hg (fun b e=>e)
 have hge:∀ g,v1.ownBlock = some g→b9 + 1 ≤ g:=fun g e=>(h.o1.lt g e).1
 exact ⟨qI_ h.hp (fun q' e=>by have:=hS q' e;omega) hk (fun e=>by have:=hge _ e;omega) (fun q' e e2=>by have:=hge _ e2;have:=hS q' e;omega),h.kp.thenO hk (fun j hj => .inr (by have:=hge j hj;omega)),(hg.block q l6 (fun e=>by have:=hge q e.symm;omega)).trans h.c6,(hg.block b9 l9 (fun e=>by have:=hge b9 e.symm;omega)).trans h.c9,ho,q3_ h.o2 fun g hg'=>hg.block g (h.o2.lt g hg').2 (fun e=>(h.a12 g e.symm).1 hg'),q3_ h.o3 fun g hg'=>hg.block g (h.o3.lt g hg').2 (fun e=>(h.a12 g e.symm).2 hg'),fun g hg'=>by
  rcases hat g hg' with e | e
  · exact h.a12 g e
  · exact ⟨fun e2=>by have:=(h.o2.lt g e2).2;omega,fun e2=>by have:=(h.o3.lt g e2).2;omega⟩,h.a23⟩
theorem MdT.app2 {b:Nat} {S:Nat→Prop} {q b9:Nat} {w:World} {room first uns:Int} {vh:Value} {n1 n2 n3:Nat} {l1 l2 l3:List Value} {v1 v2 v3:Value} {W W':World} {v':Value} {n':Nat} {l':List Value} (h:MdT b S q b9 w room first uns vh n1 n2 n3 l1 l2 l3 v1 v2 v3 W) (hS:∀ q',S q'→q' < q) (hq:b < q∧q < b9) (hw:w.heap.size ≤ q) (ho:W'.ownsRow (b9 + 1) 3 1 v' n' l') (hg:W.grownBy W' v2.ownBlock) (hat:∀ g,v'.ownBlock = some g→v2.ownBlock = some g ∨ g = W.heap.size):MdT b S q b9 w room first uns vh n1 n' n3 l1 l' l3 v1 v' v3 W':=by
 have l6:=(ge_ h.c6).1
 have l9:=(ge_ h.c9).1
 have hk:Keep (fun j=>v2.ownBlock = some j) W W':=Keep.grown hg (fun b e=>e)
 have hge:∀ g,v2.ownBlock = some g→b9 + 1 ≤ g:=fun g e=>(h.o2.lt g e).1
 exact ⟨qI_ h.hp (fun q' e=>by have:=hS q' e;omega) hk (fun e=>by have:=hge _ e;omega) (fun q' e e2=>by have:=hge _ e2;have:=hS q' e;omega),h.kp.thenO hk (fun j hj => .inr (by have:=hge j hj;omega)),(hg.block q l6 (fun e=>by have:=hge q e.symm;omega)).trans h.c6,(hg.block b9 l9 (fun e=>by have:=hge b9 e.symm;omega)).trans h.c9,q3_ h.o1 fun g hg'=>hg.block g (h.o1.lt g hg').2 (fun e=>(h.a12 g hg').1 e.symm),ho,q3_ h.o3 fun g hg'=>hg.block g (h.o3.lt g hg').2 (fun e=>h.a23 g e.symm hg'),fun g hg'=>⟨fun e=>by
  rcases hat g e with e | e
  · exact (h.a12 g hg').1 e
  · have:=(h.o1.lt g hg').2;omega,(h.a12 g hg').2⟩,fun g hg'=>by
  rcases hat g hg' with e | e
  · exact h.a23 g e
  · exact fun e2=>by have:=(h.o3.lt g e2).2;omega⟩
theorem MdT.app3 {b:Nat} {S:Nat→Prop} {q b9:Nat} {w:World} {room first uns:Int} {vh:Value} {n1 n2 n3:Nat} {l1 l2 l3:List Value} {v1 v2 v3:Value} {W W':World} {v':Value} {n':Nat} {l':List Value} (h:MdT b S q b9 w room first uns vh n1 n2 n3 l1 l2 l3 v1 v2 v3 W) (hS:∀ q',S q'→q' < q) (hq:b < q∧q < b9) (hw:w.heap.size ≤ q) (ho:W'.ownsRow (b9 + 1) 81 2 v' n' l') (hg:W.grownBy W' v3.ownBlock) (hat:∀ g,v'.ownBlock = some g→v3.ownBlock = some g ∨ g = W.heap.size):MdT b S q b9 w room first uns vh n1 n2 n' l1 l2 l' v1 v2 v' W':=by
 have l6:=(ge_ h.c6).1
 have l9:=(ge_ h.c9).1
 have hk:Keep (fun j=>v3.ownBlock = some j) W W':=Keep.grown hg (fun b e=>e)
 have hge:∀ g,v3.ownBlock = some g→b9 + 1 ≤ g:=fun g e=>(h.o3.lt g e).1
 exact ⟨qI_ h.hp (fun q' e=>by have:=hS q' e;omega) hk (fun e=>by have:=hge _ e;omega) (fun q' e e2=>by have:=hge _ e2;have:=hS q' e;omega),h.kp.thenO hk (fun j hj => .inr (by have:=hge j hj;omega)),(hg.block q l6 (fun e=>by have:=hge q e.symm;omega)).trans h.c6,(hg.block b9 l9 (fun e=>by have:=hge b9 e.symm;omega)).trans h.c9,q3_ h.o1 fun g hg'=>hg.block g (h.o1.lt g hg').2 (fun e=>(h.a12 g hg').2 e.symm),q3_ h.o2 fun g hg'=>hg.block g (h.o2.lt g hg').2 (fun e=>h.a23 g hg' e.symm),ho,fun g hg'=>⟨(h.a12 g hg').1,fun e=>by
  rcases hat g e with e | e
  · exact (h.a12 g hg').2 e
  · have:=(h.o1.lt g hg').2;omega⟩,fun g hg' e=>by
  rcases hat g e with e | e
  · exact h.a23 g hg' e
  · have:=(h.o2.lt g hg').2;omega⟩
theorem MdT.store {b:Nat} {S:Nat→Prop} {q b9:Nat} {w:World} {room first uns:Int} {vh:Value} {n1 n2 n3:Nat} {l1 l2 l3:List Value} {v1 v2 v3:Value} {W W':World} (h:MdT b S q b9 w room first uns vh n1 n2 n3 l1 l2 l3 v1 v2 v3 W) (hS:∀ q',S q'→q' < q) (hq:b < q∧q < b9) (hw:w.heap.size ≤ q) (hW:W.setCell ⟨b9,3,none⟩ v1 = W'):MdT b S q b9 w room first uns v1 n1 n2 n3 l1 l2 l3 v1 v2 v3 W':=by
 have l6:=(ge_ h.c6).1
 have l9:=(ge_ h.c9).1
 have hk:Keep (· = b9) W W':=by rw [← hW];exact Keep.setCell (O:=(· = b9)) (p:=⟨b9,3,none⟩) rfl
 have hc:W'.heap[b9]? = some (.cells (z7_ room first uns v1 (.slice none 0 0)) 26 (0,0)):=by rw [← hW];exact (qe_ h.c9).trans (by rfl)
 exact ⟨qI_ h.hp (fun q' e=>by have:=hS q' e;omega) hk (by omega) (fun q' e=>by have:=hS q' e;omega),h.kp.thenO hk (fun j hj => .inr (by omega)),(hk.block q l6 (by omega)).trans h.c6,hc,q3_ h.o1 fun g hg=>hk.block g (h.o1.lt g hg).2 (by have:=(h.o1.lt g hg).1;omega),q3_ h.o2 fun g hg=>hk.block g (h.o2.lt g hg).2 (by have:=(h.o2.lt g hg).1;omega),q3_ h.o3 fun g hg=>hk.block g (h.o3.lt g hg).2 (by have:=(h.o3.lt g hg).1;omega),h.a12,h.a23⟩
structure Pd (v1 v2 v3:Value) (bk:Nat) (o:Obj) (W:World):Prop where
 h:W.heap[bk]? = some o
 n1:v1.ownBlock ≠ some bk
 n2:v2.ownBlock ≠ some bk
 n3:v3.ownBlock ≠ some bk
theorem Pd.below {v1 v2 v3:Value} {bk:Nat} {o:Obj} {W W':World} (h:Pd v1 v2 v3 bk o W) (hb:Below W.heap.size W W'):Pd v1 v2 v3 bk o W':=⟨q0_ h.h hb,h.n1,h.n2,h.n3⟩
theorem Pd.lt {v1 v2 v3:Value} {bk:Nat} {o:Obj} {W:World} (h:Pd v1 v2 v3 bk o W):bk < W.heap.size:=(ge_ h.h).1
theorem Pd.app1 {v1 v2 v3 v':Value} {bk:Nat} {o:Obj} {W W':World} (h:Pd v1 v2 v3 bk o W) (hg:W.grownBy W' v1.ownBlock) (hat:∀ g,v'.ownBlock = some g→v1.ownBlock = some g ∨ g = W.heap.size):Pd v' v2 v3 bk o W':=
 ⟨(hg.block bk h.lt (fun e=>h.n1 e.symm)).trans h.h,fun e=>by
   rcases hat bk e with e | e
   · exact h.n1 e
   · have:=h.lt;omega,h.n2,h.n3⟩
theorem Pd.app2 {v1 v2 v3 v':Value} {bk:Nat} {o:Obj} {W W':World} (h:Pd v1 v2 v3 bk o W) (hg:W.grownBy W' v2.ownBlock) (hat:∀ g,v'.ownBlock = some g→v2.ownBlock = some g ∨ g = W.heap.size):Pd v1 v' v3 bk o W':=
 ⟨(hg.block bk h.lt (fun e=>h.n2 e.symm)).trans h.h,h.n1,fun e=>by
   rcases hat bk e with e | e
   · exact h.n2 e
   · have:=h.lt;omega,h.n3⟩
theorem Pd.app3 {v1 v2 v3 v':Value} {bk:Nat} {o:Obj} {W W':World} (h:Pd v1 v2 v3 bk o W) (hg:W.grownBy W' v3.ownBlock) (hat:∀ g,v'.ownBlock = some g→v3.ownBlock = some g ∨ g = W.heap.size):Pd v1 v2 v' bk o W':=
 ⟨(hg.block bk h.lt (fun e=>h.n3 e.symm)).trans h.h,h.n1,h.n2,fun e=>by
   rcases hat bk e with e | e
   · exact h.n3 e
   · have:=h.lt;omega⟩
theorem MdT.pd {b:Nat} {S:Nat→Prop} {q b9:Nat} {w:World} {room first uns:Int} {vh:Value} {n1 n2 n3:Nat} {l1 l2 l3:List Value} {v1 v2 v3:Value} {W W':World} {o:Obj} (h:MdT b S q b9 w room first uns vh n1 n2 n3 l1 l2 l3 v1 v2 v3 W) (hn:W'.heap[W.heap.size]? = some o):Pd v1 v2 v3 W.heap.size o W':=
 ⟨hn,fun e=>by have:=(h.o1.lt _ e).2;omega,fun e=>by have:=(h.o2.lt _ e).2;omega,fun e=>by have:=(h.o3.lt _ e).2;omega⟩
theorem Tryz.info79m:(Tryz.prog.info? 79).map (fun i=>(i.zero,i.size,i.bytes)) = some (some (.agg #[.int .i64 0, .int .i64 0, .int .i64 0, .int .i64 0, .int .i64 0, .int .i64 0]),6,48):=by kernel_rfl
theorem Tryz.info3m:(Tryz.prog.info? 3).map (fun i=>(i.zero,i.size,i.bytes)) = some (some (.int .i64 0),1,8):=by kernel_rfl
theorem Tryz.info81m:(Tryz.prog.info? 81).map (fun i=>(i.zero,i.size,i.bytes)) = some (some (.agg #[.int .i64 0, .int .i64 0]),2,16):=by kernel_rfl
theorem mds_of {b:Nat} {S:Nat→Prop} {q b9:Nat} {w:World} {room first uns:Int} {ms:List Mo} {rs:List Int} {vm vt vc:Value} {n1 n2 n3:Nat} {l1 l2 cs:List Value} {W:World} (h:MdT b S q b9 w room first uns vm n1 n2 n3 l1 l2 cs vm vt vc W) (e1:n1 = ms.length∧n2 = rs.length∧n3 = ms.length) (e2:l1 = ms.flatMap fun x=>(moC x).toList) (e3:l2 = rs.map (Value.int .i64)):MdS b S q b9 w room first uns ms rs vm vt vc cs W:=by
 obtain ⟨rfl,rfl,rfl⟩:=e1
 subst e2 e3
 exact ⟨h.hp,h.kp,h.c6,h.c9,h.o1,h.o2,h.o3,h.a12,h.a23⟩
def Pnd (d:Option (Option Nat)) (v1 v2 v3:Value) (o:Obj) (W:World):Prop:=match d with
 | some (some k)=>Pd v1 v2 v3 k o W
 | _=>True
theorem Pnd.below {d:Option (Option Nat)} {v1 v2 v3:Value} {o:Obj} {W W':World} (h:Pnd d v1 v2 v3 o W) (hb:Below W.heap.size W W'):Pnd d v1 v2 v3 o W':=by
 cases d with
 | none=>trivial
 | some d=>cases d with
   | none=>trivial
   | some k=>exact Pd.below h hb
theorem Pnd.app1 {d:Option (Option Nat)} {v1 v2 v3 v':Value} {o:Obj} {W W':World} (h:Pnd d v1 v2 v3 o W) (hg:W.grownBy W' v1.ownBlock) (hat:∀ g,v'.ownBlock = some g→v1.ownBlock = some g ∨ g = W.heap.size):Pnd d v' v2 v3 o W':=by
 cases d with
 | none=>trivial
 | some d=>cases d with
   | none=>trivial
   | some k=>exact Pd.app1 h hg hat
theorem Pnd.app2 {d:Option (Option Nat)} {v1 v2 v3 v':Value} {o:Obj} {W W':World} (h:Pnd d v1 v2 v3 o W) (hg:W.grownBy W' v2.ownBlock) (hat:∀ g,v'.ownBlock = some g→v2.ownBlock = some g ∨ g = W.heap.size):Pnd d v1 v' v3 o W':=by
 cases d with
 | none=>trivial
 | some d=>cases d with
   | none=>trivial
   | some k=>exact Pd.app2 h hg hat
theorem Pnd.app3 {d:Option (Option Nat)} {v1 v2 v3 v':Value} {o:Obj} {W W':World} (h:Pnd d v1 v2 v3 o W) (hg:W.grownBy W' v3.ownBlock) (hat:∀ g,v'.ownBlock = some g→v3.ownBlock = some g ∨ g = W.heap.size):Pnd d v1 v2 v' o W':=by
 cases d with
 | none=>trivial
 | some d=>cases d with
   | none=>trivial
   | some k=>exact Pd.app3 h hg hat
structure StR (b:Nat) (S:Nat→Prop) (q b9:Nat) (w:World) (room first uns:Int) (vh:Value) (bm bc:Nat) (c1 c2 c3:Array Value) (d1 d2 d3:Option (Option Nat)) (n1 n2 n3:Nat) (l1 l2 l3:List Value) (v1 v2 v3:Value) (W:World):Prop where
 g:(∀ q',S q'→q' < q)∧(b < q∧q < b9)∧w.heap.size ≤ q
 t:MdT b S q b9 w room first uns vh n1 n2 n3 l1 l2 l3 v1 v2 v3 W
 m:Pd v1 v2 v3 bm (.cells c1 79 (0,0)) W
 c:Pd v1 v2 v3 bc (.cells c3 81 (0,0)) W
 p1:Pnd d1 v1 v2 v3 (.cells c1 79 (0,0)) W
 p2:Pnd d2 v1 v2 v3 (.cells c2 3 (0,0)) W
 p3:Pnd d3 v1 v2 v3 (.cells c3 81 (0,0)) W
theorem StR.below {b:Nat} {S:Nat→Prop} {q b9:Nat} {w:World} {room first uns:Int} {vh:Value} {bm bc:Nat} {c1 c2 c3:Array Value} {d1 d2 d3:Option (Option Nat)} {n1 n2 n3:Nat} {l1 l2 l3:List Value} {v1 v2 v3:Value} {W W':World} (h:StR b S q b9 w room first uns vh bm bc c1 c2 c3 d1 d2 d3 n1 n2 n3 l1 l2 l3 v1 v2 v3 W) (hb:Below W.heap.size W W'):StR b S q b9 w room first uns vh bm bc c1 c2 c3 d1 d2 d3 n1 n2 n3 l1 l2 l3 v1 v2 v3 W':=
 ⟨h.g,h.t.below h.g.1 h.g.2.1 h.g.2.2 hb,h.m.below hb,h.c.below hb,h.p1.below hb,h.p2.below hb,h.p3.below hb⟩
theorem StR.al1 {b:Nat} {S:Nat→Prop} {q b9:Nat} {w:World} {room first uns:Int} {vh:Value} {bm bc:Nat} {c1 c2 c3:Array Value} {d2 d3:Option (Option Nat)} {n1 n2 n3:Nat} {l1 l2 l3:List Value} {v1 v2 v3:Value} {W:World} (h:StR b S q b9 w room first uns vh bm bc c1 c2 c3 none d2 d3 n1 n2 n3 l1 l2 l3 v1 v2 v3 W):∃ (d:Nat) (W':World),W.heap.size = d∧W.alloc (.cells c1 79) = W'∧StR b S q b9 w room first uns vh bm bc c1 c2 c3 (some (some d)) d2 d3 n1 n2 n3 l1 l2 l3 v1 v2 v3 W':=by
 have hb:Below W.heap.size W (W.alloc (.cells c1 79)):=(Below.refl _ _).alloc (nl_ _) _
 have hn:(W.alloc (.cells c1 79)).heap[W.heap.size]? = some (.cells c1 79 (0,0)):=ha_ _ _
 have k:=h.below hb
 exact ⟨_,_,rfl,rfl,k.g,k.t,k.m,k.c,h.t.pd hn,k.p2,k.p3⟩
theorem StR.al2 {b:Nat} {S:Nat→Prop} {q b9:Nat} {w:World} {room first uns:Int} {vh:Value} {bm bc:Nat} {c1 c2 c3:Array Value} {d1 d3:Option (Option Nat)} {n1 n2 n3:Nat} {l1 l2 l3:List Value} {v1 v2 v3:Value} {W:World} (h:StR b S q b9 w room first uns vh bm bc c1 c2 c3 d1 none d3 n1 n2 n3 l1 l2 l3 v1 v2 v3 W):∃ (d:Nat) (W':World),W.heap.size = d∧W.alloc (.cells c2 3) = W'∧StR b S q b9 w room first uns vh bm bc c1 c2 c3 d1 (some (some d)) d3 n1 n2 n3 l1 l2 l3 v1 v2 v3 W':=by
 have hb:Below W.heap.size W (W.alloc (.cells c2 3)):=(Below.refl _ _).alloc (nl_ _) _
 have hn:(W.alloc (.cells c2 3)).heap[W.heap.size]? = some (.cells c2 3 (0,0)):=ha_ _ _
 have k:=h.below hb
 exact ⟨_,_,rfl,rfl,k.g,k.t,k.m,k.c,k.p1,h.t.pd hn,k.p3⟩
theorem StR.al3 {b:Nat} {S:Nat→Prop} {q b9:Nat} {w:World} {room first uns:Int} {vh:Value} {bm bc:Nat} {c1 c2 c3:Array Value} {d1 d2:Option (Option Nat)} {n1 n2 n3:Nat} {l1 l2 l3:List Value} {v1 v2 v3:Value} {W:World} (h:StR b S q b9 w room first uns vh bm bc c1 c2 c3 d1 d2 none n1 n2 n3 l1 l2 l3 v1 v2 v3 W):∃ (d:Nat) (W':World),W.heap.size = d∧W.alloc (.cells c3 81) = W'∧StR b S q b9 w room first uns vh bm bc c1 c2 c3 d1 d2 (some (some d)) n1 n2 n3 l1 l2 l3 v1 v2 v3 W':=by
 have hb:Below W.heap.size W (W.alloc (.cells c3 81)):=(Below.refl _ _).alloc (nl_ _) _
 have hn:(W.alloc (.cells c3 81)).heap[W.heap.size]? = some (.cells c3 81 (0,0)):=ha_ _ _
 have k:=h.below hb
 exact ⟨_,_,rfl,rfl,k.g,k.t,k.m,k.c,k.p1,k.p2,h.t.pd hn⟩
theorem StR.ap1 {b:Nat} {S:Nat→Prop} {q b9:Nat} {w:World} {room first uns:Int} {vh:Value} {bm bc:Nat} {c1 c2 c3:Array Value} {d2 d3:Option (Option Nat)} {n1 n2 n3:Nat} {l1 l2 l3:List Value} {v1 v2 v3:Value} {W:World} {d:Nat} (h:StR b S q b9 w room first uns vh bm bc c1 c2 c3 (some (some d)) d2 d3 n1 n2 n3 l1 l2 l3 v1 v2 v3 W) (hs:c1.size = 6∧(c1.toList.all Value.oneCell') = true) (hn:n1 ≤ 1000):∃ (a:Option Addr) (c:Nat) (W':World),(Builtin.append_ #[23,23] 23 #[v1, .slice (some ⟨d,0,none⟩) 1 1]).run Tryz.prog W = .ok (.slice a (n1 + 1) c) W'∧StR b S q b9 w room first uns vh bm bc c1 c2 c3 (some none) d2 d3 (n1 + 1) n2 n3 (l1 ++ c1.toList) l2 l3 (.slice a (n1 + 1) c) v2 v3 W':=by
 obtain ⟨i0,hi0,hy0,hy1,hy2⟩:=info_parts Tryz.info79m
 have hp:Pd v1 v2 v3 d (.cells c1 79 (0,0)) W:=h.p1
 have hb9:b9 < W.heap.size:=(ge_ h.t.c9).1
 obtain ⟨a,c,W',hr,ho,hg,hat⟩:=run_append_ao (P:=Tryz.prog) (w:=W) 23 23 (b9 + 1) 79 i0 _ 6 48 Tryz.underlying23 hi0 hy0 hy1 hy2 rfl (by omega) _ n1 _ h.t.o1 (some ⟨d,0,none⟩) 1 1 c1.toList (by simp [hs.1]) (fun h=>by cases h) (fun ad had=>by cases had;exact fun j u hj=>World.news_of_block (cs:=c1) (t:=79) (fr:=(0,0)) hp.h j u (by simpa using hj)) (fun u hu=>List.all_eq_true.1 hs.2 u hu) (by unfold maxLen;omega) (by omega) (by omega)
 exact ⟨a,c,W',hr,h.g,h.t.app1 h.g.1 h.g.2.1 h.g.2.2 ho hg hat,h.m.app1 hg hat,h.c.app1 hg hat,trivial,h.p2.app1 hg hat,h.p3.app1 hg hat⟩
theorem StR.ap2 {b:Nat} {S:Nat→Prop} {q b9:Nat} {w:World} {room first uns:Int} {vh:Value} {bm bc:Nat} {c1 c2 c3:Array Value} {d1 d3:Option (Option Nat)} {n1 n2 n3:Nat} {l1 l2 l3:List Value} {v1 v2 v3:Value} {W:World} {d:Nat} (h:StR b S q b9 w room first uns vh bm bc c1 c2 c3 d1 (some (some d)) d3 n1 n2 n3 l1 l2 l3 v1 v2 v3 W) (hs:c2.size = 1∧(c2.toList.all Value.oneCell') = true) (hn:n2 ≤ 1000):∃ (a:Option Addr) (c:Nat) (W':World),(Builtin.append_ #[27,27] 27 #[v2, .slice (some ⟨d,0,none⟩) 1 1]).run Tryz.prog W = .ok (.slice a (n2 + 1) c) W'∧StR b S q b9 w room first uns vh bm bc c1 c2 c3 d1 (some none) d3 n1 (n2 + 1) n3 l1 (l2 ++ c2.toList) l3 v1 (.slice a (n2 + 1) c) v3 W':=by
 obtain ⟨i0,hi0,hy0,hy1,hy2⟩:=info_parts Tryz.info3m
 have hp:Pd v1 v2 v3 d (.cells c2 3 (0,0)) W:=h.p2
 have hb9:b9 < W.heap.size:=(ge_ h.t.c9).1
 obtain ⟨a,c,W',hr,ho,hg,hat⟩:=run_append_ao (P:=Tryz.prog) (w:=W) 27 27 (b9 + 1) 3 i0 _ 1 8 Tryz.underlying27 hi0 hy0 hy1 hy2 rfl (by omega) _ n2 _ h.t.o2 (some ⟨d,0,none⟩) 1 1 c2.toList (by simp [hs.1]) (fun h=>by cases h) (fun ad had=>by cases had;exact fun j u hj=>World.news_of_block (cs:=c2) (t:=3) (fr:=(0,0)) hp.h j u (by simpa using hj)) (fun u hu=>List.all_eq_true.1 hs.2 u hu) (by unfold maxLen;omega) (by omega) (by omega)
 exact ⟨a,c,W',hr,h.g,h.t.app2 h.g.1 h.g.2.1 h.g.2.2 ho hg hat,h.m.app2 hg hat,h.c.app2 hg hat,h.p1.app2 hg hat,trivial,h.p3.app2 hg hat⟩
theorem StR.ap3 {b:Nat} {S:Nat→Prop} {q b9:Nat} {w:World} {room first uns:Int} {vh:Value} {bm bc:Nat} {c1 c2 c3:Array Value} {d1 d2:Option (Option Nat)} {n1 n2 n3:Nat} {l1 l2 l3:List Value} {v1 v2 v3:Value} {W:World} {d:Nat} (h:StR b S q b9 w room first uns vh bm bc c1 c2 c3 d1 d2 (some (some d)) n1 n2 n3 l1 l2 l3 v1 v2 v3 W) (hs:c3.size = 2∧(c3.toList.all Value.oneCell') = true) (hn:n3 ≤ 1000):∃ (a:Option Addr) (c:Nat) (W':World),(Builtin.append_ #[28,28] 28 #[v3, .slice (some ⟨d,0,none⟩) 1 1]).run Tryz.prog W = .ok (.slice a (n3 + 1) c) W'∧StR b S q b9 w room first uns vh bm bc c1 c2 c3 d1 d2 (some none) n1 n2 (n3 + 1) l1 l2 (l3 ++ c3.toList) v1 v2 (.slice a (n3 + 1) c) W':=by
 obtain ⟨i0,hi0,hy0,hy1,hy2⟩:=info_parts Tryz.info81m
 have hp:Pd v1 v2 v3 d (.cells c3 81 (0,0)) W:=h.p3
 have hb9:b9 < W.heap.size:=(ge_ h.t.c9).1
 obtain ⟨a,c,W',hr,ho,hg,hat⟩:=run_append_ao (P:=Tryz.prog) (w:=W) 28 28 (b9 + 1) 81 i0 _ 2 16 Tryz.underlying28 hi0 hy0 hy1 hy2 rfl (by omega) _ n3 _ h.t.o3 (some ⟨d,0,none⟩) 1 1 c3.toList (by simp [hs.1]) (fun h=>by cases h) (fun ad had=>by cases had;exact fun j u hj=>World.news_of_block (cs:=c3) (t:=81) (fr:=(0,0)) hp.h j u (by simpa using hj)) (fun u hu=>List.all_eq_true.1 hs.2 u hu) (by unfold maxLen;omega) (by omega) (by omega)
 exact ⟨a,c,W',hr,h.g,h.t.app3 h.g.1 h.g.2.1 h.g.2.2 ho hg hat,h.m.app3 hg hat,h.c.app3 hg hat,h.p1.app3 hg hat,h.p2.app3 hg hat,trivial⟩
theorem StR.done {b:Nat} {S:Nat→Prop} {q b9:Nat} {w:World} {room first uns:Int} {vh:Value} {bm bc:Nat} {c1 c2 c3:Array Value} {d1 d2 d3:Option (Option Nat)} {n1 n2 n3:Nat} {l1 l2 l3:List Value} {v1 v2 v3:Value} {W:World} (h:StR b S q b9 w room first uns vh bm bc c1 c2 c3 d1 d2 d3 n1 n2 n3 l1 l2 l3 v1 v2 v3 W) (hb:bm ≠ b9∧bc ≠ b9):∃ W',W.setCell ⟨b9,3,none⟩ v1 = W'∧MdT b S q b9 w room first uns v1 n1 n2 n3 l1 l2 l3 v1 v2 v3 W'∧W'.heap[bm]? = some (.cells c1 79 (0,0))∧W'.heap[bc]? = some (.cells c3 81 (0,0)):=by
 have hk:Keep (· = b9) W (W.setCell ⟨b9,3,none⟩ v1):=Keep.setCell (O:=(· = b9)) (p:=⟨b9,3,none⟩) rfl
 exact ⟨_,rfl,h.t.store h.g.1 h.g.2.1 h.g.2.2 rfl,(hk.block bm h.m.lt hb.1).trans h.m.h,(hk.block bc h.c.lt hb.2).trans h.c.h⟩
section
variable {F:Fence} {n:Nat} {P:Program} {ops:Array Oper} {Q:Exit→Act→World→Prop} {md:Region.Mode} {S:Array Bool→World→Prop}
theorem wp_then {P:Program} {c:Code} {Q:Exit→Act→World→Prop} {a:Act} {w:World} (h:c.wp P (Exit.then (fun a w=>Q .normal a w) Q) a w):c.wp P Q a w:=wp_mono h (fun e a w hq=>by cases e <;> exact hq)
theorem qZ_ {i j:Nat} {oi oj:Oper} {fuel:Nat} {listed:Array Bool} {a:Act} {w:World} (hr:Region.ready md ops listed = [i,j]) (hi:ops[i]? = some oi) (hj:ops[j]? = some oj)
 (hwi:Region.wanted oi (yielded ops a.tmps) = true) (hwj:Region.wanted oj (yielded ops a.tmps) = true)
 (h1:∀ K:Act→World→Prop,(∀ a w,S (listed.setIfInBounds i true) w∧vg_ F n P md ops Q S fuel (listed.setIfInBounds i true) a w→K a w)→Oper.wpIn F n P oi a w K Q)
 (h2:∀ K:Act→World→Prop,(∀ a w,S (listed.setIfInBounds j true) w∧vg_ F n P md ops Q S fuel (listed.setIfInBounds j true) a w→K a w)→Oper.wpIn F n P oj a w K Q):vg_ F n P md ops Q S (fuel + 1) listed a w:=
 ⟨fun h0=>(by rw [hr] at h0;cases h0),hr ▸ fun k hk=>by
   simp only [List.mem_cons,List.not_mem_nil,or_false] at hk
   rcases hk with rfl | rfl
   · unfold wpOpIn
     rw [hi]
     simp only [hwi,if_true]
     exact h1 _ fun _ _ h=>h
   · unfold wpOpIn
     rw [hj]
     simp only [hwj,if_true]
     exact h2 _ fun _ _ h=>h⟩
theorem vG_ {i j k:Nat} {oi oj ok:Oper} {fuel:Nat} {listed:Array Bool} {a:Act} {w:World} (hr:Region.ready md ops listed = [i,j,k]) (hi:ops[i]? = some oi) (hj:ops[j]? = some oj) (hk:ops[k]? = some ok)
 (hwi:Region.wanted oi (yielded ops a.tmps) = true) (hwj:Region.wanted oj (yielded ops a.tmps) = true) (hwk:Region.wanted ok (yielded ops a.tmps) = true)
 (h1:∀ K:Act→World→Prop,(∀ a w,S (listed.setIfInBounds i true) w∧vg_ F n P md ops Q S fuel (listed.setIfInBounds i true) a w→K a w)→Oper.wpIn F n P oi a w K Q)
 (h2:∀ K:Act→World→Prop,(∀ a w,S (listed.setIfInBounds j true) w∧vg_ F n P md ops Q S fuel (listed.setIfInBounds j true) a w→K a w)→Oper.wpIn F n P oj a w K Q)
 (h3:∀ K:Act→World→Prop,(∀ a w,S (listed.setIfInBounds k true) w∧vg_ F n P md ops Q S fuel (listed.setIfInBounds k true) a w→K a w)→Oper.wpIn F n P ok a w K Q):vg_ F n P md ops Q S (fuel + 1) listed a w:=
 ⟨fun h0=>(by rw [hr] at h0;cases h0),hr ▸ fun m hm=>by
   simp only [List.mem_cons,List.not_mem_nil,or_false] at hm
   rcases hm with rfl | rfl | rfl
   · unfold wpOpIn
     rw [hi]
     simp only [hwi,if_true]
     exact h1 _ fun _ _ h=>h
   · unfold wpOpIn
     rw [hj]
     simp only [hwj,if_true]
     exact h2 _ fun _ _ h=>h
   · unfold wpOpIn
     rw [hk]
     simp only [hwk,if_true]
     exact h3 _ fun _ _ h=>h⟩
end
end Go.Proofs.LB