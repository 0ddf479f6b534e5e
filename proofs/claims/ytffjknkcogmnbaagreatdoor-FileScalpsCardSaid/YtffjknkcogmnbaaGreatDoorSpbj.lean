/- Parts of the proof of a law of layer 11 (file): LbF4. The conditions stand in each theorem. -/
import Derived.Test.YtffjknkcogmnbaaGreatDoorProg
import Derived.Test.YtffjknkcogmnbaaGreatDoorSpbf
import Derived.Test.YtffjknkcogmnbaaGreatDoorSpbi
set_option linter.all false
set_option linter.unusedVariables false
set_option linter.unusedSimpArgs false
namespace Go.Proofs.LS
open Go.RowKit Go.Sort Go.Proofs.LF Go.Proofs.LB
set_option maxHeartbeats 4000000
set_option maxRecDepth 100000
attribute [local go_sem] q1_ q2_ q6_
structure Mk0 (b:Nat) (Sq:Nat→Prop) (w:World) (b6 b8:Nat) (vs vc:Value) (W:World):Prop where
 hp:Hp b Sq W
 kp:Keep (· = b) w W
 c6:W.heap[b6]? = some (.cells #[.slice none 0 0, .slice none 0 0] 60 (0,0))
 c8:W.heap[b8]? = some (.cells #[vs,vc] 60 (0,0))
theorem Mk0.side {b:Nat} {Sq:Nat→Prop} {w:World} {b6 b8:Nat} {vs vc:Value} {W W':World} {O:Nat→Prop} (h:Mk0 b Sq w b6 b8 vs vc W) (hk:Keep O W W') (hO:∀ j,O j→b8 < j) (g:((∀ q,Sq q→q < b6)∧b < b6∧b6 < b8∧w.heap.size ≤ b6)):Mk0 b Sq w b6 b8 vs vc W':=by
 have l6:=(ge_ h.c6).1
 have l8:=(ge_ h.c8).1
 exact ⟨zV_ h.hp (fun q e=>by have:=g.1 q e;omega) hk (fun e=>by have:=hO b e;omega) (fun q e e2=>by have:=g.1 q e;have:=hO q e2;omega),h.kp.thenO hk (fun j hj => .inr (by have:=hO j hj;omega)),(hk.block b6 l6 (fun e=>by have:=hO b6 e;omega)).trans h.c6,(hk.block b8 l8 (fun e=>by have:=hO b8 e;omega)).trans h.c8⟩
theorem Mk0.below {b:Nat} {Sq:Nat→Prop} {w:World} {b6 b8:Nat} {vs vc:Value} {W W':World} (h:Mk0 b Sq w b6 b8 vs vc W) (hb:Below W.heap.size W W') (g:((∀ q,Sq q→q < b6)∧b < b6∧b6 < b8∧w.heap.size ≤ b6)):Mk0 b Sq w b6 b8 vs vc W':=h.side (O:=fun _=>False) (Keep.of_below hb) (fun _ e=>e.elim) g
theorem Mk0.call {b:Nat} {Sq:Nat→Prop} {w:World} {b6 b8:Nat} {vs vc:Value} {W W':World} (h:Mk0 b Sq w b6 b8 vs vc W) (hk:Keep (· = b) W W') (hp:Hp b Sq W') (g:((∀ q,Sq q→q < b6)∧b < b6∧b6 < b8∧w.heap.size ≤ b6)):Mk0 b Sq w b6 b8 vs vc W':=by
 have l6:=(ge_ h.c6).1
 have l8:=(ge_ h.c8).1
 exact ⟨hp,h.kp.trans hk,(hk.block b6 l6 (by omega)).trans h.c6,(hk.block b8 l8 (by omega)).trans h.c8⟩
theorem Mk0.st0 {b:Nat} {Sq:Nat→Prop} {w:World} {b6 b8:Nat} {vs vc:Value} {W W':World} {v:Value} (h:Mk0 b Sq w b6 b8 vs vc W) (hW:W.setCell ⟨b8,0,none⟩ v = W') (g:((∀ q,Sq q→q < b6)∧b < b6∧b6 < b8∧w.heap.size ≤ b6)):Mk0 b Sq w b6 b8 v vc W'∧Keep (· = b8) W W':=by
 have l6:=(ge_ h.c6).1
 have l8:=(ge_ h.c8).1
 have hk:Keep (· = b8) W W':=by rw [← hW];exact Keep.setCell (O:=(· = b8)) (p:=⟨b8,0,none⟩) rfl
 exact ⟨⟨zV_ h.hp (fun q e=>by have:=g.1 q e;omega) hk (by omega) (fun q e=>by have:=g.1 q e;omega),h.kp.thenO hk (fun j hj => .inr (by omega)),(hk.block b6 l6 (by omega)).trans h.c6,by rw [← hW];exact (q4_ h.c8).trans (by rfl)⟩,hk⟩
theorem Mk0.st1 {b:Nat} {Sq:Nat→Prop} {w:World} {b6 b8:Nat} {vs vc:Value} {W W':World} {v:Value} (h:Mk0 b Sq w b6 b8 vs vc W) (hW:W.setCell ⟨b8,1,none⟩ v = W') (g:((∀ q,Sq q→q < b6)∧b < b6∧b6 < b8∧w.heap.size ≤ b6)):Mk0 b Sq w b6 b8 vs v W'∧Keep (· = b8) W W':=by
 have l6:=(ge_ h.c6).1
 have l8:=(ge_ h.c8).1
 have hk:Keep (· = b8) W W':=by rw [← hW];exact Keep.setCell (O:=(· = b8)) (p:=⟨b8,1,none⟩) rfl
 exact ⟨⟨zV_ h.hp (fun q e=>by have:=g.1 q e;omega) hk (by omega) (fun q e=>by have:=g.1 q e;omega),h.kp.thenO hk (fun j hj => .inr (by omega)),(hk.block b6 l6 (by omega)).trans h.c6,by rw [← hW];exact (q4_ h.c8).trans (by rfl)⟩,hk⟩
def stn (t:Int):St:=⟨t,0,0,0,0,0,0⟩
structure ShF (S:List St) (C:List Sp) (R:List (List Nat)):Prop where
 len:R.length = C.length
 row:∀ l ∈ R,l.length = S.length∧∀ n ∈ l,n ≤ 4
 rch:∀ t k n,(R.getD t [])[k]? = some n→0 < n→rch S t k = true
 car:∀ t x,C[t]? = some x→x.lo ≤ (((R.getD t []).sum:Nat):Int)∧(((R.getD t []).sum:Nat):Int) ≤ x.hi
 gon:∀ k x,S[k]? = some x→(qU_ x).lo ≤ (((R.map fun l=>l.getD k 0).sum:Nat):Int)∧(((R.map fun l=>l.getD k 0).sum:Nat):Int) ≤ (qU_ x).hi
def RlR (T:Nat→Prop) (W:World) (br K:Nat) (vals:List Value) (R:List (List Nat)):Prop:=vals.length = R.length∧∀ (t:Nat) (l:List Nat),R[t]? = some l→∃ (a:Option Addr) (c:Nat),vals[t]? = some (.slice a K c)∧SlC T W 1 (.slice a K c) K (iv l)
theorem RlR.agree {T:Nat→Prop} {W W':World} {br K:Nat} {vals:List Value} {R:List (List Nat)} (h:RlR T W br K vals R) (ha:qd_ T W W'):RlR T W' br K vals R:=⟨h.1,fun t l hl=>let ⟨a,c,h1,h2⟩:=h.2 t l hl;⟨a,c,h1,h2.agree ha⟩⟩
theorem RlR.wide {T T':Nat→Prop} {W:World} {br K:Nat} {vals:List Value} {R:List (List Nat)} (h:RlR T W br K vals R) (hT:∀ q,T q→T' q):RlR T' W br K vals R:=⟨h.1,fun t l hl=>let ⟨a,c,h1,h2⟩:=h.2 t l hl;⟨a,c,h1,h2.wide hT⟩⟩
theorem made_nil (n:Nat):madeCells #[.slice none 0 0] n = (List.replicate n (Value.slice none 0 0)).toArray:=by
 refine Array.ext (by simp [madeCells]) fun i h1 h2=>?_
 simp [madeCells,Nat.mod_one]
def TR (br:Nat) (vc:Value) (n q:Nat):Prop:=br < q∧q < n∧vc.ownBlock ≠ some q
structure FcR (S0:List St) (K:Nat) (C:List Sp) (R:List (List Nat)):Prop where
 len:R.length = C.length
 row:∀ l ∈ R,l.length = K∧∀ n ∈ l,n ≤ 4
 rch:∀ t k n,(R.getD t [])[k]? = some n→0 < n→rch S0 t k = true
 car:∀ t x,C[t]? = some x→x.lo ≤ (((R.getD t []).sum:Nat):Int)∧(((R.getD t []).sum:Nat):Int) ≤ x.hi
 sp:∀ x ∈ C,0 ≤ x.lo∧x.lo ≤ x.hi∧x.hi ≤ 30
theorem j5_ {α:Type} (R:List α) (l d:α) (t:Nat):(R ++ [l]).getD t d = if t = R.length then l else R.getD t d:=by
 simp only [List.getD_eq_getElem?_getD]
 by_cases h:t < R.length
 · rw [List.getElem?_append_left h,if_neg (by omega)]
 · by_cases e:t = R.length
   · subst e;simp
   · rw [if_neg e,List.getElem?_append_right (by omega),List.getElem?_eq_none (by simp;omega),List.getElem?_eq_none (by omega)]
theorem FcR.snoc {S0:List St} {K:Nat} {C:List Sp} {R:List (List Nat)} {l:List Nat} {x:Sp} (h:FcR S0 K C R) (hl:l.length = K∧∀ n ∈ l,n ≤ 4) (hr:∀ k n,l[k]? = some n→0 < n→LS.rch S0 R.length k = true) (hx:0 ≤ x.lo∧x.lo ≤ ((l.sum:Nat):Int)∧((l.sum:Nat):Int) ≤ x.hi∧x.hi ≤ 30):FcR S0 K (C ++ [x]) (R ++ [l]):=by
 refine ⟨by simp [h.len],fun m hm=>?_,fun t k n hn h0=>?_,fun t y hy=>?_,fun y hy=>?_⟩
 · rcases List.mem_append.1 hm with h1 | h1
   · exact h.row m h1
   · obtain rfl:m = l:=by simpa using h1
     exact hl
 · rw [j5_] at hn
   split at hn
   · rename_i e;subst e;exact hr k n hn h0
   · exact h.rch t k n hn h0
 · rw [j5_]
   by_cases e:t = R.length
   · subst e
     rw [h.len,List.getElem?_append_right (nl_ _),Nat.sub_self] at hy
     obtain rfl:x = y:=by simpa using hy
     rw [if_pos rfl]
     omega
   · rw [if_neg e]
     have hlt:t < C.length:=by
      have:=(List.getElem?_eq_some_iff.1 hy).1
      have:=h.len
      simp at *;omega
     rw [List.getElem?_append_left hlt] at hy
     exact h.car t y hy
 · rcases List.mem_append.1 hy with h1 | h1
   · exact h.sp y h1
   · obtain rfl:y = x:=by simpa using h1
     omega
theorem y0_ (l:List Nat) (h:∀ n ∈ l,n ≤ 4):l.sum ≤ 4 * l.length:=by
 induction l with
 | nil=>simp
 | cons x r ih=>
   have h1:=ih fun n hn=>h n (by simp [hn])
   have h2:=h x (by simp)
   simp only [List.sum_cons,List.length_cons];omega
theorem kT_ {S:List St} {k:Nat} {x:St} (h:S[k]? = some x) (j:Nat) (u:Value) (hj:(stC x).toList[j]? = some u):(stL S)[k * 7 + j]? = some u:=by
 induction S generalizing k with
 | nil=>simp at h
 | cons y r ih=>
   have hj7:j < 7:=by have:=(List.getElem?_eq_some_iff.1 hj).1;simpa [stC] using this
   cases k with
   | zero=>
     obtain rfl:y = x:=by simpa using h
     rw [Nat.zero_mul,Nat.zero_add]
     show ((stC y).toList ++ stL r)[j]? = _
     rw [List.getElem?_append_left (by simpa [stC] using hj7)]
     exact hj
   | succ k=>
     have h1:=ih (k:=k) (by simpa using h)
     show ((stC y).toList ++ stL r)[(k + 1) * 7 + j]? = _
     rw [List.getElem?_append_right (by simp [stC];omega),show (k + 1) * 7 + j - (stC y).toList.length = k * 7 + j by simp [stC];omega]
     exact h1
def set6 (L:List Value) (i:Nat) (a b c d e f:Int):List Value:=(((((L.set i (.int .i64 a)).set (i + 1) (.int .i64 b)).set (i + 2) (.int .i64 c)).set (i + 3) (.int .i64 d)).set (i + 4) (.int .i64 e)).set (i + 5) (.int .i64 f)
theorem stL_set (a b c d e f:Int):∀ (S:List St) (k:Nat),k < S.length→set6 (stL S) (k * 7 + 1) a b c d e f = stL (S.set k ⟨(stX S k).t,a,b,c,d,e,f⟩)
 | [],k,h=>by simp at h
 | x :: r,0,_=>by simp [set6,stL,stC,stX]
 | x :: r,k + 1,h=>by
   have ih:=stL_set a b c d e f r k (by simpa using h)
   have s7:∀ (L:List Value) (m:Nat) (v:Value),((stC x).toList ++ L).set (m + 7) v = (stC x).toList ++ L.set m v:=fun L m v=>by
    rw [List.set_append_right _ _ (by simp [stC])]
    simp [stC]
   show set6 ((stC x).toList ++ stL r) ((k + 1) * 7 + 1) a b c d e f = _
   unfold set6 at ih ⊢
   rw [show (k + 1) * 7 + 1 = (k * 7 + 1) + 7 by omega,show k * 7 + 1 + 7 + 1 = (k * 7 + 1 + 1) + 7 by omega,show k * 7 + 1 + 7 + 2 = (k * 7 + 1 + 2) + 7 by omega,show k * 7 + 1 + 7 + 3 = (k * 7 + 1 + 3) + 7 by omega,show k * 7 + 1 + 7 + 4 = (k * 7 + 1 + 4) + 7 by omega,show k * 7 + 1 + 7 + 5 = (k * 7 + 1 + 5) + 7 by omega,s7,s7,s7,s7,s7,s7,ih]
   rfl
theorem rch_congr {S S':List St} (hl:S.length = S'.length) (h:∀ i,(stX S i).t = (stX S' i).t) (t k:Nat):rch S t k = rch S' t k:=by
 unfold rch
 rw [hl]
 congr 1
 funext i
 have:=h i
 unfold stX at this
 rw [this]
theorem set_row6 {W W':World} {B g n c k:Nat} {S:List St} {a1 a2 a3 a4 a5 a6:Int} (h:W.ownsRow B 72 7 (.slice (some ⟨g,0,none⟩) n c) n (stL S)) (hn:S.length = n) (hk:k < n) (hW:(((((W.setCell ⟨g,k * 7 + 1,none⟩ (.int .i64 a1)).setCell ⟨g,k * 7 + 1 + 1,none⟩ (.int .i64 a2)).setCell ⟨g,k * 7 + 3,none⟩ (.int .i64 a3)).setCell ⟨g,k * 7 + 3 + 1,none⟩ (.int .i64 a4)).setCell ⟨g,k * 7 + 5,none⟩ (.int .i64 a5)).setCell ⟨g,k * 7 + 5 + 1,none⟩ (.int .i64 a6) = W') :
 W'.ownsRow B 72 7 (.slice (some ⟨g,0,none⟩) n c) n (stL (S.set k ⟨(stX S k).t,a1,a2,a3,a4,a5,a6⟩))∧Keep (· = g) W W':=by
 have h1:=(qZ_ h (i:=k * 7 + 1) (u := .int .i64 a1) (by omega)).1
 have h2:=(qZ_ h1 (i:=k * 7 + 1 + 1) (u := .int .i64 a2) (by omega)).1
 have h3:=(qZ_ h2 (i:=k * 7 + 3) (u := .int .i64 a3) (by omega)).1
 have h4:=(qZ_ h3 (i:=k * 7 + 3 + 1) (u := .int .i64 a4) (by omega)).1
 have h5:=(qZ_ h4 (i:=k * 7 + 5) (u := .int .i64 a5) (by omega)).1
 have h6:=(qZ_ h5 (i:=k * 7 + 5 + 1) (u := .int .i64 a6) (by omega)).1
 rw [hW] at h6
 refine ⟨?_,?_⟩
 · rw [← stL_set a1 a2 a3 a4 a5 a6 S k (by omega)]
   exact h6
 · rw [← hW]
   exact (((((Keep.setCell (O:=(· = g)) (A:=W) (p:=⟨g,k * 7 + 1,none⟩) rfl).trans (Keep.setCell (p:=⟨g,k * 7 + 1 + 1,none⟩) rfl)).trans (Keep.setCell (p:=⟨g,k * 7 + 3,none⟩) rfl)).trans (Keep.setCell (p:=⟨g,k * 7 + 3 + 1,none⟩) rfl)).trans (Keep.setCell (p:=⟨g,k * 7 + 5,none⟩) rfl)).trans (Keep.setCell (p:=⟨g,k * 7 + 5 + 1,none⟩) rfl)
theorem jI_ {fn:Func} {p u:Tmp} {ty:TypeId} (h:fn.results = #[.cell p ty, .tmp u]) (tmps:Array Value) (P:Program) (w:World):(results fn tmps).run P w = ((asAddr (tmps.getD p undef)).run P w).andThen fun a w₁=>((loadVar ty a).run P w₁).andThen fun x w₂ => .ok (.tuple #[x,tmps.getD u undef]) w₂:=by
 simp only [results,h]
 simp [Sem.run_bind,Result.andThen]
theorem ret60u {fn:Func} {p u:Tmp} (hr:fn.results = #[.cell p 60, .tmp u]) {tmps:Array Value} {W:World} {q:Nat} {a b x:Value} (h:W.heap[q]? = some (.cells #[a,b] 60 (0,0))) (h1:tmps.getD p undef = .pointer (some ⟨q,0,none⟩)) (h2:tmps.getD u undef = x):(results fn tmps).run Tryz.prog W = .ok (.tuple #[.agg #[a,b],x]) W:=by
 have e0:=cg_ h (k:=0) rfl
 have e1:=cg_ h (k:=1) rfl
 rw [jI_ hr,h1,h2]
 simp [go_sem,e0,e1]
def col (R:List (List Nat)) (k:Nat):Nat:=(R.map fun l=>l.getD k 0).sum
theorem col_le {R:List (List Nat)} {k:Nat} (h:∀ l ∈ R,∀ n ∈ l,n ≤ 4):col R k ≤ 4 * R.length:=by
 have:=y0_ (R.map fun l=>l.getD k 0) fun n hn=>by
  obtain ⟨l,hl,rfl⟩:=List.mem_map.1 hn
  rw [List.getD_eq_getElem?_getD]
  by_cases e:k < l.length
  · rw [List.getElem?_eq_getElem e];exact h l hl _ (List.getElem_mem e)
  · rw [List.getElem?_eq_none (by omega)];exact Nat.zero_le _
 simpa [col] using this
def CtS (x:St) (g:Nat):Prop:=(∀ y ∈ spL x,jq_ y = true∧y.lo ≤ y.hi)∧0 ≤ (qU_ x).hi∧(qU_ x).lo ≤ ((g:Nat):Int)∧((g:Nat):Int) ≤ (qU_ x).hi
theorem ctS {ten:Int} {g lf sd:Nat} {y1 y2 y3:Sp} (hs:sd ≤ g + lf) (h1:0 ≤ y1.lo∧y1.lo ≤ ((g + lf - sd:Nat):Int)∧((g + lf - sd:Nat):Int) ≤ y1.hi∧y1.hi ≤ 30) (h2:0 ≤ y2.lo∧y2.lo ≤ (sd:Int)∧(sd:Int) ≤ y2.hi∧y2.hi ≤ 30) (h3:0 ≤ y3.lo∧y3.lo ≤ (lf:Int)∧(lf:Int) ≤ y3.hi∧y3.hi ≤ 30):CtS ⟨ten,y1.lo,y1.hi,y2.lo,y2.hi,y3.lo,y3.hi⟩ g:=by
 have ok:∀ y:Sp,0 ≤ y.lo∧y.lo ≤ y.hi∧y.hi ≤ 30→jq_ y = true∧y.lo ≤ y.hi:=fun y hy=>by
  refine ⟨?_,hy.2.1⟩
  rw [jq_,Bool.and_eq_true,inI,inI,Bool.and_eq_true,Bool.and_eq_true]
  simp only [decide_eq_true_iff]
  omega
 refine ⟨fun y hy=>?_,?_,?_,?_⟩
 · simp only [spL,List.mem_cons,List.not_mem_nil,or_false] at hy
   rcases hy with rfl | rfl | rfl
   · exact ok _ ⟨by show 0 ≤ y1.lo;omega,by show y1.lo ≤ y1.hi;omega,by show y1.hi ≤ 30;omega⟩
   · exact ok _ ⟨by show 0 ≤ y2.lo;omega,by show y2.lo ≤ y2.hi;omega,by show y2.hi ≤ 30;omega⟩
   · exact ok _ ⟨by show 0 ≤ y3.lo;omega,by show y3.lo ≤ y3.hi;omega,by show y3.hi ≤ 30;omega⟩
 · show 0 ≤ y1.hi + y2.hi - y3.lo;omega
 · show max 0 (y1.lo + y2.lo - y3.hi) ≤ (g:Int);omega
 · show (g:Int) ≤ y1.hi + y2.hi - y3.lo;omega
theorem stX_set {S:List St} {k:Nat} {x:St} (h:k < S.length) (i:Nat):stX (S.set k x) i = if i = k then x else stX S i:=by
 unfold stX
 rw [List.getD_eq_getElem?_getD,List.getD_eq_getElem?_getD,List.getElem?_set]
 by_cases e:k = i
 · subst e;simp [h]
 · rw [if_neg e,if_neg (fun q=>e q.symm)]
theorem Tryz.info27r:(Tryz.prog.info? 27).map (fun i=>(i.zero,i.size,i.bytes)) = some (some (.slice none 0 0),1,24):=by kernel_rfl
theorem Tryz.info3r:(Tryz.prog.info? 3).map (fun i=>(i.zero,i.size,i.bytes)) = some (some (.int .i64 0),1,8):=by kernel_rfl
def Mk9 (b:Nat) (w:World) (e:Ending) (w':World):Prop:=∃ (S:List St) (C:List Sp) (R:List (List Nat)) (as_ ac:Option Addr) (cs_ cc br cr:Nat) (vals:List Value),e = .returned (.tuple #[.agg #[.slice as_ S.length cs_, .slice ac C.length cc], .slice (some ⟨br,0,none⟩) C.length cr])∧OkSc S C∧ShF S C R ∧
 LSl v3_ (fun q=>q < w'.heap.size) w' (.slice as_ S.length cs_) S∧LSl vO_ (fun q=>q < w'.heap.size) w' (.slice ac C.length cc) C∧w'.heap[br]? = some (.cells vals.toArray 27 (0,0))∧RlR (fun q=>q < w'.heap.size) w' br S.length vals R∧Keep (· = b) w w'
theorem wk_ (b:Nat) (Sq:Nat→Prop) (w:World) (h:Hp b Sq w) (hS:∀ q,Sq q→q < w.heap.size) :
 Calls Tryz.prog 16 #[.pointer (some ⟨b,0,none⟩), .int .i64 5, .int .i64 4] w (Mk9 b w):=by
 have hbl:b < w.heap.size:=by obtain ⟨a,l,c,nx,rd,h1,_⟩:=h;exact (ge_ h1).1
 obtain ⟨w1,hw1⟩:∃ y,(w.alloc (.cells #[.slice none 0 0, .slice none 0 0] 60)).alloc (.cells #[.slice none 0 0, .slice none 0 0] 60) = y:=⟨_,rfl⟩
 have hb1:Below w.heap.size w w1:=by rw [← hw1];exact ((Below.refl _ _).alloc (nl_ _) _).alloc (by simp) _
 have n6:w1.heap[w.heap.size]? = some (.cells #[.slice none 0 0, .slice none 0 0] 60 (0,0)):=by rw [← hw1];exact qc_ _ (ha_ _ _)
 have n8:w1.heap[w.heap.size + 1]? = some (.cells #[.slice none 0 0, .slice none 0 0] 60 (0,0)):=by rw [← hw1];have:=ha_ (w.alloc (.cells #[.slice none 0 0, .slice none 0 0] 60)) (.cells #[.slice none 0 0, .slice none 0 0] 60);simpa using this
 obtain ⟨b6,hb6⟩:∃ y,w.heap.size = y:=⟨_,rfl⟩
 obtain ⟨b8,hb8⟩:∃ y,b6 + 1 = y:=⟨_,rfl⟩
 have HB6:=hid hb6
 have G:=hid (show ((∀ q,Sq q→q < b6)∧b < b6∧b6 < b8∧w.heap.size ≤ b6) from ⟨fun q hq=>hb6 ▸ hS q hq,by omega,by omega,by omega⟩)
 have H1:=zV_ h hS (Keep.of_below (O:=fun _=>False) hb1) (fun e=>e) (fun _ _ e=>e)
 have K1:Keep (· = b) w w1:=Keep.of_below hb1
 rw [hb6] at n6 n8
 rw [hb8] at n8
 have hb68:b < b6∧b6 < b8:=by omega
 have M1:=hid (show Mk0 b Sq w b6 b8 (.slice none 0 0) (.slice none 0 0) w1 from ⟨H1,K1,n6,n8⟩)
 have F1:=hid (jZ_ b Sq w1 1 5 (by omega) (by omega) (by omega) H1)
 clear h hS hb1 n6 n8 H1 K1 hbl
 go_enter Tryz.func16,Tryz.ntmps16
 go_upto_region 2 with fail
 try rw [hw1]
 try simp only [hb6,hb8]
 clear hw1 hb6 hb8
 go_wp2_with fail
 refine F1.out.mono ?_
 rintro e w2 ⟨kk,rfl,hkk,hp2,hk2⟩
 obtain ⟨K,rfl⟩:∃ n:Nat,kk = (n:Int):=⟨kk.toNat,by omega⟩
 have M2:=hid (M1.out.call hk2 hp2 G.out)
 have F2:=hid (jZ_ b Sq w2 1 4 (by omega) (by omega) (by omega) hp2)
 clear F1 M1 hp2 hk2
 go_wp2_with fail
 refine F2.out.mono ?_
 rintro e w3 ⟨ll,rfl,hll,hp3,hk3⟩
 obtain ⟨L,rfl⟩:∃ n:Nat,ll = (n:Int):=⟨ll.toNat,by omega⟩
 have M3:=hid (M2.out.call hk3 hp3 G.out)
 clear F2 M2 hp3 hk3
 go_wp2_with fail
 go_loopw [29] (fun vi wr=>∃ (k:Nat) (S0:List St) (vs:Value),k ≤ K∧vi = .int .i64 k∧Hid (S0.length = k∧∀ x ∈ S0,∃ n:Nat,n < L∧x = stn n)∧Hid (Mk0 b Sq w b6 b8 vs (.slice none 0 0) wr)∧Hid (wr.ownsRow (b8 + 1) 72 7 vs k (stL S0))) (fun vi _=>K - (intOf vi).toNat)
 case atStart=>exact ⟨0,[],_,by omega,rfl,hid ⟨rfl,fun x hx=>by cases hx⟩,M3,hid (World.ownsRow_nil _ _ _ _)⟩
 case round=>
  clear M3
  obtain ⟨k,S0,vs,hk,rfl,HS0,HM,HO⟩:=hrel
  by_cases hlt:k < K
  · have hlt':(k:Int) < (K:Int):=by omega
    have hin:IntKind.i64.wrap ((k:Int) + 1) = (k:Int) + 1:=IntWalk.i64_in _ (by omega)
    have hsu:IntKind.i64.wrap ((L:Int) - 1) = ((L - 1:Nat):Int):=by rw [show (L:Int) - 1 = ((L - 1:Nat):Int) by omega];exact IntWalk.i64_in _ (by omega)
    obtain ⟨sa,sc,rfl,hsc1,hsc2⟩:=owns_shape HO.out
    go_upto_region 5 with fail
    obtain ⟨x0,hx0⟩:∃ y,wr.drew = y:=⟨_,rfl⟩
    have hbd:Below wr.heap.size wr x0:=by rw [← hx0];exact (Below.refl _ _).drew
    have M0:=hid (HM.out.below hbd G.out)
    have O0:=hid (ob_ HO.out hbd (nl_ _))
    have U1:=hid (zi_ b Sq x0 (L - 1) (by omega) M0.out.hp)
    have SC:=hid (fun (V:World) (v:Value) (h:Mk0 b Sq w b6 b8 (.slice sa k sc) v V)=>(show V.cell? ⟨b8,0,none⟩ = some (.slice sa k sc) from cg_ h.c8 (k:=0) rfl))
    have hS0:=SC.out x0 _ M0.out
    refine (wpIn_wide (n:=9)).1 ?_
    refine zh_ (fun V:World=>V.cell? ⟨b8,0,none⟩ = some (.slice sa k sc)) 10 (by kernel_rfl) ?_
    rw [hx0]
    clear hx0 hbd HM HO
    refine tkT 0 31 (.pointer (some ⟨b8,0,none⟩)) rfl rfl hS0 (fun w' hs=>?_) ?_
    · go_simp
    refine tkT 1 32 (.slice sa k sc) rfl rfl hS0 (fun w' hs=>?_) ?_
    · go_simp
    refine tkT 2 33 (.pointer (some ⟨b,0,none⟩)) rfl rfl hS0 (fun w' hs=>?_) ?_
    · go_simp
    refine tkT 3 34 (.int .i64 L) rfl rfl hS0 (fun w' hs=>?_) ?_
    · go_simp
    refine tkT 4 35 (.int .i64 ((L - 1:Nat):Int)) rfl rfl hS0 (fun w' hs=>?_) ?_
    · go_simp
    refine qg_ (i:=5) (by kernel_rfl) rfl (by kernel_rfl) (by decide) (fun K hK=>?_)
    go_simp
    refine ⟨trivial,(callsIn_wide.2 U1.out).mono ?_⟩
    rintro e x1 ⟨tt,rfl,htt,hp1,hk1⟩
    have M1:=hid (M0.out.call hk1 hp1 G.out)
    have O1:=hid (owns_agree O0.out fun g hg=>hk1.block g (O0.out.lt g hg).2 (by have:=(O0.out.lt g hg).1;omega))
    have hS1:=SC.out x1 _ M1.out
    refine hK _ _ ⟨hS1,?_⟩
    clear hK U1 M0 O0 hS0 hp1 hk1
    refine tkT 6 37 (.agg #[.int .i64 tt, .int .i64 0, .int .i64 0, .int .i64 0, .int .i64 0, .int .i64 0, .int .i64 0]) rfl rfl hS1 (fun w' hs=>?_) ?_
    · go_simp
    refine qg_ (i:=7) (by kernel_rfl) rfl (by kernel_rfl) (by decide) (fun K hK=>?_)
    go_simp
    obtain ⟨x2,hx2⟩:∃ y,x1.alloc (.cells #[.int .i64 tt, .int .i64 0, .int .i64 0, .int .i64 0, .int .i64 0, .int .i64 0, .int .i64 0] 72) = y:=⟨_,rfl⟩
    have hb2:Below x1.heap.size x1 x2:=by rw [← hx2];exact (Below.refl _ _).alloc (nl_ _) _
    have hn2:x2.heap[x1.heap.size]? = some (.cells #[.int .i64 tt, .int .i64 0, .int .i64 0, .int .i64 0, .int .i64 0, .int .i64 0, .int .i64 0] 72 (0,0)):=by rw [← hx2];exact ha_ _ _
    obtain ⟨bk,hbk⟩:∃ y,x1.heap.size = y:=⟨_,rfl⟩
    rw [hbk] at hn2
    rw [hx2]
    try simp only [hbk]
    have M2:=hid (M1.out.below hb2 G.out)
    have O2:=hid (ob_ O1.out hb2 (nl_ _))
    have hS2:=SC.out x2 _ M2.out
    refine hK _ _ ⟨hS2,?_⟩
    clear hK M1 O1 hS1 hx2 hb2 hbk
    obtain ⟨i0,hi0,hy0,hy1,hy2⟩:=info_parts Tryz.info72
    have hb8l:=(ge_ M2.out.c8).1
    refine qg_ (i:=8) (by kernel_rfl) rfl (by kernel_rfl) (by decide) (fun K hK=>?_)
    obtain ⟨a3,c3,x3,hr,ho3,hg3,hat3⟩:=run_append_ao (P:=Tryz.prog) (w:=x2) 58 58 (b8 + 1) 72 i0 _ 7 56 Tryz.underlying58 hi0 hy0 hy1 hy2 rfl (by omega) _ k _ O2.out (some ⟨bk,0,none⟩) 1 1 (stC (stn tt)).toList rfl (fun h=>by cases h) (fun ad had=>by cases had;exact fun j u hj=>World.news_of_block (cs:=#[.int .i64 tt, .int .i64 0, .int .i64 0, .int .i64 0, .int .i64 0, .int .i64 0, .int .i64 0]) (t:=72) (fr:=(0,0)) hn2 j u (by simpa [stC,stn] using hj)) (fun u hu=>one_st [stn tt] u (by simpa [stL] using hu)) (by unfold maxLen;omega) (by omega) (by omega)
    refine wa_ rfl rfl rfl hr ?_
    have hk3:Keep (fun j=>(Value.slice sa k sc).ownBlock = some j) x2 x3:=Keep.grown hg3 (fun b e=>e)
    have M3:=hid (M2.out.side hk3 (fun j hj=>by have:=(O2.out.lt j hj).1;omega) G.out)
    have O3:=hid (show x3.ownsRow (b8 + 1) 72 7 (.slice a3 (k + 1) c3) (k + 1) (stL (S0 ++ [stn tt])) by simpa [stL] using ho3)
    have hS3:=SC.out x3 _ M3.out
    refine hK _ _ ⟨hS3,?_⟩
    clear hK M2 O2 hS2 hr ho3 hg3 hat3 hk3 hn2 hb8l
    refine tkT 9 40 (.pointer (some ⟨b8,0,none⟩)) rfl rfl hS3 (fun w' hs=>?_) ?_
    · go_simp
    refine z1_ (by kernel_rfl) rfl (by kernel_rfl) (by kernel_rfl) (fun K hK=>?_)
    have z0:=cg_ M3.out.c8 (k:=0) (v := .slice sa k sc) rfl
    have f0:=cells_frz M3.out.c8 (k:=0)
    go_simp
    obtain ⟨x4,hx4⟩:∃ y,x3.setCell ⟨b8,0,none⟩ (.slice a3 (k + 1) c3) = y:=⟨_,rfl⟩
    obtain ⟨m4,k4⟩:=M3.out.st0 hx4 G.out
    have M4:=hid m4
    have O4:=hid (owns_agree O3.out fun g hg=>k4.block g (O3.out.lt g hg).2 (by have:=(O3.out.lt g hg).1;omega))
    rw [hx4]
    refine hK _ _ ?_
    clear hK M3 O3 hS3 z0 f0 hx4 m4 k4 SC
    go_simp
    go_wp2_with fail
    go_roundw
    case rel=>exact ⟨k + 1,S0 ++ [stn tt],_,by omega,by go_num,hid ⟨by simp [HS0.out.1],fun x hx=>by
     rcases List.mem_append.1 hx with h | h
     · exact HS0.out.2 x h
     · obtain rfl:x = stn tt:=by simpa using h
       exact ⟨tt,by omega,rfl⟩⟩,M4,O4⟩
    case measure=>simp [intOf];omega
  · have hkK:k = K:=by omega
    have hnl:¬ (k:Int) < (K:Int):=by omega
    have hS0l:=HS0.out.1
    obtain ⟨sa,sc,rfl,hsc1,hsc2⟩:=owns_shape HO.out
    rw [hkK] at hS0l HO HM
    have HSL:=hid hS0l
    have HST:=hid HS0.out.2
    have HOK:=hid (show wr.ownsRow (b8 + 1) 72 7 (.slice sa K sc) K (stL S0) from HO.out)
    have M0:=HM
    clear hkK hS0l HO HM HS0
    obtain ⟨i27,hi27,hy0,hy1,hy2⟩:=info_parts Tryz.info27r
    have MK:=zH_ (P:=Tryz.prog) 55 27 i27 _ Tryz.underlying55 hi27 hy0 .i64 .i64 L L (nl_ _) (by rw [hy2];omega) (by omega) wr
    rw [hy1,show (Value.slice none 0 0).cells = #[.slice none 0 0] from rfl,Nat.mul_one,made_nil] at MK
    go_upto_region 8 with fail
    obtain ⟨v0,hv0⟩:∃ y,wr.alloc (.cells (Array.replicate L (Value.slice none 0 0)) 27) = y:=⟨_,rfl⟩
    have hb0:Below wr.heap.size wr v0:=by rw [← hv0];exact (Below.refl _ _).alloc (nl_ _) _
    have hn0:v0.heap[wr.heap.size]? = some (.cells (List.replicate L (Value.slice none 0 0)).toArray 27 (0,0)):=by rw [← hv0];have:=ha_ wr (.cells (Array.replicate L (Value.slice none 0 0)) 27);simpa using this
    obtain ⟨br,hbr⟩:∃ y,wr.heap.size = y:=⟨_,rfl⟩
    have hsb:∀ g,(Value.slice sa K sc).ownBlock = some g→b8 < g∧g < br:=fun g hg=>by have:=HOK.out.lt g hg;omega
    have HSB:=hid hsb
    have hb8r:b8 < br:=by have:=(ge_ M0.out.c8).1;omega
    rw [hbr] at hn0
    try rw [hv0]
    try simp only [hbr]
    replace M0:=hid (M0.out.below hb0 G.out)
    replace HOK:=hid (ob_ HOK.out hb0 (nl_ _))
    have N0:=hid hn0
    clear hb0 hn0 hv0 hbr hsb MK
    go_wp2_with fail
    go_loopw [46] (fun vi wr=>∃ (t:Nat) (C:List Sp) (R:List (List Nat)) (vals:List Value) (vc:Value),t ≤ L∧vi = .int .i64 t∧Hid (C.length = t∧vals.length = t)∧Hid (FcR S0 K C R)∧Hid (Mk0 b Sq w b6 b8 (.slice sa K sc) vc wr)∧Hid (wr.heap[br]? = some (.cells (vals ++ List.replicate (L - t) (Value.slice none 0 0)).toArray 27 (0,0)))∧Hid (wr.ownsRow (b8 + 1) 72 7 (.slice sa K sc) K (stL S0))∧Hid (wr.ownsRow (br + 1) 35 2 vc t (zA_ C))∧Hid (RlR (TR br vc wr.heap.size) wr br K vals R)) (fun vi _=>L - (intOf vi).toNat)
    case atStart=>exact ⟨0,[],[],[],_,by omega,rfl,hid ⟨rfl,rfl⟩,hid ⟨rfl,(fun l hl=>by cases hl),(fun t k n hn=>by simp at hn),(fun t x hx=>by simp at hx),(fun x hx=>by cases hx)⟩,M0,hid (by simpa using N0.out),HOK,hid (World.ownsRow_nil _ _ _ _),hid ⟨rfl,(fun t l hl=>by simp at hl)⟩⟩
    case round=>
     clear M0 N0 HOK
     obtain ⟨t,C,R,vals,vc,htL,rfl,HCL,HF,HM,HN,HO,HC,HR⟩:=hrel
     obtain ⟨wo,hwo⟩:∃ y,y = wr:=⟨_,rfl⟩
     subst hwo
     obtain ⟨ca,cc,rfl,_,_⟩:=owns_shape HC.out
     by_cases hlt2:t < L
     · have hlt2':(0:Int) ≤ (t:Int)∧(t:Int) < (L:Int):=by omega
       have hrl:R.length = t:=by rw [HF.out.len,HCL.out.1]
       have HRL:=hid hrl
       have hNbr:br < wo.heap.size:=(ge_ HN.out).1
       have HVL:=hid HCL.out.2
       clear hrl
       go_wp2_with fail
       go_loopw [13,50] (fun vn vi wr=>∃ (k:Nat) (l:List Nat) (v:Value),k ≤ K∧vn = .int .i64 ((l.sum:Nat):Int)∧vi = .int .i64 k∧Hid (l.length = k)∧Hid ((∀ n ∈ l,n ≤ 4)∧∀ j n,l[j]? = some n→0 < n→rch S0 t j = true)∧Hid (Mk0 b Sq w b6 b8 (.slice sa K sc) (.slice ca t cc) wr)∧Hid (Keep (fun j=>j = b ∨ j = br) wo wr)∧Hid (wr.heap[br]? = some (.cells (vals ++ v :: List.replicate (L - t - 1) (Value.slice none 0 0)).toArray 27 (0,0)))∧Hid (wr.ownsRow wo.heap.size 3 1 v k (iv l))) (fun _ vi _=>K - (intOf vi).toNat)
       case atStart=>exact ⟨0,[],_,by omega,rfl,rfl,hid rfl,hid ⟨(fun n hn=>by cases hn),(fun j n hn=>by simp at hn)⟩,HM,hid (Keep.refl _ _),hid (by rw [HN.out,show L - t = (L - t - 1) + 1 by omega,List.replicate_succ];simp),hid (World.ownsRow_nil _ _ _ _)⟩
       case round=>
        obtain ⟨k,l,v,hk2,rfl,rfl,HLL,HLF,HM2,HK2,HN2,HV2⟩:=hrel
        by_cases hlt3:k < K
        · have hlt3':(0:Int) ≤ (k:Int)∧(k:Int) < (K:Int):=by omega
          have hKb:=HK2.out
          have HOS:=hid (owns_agree HO.out fun g hg=>hKb.block g (HO.out.lt g hg).2 (by have:=HSB.out g hg;omega))
          have hst:=yC_ (l:=S0) (v := .slice sa K sc) (by rw [HSL.out];exact HOS.out)
          have RE:=hid (show Calls Tryz.prog 53 #[.agg #[.slice sa K sc, .slice ca t cc], .int .i64 t, .int .i64 k] wr _ from by
           have h:=jf_ S0 t t k sa ca sc cc wr (by rw [HSL.out];exact hst) (by omega) (by omega) (by have:=HSL.out;omega)
           rw [HSL.out] at h
           exact h)
          obtain ⟨g,o,hsa,hg,p0,_⟩:=st_at hst (qI_ (S:=S0) (i:=k) (by have:=HSL.out;omega))
          have c80:=cg_ HM2.out.c8 (k:=0) (v := .slice sa K sc) rfl
          have c81:=cg_ HM2.out.c8 (k:=1) (v := .slice ca t cc) rfl
          obtain ⟨ten,hten⟩:∃ z,(stX S0 k).t = z:=⟨_,rfl⟩
          rw [hten] at p0
          subst hsa
          have hb8w:=(ge_ HM2.out.c8).1
          clear hst hKb
          go_upto_region 16 with fail
          go_cut [70] from 53 to 70 (fun vx wx=>∃ q:Bool,vx = .bool q∧(q = true→rch S0 t k = true)∧Hid (Mk0 b Sq w b6 b8 (.slice (some ⟨g,o,none⟩) K sc) (.slice ca t cc) wx)∧Hid (Keep (· = b) wr wx))
          case first=>
           go_wp2_with fail
           refine RE.out.mono ?_
           rintro e x1 ⟨rfl,hb⟩
           have c80':=bc_ hb hb8w c80
           have p0':=bc_ hb hg p0
           have M1:=hid (HM2.out.below hb G.out)
           have K1:=hid (show Keep (· = b) wr x1 from Keep.of_below hb)
           have ON:=hid (Once_any b Sq x1 3 (by omega) M1.out.hp)
           obtain ⟨q,hq⟩:∃ q,rch S0 t k = q:=⟨_,rfl⟩
           rw [hq]
           clear hb c80 c81 p0 RE
           cases q
           · go_wp2_with fail
             go_meet
             case rel=>exact ⟨false,rfl,(fun h=>by cases h),M1,K1⟩
           · by_cases he:ten = (t:Int)
             · have heb:(ten == (t:Int)) = true:=by simp [he]
               go_wp2_with fail
               go_meet
               case rel=>exact ⟨true,rfl,fun _=>hq,M1,K1⟩
             · have heb:(ten == (t:Int)) = false:=by simp [he]
               go_wp2_with fail
               refine ON.out.mono ?_
               rintro e x2 ⟨q2,rfl,hp,hk⟩
               have M2:=hid (M1.out.call hk hp G.out)
               have K2:=hid (K1.out.trans hk)
               clear ON M1 K1 hp hk
               go_wp2_with fail
               go_meet
               case rel=>exact ⟨q2,rfl,fun _=>hq,M2,K2⟩
          case rest=>
           obtain ⟨q,rfl,hqr,MC,KC⟩:=hcut
           obtain ⟨x3,hx3⟩:∃ y,y = wc:=⟨_,rfl⟩
           subst hx3
           have HQR:=hid hqr
           have U4:=hid (zi_ b Sq x3 4 (by omega) MC.out.hp)
           clear hqr c80 c81 p0 RE
           go_upto_if 70 with fail
           go_cut [15] from 71 to 72 (fun vx wx=>∃ n:Nat,vx = .int .i64 n∧n ≤ 4∧(0 < n→rch S0 t k = true)∧Hid (Mk0 b Sq w b6 b8 (.slice (some ⟨g,o,none⟩) K sc) (.slice ca t cc) wx)∧Hid (Keep (· = b) wr wx))
           case first=>
            cases q
            · go_wp2_with fail
              go_meet
              case rel=>exact ⟨0,rfl,by omega,(fun h=>by omega),MC,KC⟩
            · go_wp2_with fail
              refine U4.out.mono ?_
              rintro e x4 ⟨n,rfl,hn,hp,hk⟩
              have M4:=hid (MC.out.call hk hp G.out)
              have K4:=hid (KC.out.trans hk)
              clear U4 MC KC hp hk
              go_wp2_with fail
              go_meet
              case rel=>exact ⟨n,rfl,hn,fun _=>HQR.out (by simp),M4,K4⟩
           case rest=>
            obtain ⟨n,rfl,hn4,hnr,MC,KC⟩:=hcut
            obtain ⟨x5,hx5⟩:∃ y,y = wc:=⟨_,rfl⟩
            subst hx5
            have HNR:=hid (And.intro hn4 hnr)
            obtain ⟨va,vcc,hve,_,_⟩:=owns_shape HV2.out
            subst hve
            have hbrl:=(ge_ HN2.out).1
            have HNx:=hid ((KC.out.block br hbrl (by omega)).trans HN2.out)
            have HVx:=owns_agree HV2.out fun g hg=>KC.out.block g (HV2.out.lt g hg).2 (by have:=(HV2.out.lt g hg).1;omega)
            have hsb6:Below x5.heap.size x5 (x5.alloc (.cells #[.int .i64 n] 3)):=(Below.refl _ _).alloc (nl_ _) _
            have hn6:(x5.alloc (.cells #[.int .i64 n] 3)).heap[x5.heap.size]? = some (.cells #[.int .i64 n] 3 (0,0)):=ha_ _ _
            have HV6:=ob_ HVx hsb6 (nl_ _)
            have HN6:=hid (q0_ HNx.out hsb6)
            have M6:=hid (MC.out.below hsb6 G.out)
            have hnw:∀ ad,some (⟨x5.heap.size,0,none⟩:Addr) = some ad→∀ (j:Nat) (u:Value),[Value.int .i64 n][j]? = some u→(x5.alloc (.cells #[.int .i64 n] 3)).cell? (ad.add j) = some u:=fun ad had=>by cases had;exact fun j u hj=>World.news_of_block (cs:=#[.int .i64 n]) (t:=3) (fr:=(0,0)) hn6 j u (by simpa using hj)
            obtain ⟨i3,hi3,hj0,hj1,hj2⟩:=info_parts Tryz.info3r
            have hvt:(vals ++ Value.slice va k vcc :: List.replicate (L - t - 1) (Value.slice none 0 0))[t]? = some (.slice va k vcc):=by rw [List.getElem?_append_right (by rw [HVL.out];exact nl_ _),HVL.out,Nat.sub_self];rfl
            have z5:=cg_ HNx.out (k:=t) (v := .slice va k vcc) (by simpa using hvt)
            have hwl:wo.heap.size ≤ (x5.alloc (.cells #[.int .i64 n] 3)).heap.size:=by have:=HK2.out.size;have:=KC.out.size;have:=hsb6.size;omega
            have hls:l.sum ≤ 20:=by have:=y0_ l HLF.out.1;have:=HLL.out;omega
            have hwr:IntKind.i64.wrap (((l.sum:Nat):Int) + (n:Int)) = ((l.sum:Nat):Int) + (n:Int):=IntWalk.i64_in _ (by omega)
            have hin:IntKind.i64.wrap ((k:Int) + 1) = (k:Int) + 1:=IntWalk.i64_in _ (by omega)
            have hbr6:br < (x5.alloc (.cells #[.int .i64 n] 3)).heap.size:=by omega
            have HKx:=hid ((HK2.out.trans (KC.out.mono fun j _ e => .inl e)).trans (Keep.of_below hsb6))
            clear hnr HVx hsb6 hn6
            go_wp2_with (at_builtin;go_loud (refine q5_ _ rfl _ _ _ rfl wo.heap.size 3 i3 _ 1 8 Tryz.underlying27 hi3 hj0 hj1 hj2 rfl (by omega) _ k (iv l) rfl HV6 (some ⟨x5.heap.size,0,none⟩) 1 1 [.int .i64 n] rfl rfl (fun h=>by cases h) hnw (by simp [Value.oneCell']) (by unfold maxLen;omega) (by omega) hwl ?_);intro a7 c7 x7 ho7 hg7 hat7;have n7:=(hg7.block br hbr6 (fun e=>by have:=(HV6.lt br e.symm).1;omega)).trans HN6.out;have z7:=cg_ n7 (k:=t) (v := .slice va k vcc) (by simpa using hvt);have f7:=cells_frz n7 (k:=t))
            have hk7:Keep (fun j=>(Value.slice va k vcc).ownBlock = some j) (x5.alloc (.cells #[.int .i64 n] 3)) x7:=Keep.grown hg7 (fun b e=>e)
            have hvg:∀ g,(Value.slice va k vcc).ownBlock = some g→wo.heap.size ≤ g:=fun g hg=>(HV6.lt g hg).1
            have M7:=M6.out.side hk7 (fun j hj=>by have:=hvg j hj;omega) G.out
            have k7:=HKx.out.thenO hk7 (fun j hj => .inr (hvg j hj))
            obtain ⟨x8,hx8⟩:∃ y,x7.setCell ⟨br,t,none⟩ (.slice a7 (k + 1) c7) = y:=⟨_,rfl⟩
            have hk8:Keep (· = br) x7 x8:=by rw [← hx8];exact Keep.setCell (O:=(· = br)) (p:=⟨br,t,none⟩) rfl
            have M8:=hid (M7.side hk8 (fun j hj=>by omega) G.out)
            have K8:=hid (k7.trans (hk8.mono fun j _ e => .inr e))
            have N8:=hid (show x8.heap[br]? = some (.cells (vals ++ Value.slice a7 (k + 1) c7 :: List.replicate (L - t - 1) (Value.slice none 0 0)).toArray 27 (0,0)) by
             rw [← hx8]
             refine (q4_ n7).trans ?_
             rw [List.setIfInBounds_toArray,List.set_append_right _ _ (by rw [HVL.out];exact nl_ _),HVL.out,Nat.sub_self]
             rfl)
            have V8:=hid (show x8.ownsRow wo.heap.size 3 1 (.slice a7 (k + 1) c7) (k + 1) (iv (l ++ [n])) from by
             have h:=owns_agree ho7 fun g hg=>hk8.block g (ho7.lt g hg).2 (by have:=(ho7.lt g hg).1;omega)
             simpa [iv] using h)
            rw [hx8]
            clear hk7 hvg M7 k7 hk8 n7 z7 f7 ho7 hg7 hat7 hx8
            go_roundw
            case rel=>exact ⟨k + 1,l ++ [n],_,by omega,by simp,by go_num,hid (by simp [HLL.out]),hid ⟨fun z hz=>by
             rcases List.mem_append.1 hz with h | h
             · exact HLF.out.1 z h
             · obtain rfl:z = n:=by simpa using h
               exact HNR.out.1,fun j z hz h0=>by
             by_cases hj:j < l.length
             · rw [List.getElem?_append_left hj] at hz
               exact HLF.out.2 j z hz h0
             · rw [List.getElem?_append_right (by omega)] at hz
               have hj2:j - l.length = 0:=by
                cases hq:j - l.length with
                | zero=>rfl
                | succ m=>rw [hq] at hz;simp at hz
               rw [hj2] at hz
               obtain rfl:n = z:=by simpa using hz
               have:j = k:=by have:=HLL.out;omega
               rw [this]
               exact HNR.out.2 h0⟩,M8,K8,N8,V8⟩
            case measure=>simp [intOf];omega
        · have hkk:k = K:=by omega
          have hnl3:¬ (k:Int) < (K:Int):=by omega
          obtain ⟨va,vcc,hve,_,_⟩:=owns_shape HV2.out
          subst hve
          have HLK:=hid (show l.length = K by have:=HLL.out;omega)
          have hls:l.sum ≤ 20:=by have:=y0_ l HLF.out.1;have:=HLL.out;omega
          have HVK:=hid (show wr.ownsRow wo.heap.size 3 1 (.slice va K vcc) K (iv l) by rw [← hkk];exact HV2.out)
          have HNK:=hid (show wr.heap[br]? = some (.cells ((vals ++ [Value.slice va K vcc]) ++ List.replicate (L - (t + 1)) (Value.slice none 0 0)).toArray 27 (0,0)) by rw [HN2.out,← hkk,show L - t - 1 = L - (t + 1) by omega];simp)
          have hcl:∀ g,(Value.slice ca t cc).ownBlock = some g→br < g∧g < wo.heap.size:=fun g hg=>by have:=HC.out.lt g hg;omega
          have HCLt:=hid hcl
          have HCx:=hid (owns_agree HC.out fun g hg=>HK2.out.block g (HC.out.lt g hg).2 (by have:=hcl g hg;omega))
          have HOx:=hid (owns_agree HO.out fun g hg=>HK2.out.block g (HO.out.lt g hg).2 (by have:=HSB.out g hg;omega))
          have HRx:=hid ((HR.out.agree (fun q hq=>HK2.out.block q hq.2.1 (by have:=hq.1;omega))).wide (T':=TR br (.slice ca t cc) wo.heap.size) fun q hq=>hq)
          have hwowr:=HK2.out.size
          have HLF2:=hid HLF.out
          clear hkk HV2 HN2 hcl HN HO HC HR HM HLL HLF
          go_upto_region 20 with fail
          obtain ⟨x0,hx0⟩:∃ y,wr.drew = y:=⟨_,rfl⟩
          have hbd:Below wr.heap.size wr x0:=by rw [← hx0];exact (Below.refl _ _).drew
          have M0:=hid (HM2.out.below hbd G.out)
          have C0:=hid (ob_ HCx.out hbd (nl_ _))
          have K0:=hid (show Keep (· = b) wr x0 from Keep.of_below hbd)
          have A1:=hid (zQ_ b Sq l.sum 2 x0 M0.out.hp (fun q hq=>by have:=G.out.1 q hq;have:=(ge_ M0.out.c6).1;omega) (by omega) (by omega))
          have SC:=hid (fun (V:World) (v:Value) (h:Mk0 b Sq w b6 b8 v (.slice ca t cc) V)=>(show V.cell? ⟨b8,1,none⟩ = some (.slice ca t cc) from cg_ h.c8 (k:=1) rfl))
          have hS0:=SC.out x0 _ M0.out
          refine (wpIn_wide (n:=9)).1 ?_
          refine zh_ (fun V:World=>V.cell? ⟨b8,1,none⟩ = some (.slice ca t cc)) 8 (by kernel_rfl) ?_
          rw [hx0]
          clear hx0 hbd HCx
          refine tkT 0 87 (.pointer (some ⟨b8,1,none⟩)) rfl rfl hS0 (fun w' hs=>?_) ?_
          · go_simp
          refine tkT 1 88 (.slice ca t cc) rfl rfl hS0 (fun w' hs=>?_) ?_
          · go_simp
          refine tkT 2 89 (.pointer (some ⟨b,0,none⟩)) rfl rfl hS0 (fun w' hs=>?_) ?_
          · go_simp
          refine tkT 3 90 (.int .i64 ((l.sum:Nat):Int)) rfl rfl hS0 (fun w' hs=>?_) ?_
          · go_simp
          refine qg_ (i:=4) (by kernel_rfl) rfl (by kernel_rfl) (by decide) (fun Kk hK=>?_)
          go_simp
          refine ⟨trivial,(callsIn_wide.2 A1.out).mono ?_⟩
          rintro e x1 ⟨sp,rfl,hsp,hp1,hk1⟩
          have M1:=hid (M0.out.call hk1 hp1 G.out)
          have C1:=hid (owns_agree C0.out fun g hg=>hk1.block g (C0.out.lt g hg).2 (by have:=HCLt.out g hg;omega))
          have K1:=hid (K0.out.trans hk1)
          have hS1:=SC.out x1 _ M1.out
          refine hK _ _ ⟨hS1,?_⟩
          clear hK A1 M0 C0 K0 hS0 hp1 hk1
          unfold spC
          refine qg_ (i:=5) (by kernel_rfl) rfl (by kernel_rfl) (by decide) (fun Kk hK=>?_)
          go_simp
          obtain ⟨x2,hx2⟩:∃ y,x1.alloc (.cells #[.int .i64 sp.lo, .int .i64 sp.hi] 35) = y:=⟨_,rfl⟩
          have hb2:Below x1.heap.size x1 x2:=by rw [← hx2];exact (Below.refl _ _).alloc (nl_ _) _
          have hn2:x2.heap[x1.heap.size]? = some (.cells #[.int .i64 sp.lo, .int .i64 sp.hi] 35 (0,0)):=by rw [← hx2];exact ha_ _ _
          obtain ⟨bk,hbk⟩:∃ y,x1.heap.size = y:=⟨_,rfl⟩
          rw [hbk] at hn2
          rw [hx2]
          try simp only [hbk]
          have M2:=hid (M1.out.below hb2 G.out)
          have C2:=hid (ob_ C1.out hb2 (nl_ _))
          have K2:=hid (K1.out.trans (Keep.of_below hb2))
          have hS2:=SC.out x2 _ M2.out
          refine hK _ _ ⟨hS2,?_⟩
          clear hK M1 C1 K1 hS1 hx2 hb2 hbk
          obtain ⟨i35,hi35,hj0,hj1,hj2⟩:=info_parts Tryz.info35
          have hx2s:=K2.out.size
          refine qg_ (i:=6) (by kernel_rfl) rfl (by kernel_rfl) (by decide) (fun Kk hK=>?_)
          obtain ⟨a3,c3,x3,hr,ho3,hg3,hat3⟩:=run_append_ao (P:=Tryz.prog) (w:=x2) 50 50 (br + 1) 35 i35 _ 2 16 Tryz.underlying50 hi35 hj0 hj1 hj2 rfl (by omega) _ t _ C2.out (some ⟨bk,0,none⟩) 1 1 (spC sp).toList rfl (fun h=>by cases h) (fun ad had=>by cases had;exact fun j u hj=>World.news_of_block (cs:=#[.int .i64 sp.lo, .int .i64 sp.hi]) (t:=35) (fr:=(0,0)) hn2 j u (by simpa [spC] using hj)) (fun u hu=>one_sp [sp] u (by simpa [zA_] using hu)) (by unfold maxLen;omega) (by omega) (by omega)
          refine wa_ rfl rfl rfl hr ?_
          have hk3:Keep (fun j=>(Value.slice ca t cc).ownBlock = some j) x2 x3:=Keep.grown hg3 (fun b e=>e)
          have M3:=hid (M2.out.side hk3 (fun j hj=>by have:=HCLt.out j hj;omega) G.out)
          have C3:=hid (show x3.ownsRow (br + 1) 35 2 (.slice a3 (t + 1) c3) (t + 1) (zA_ (C ++ [sp])) by simpa [zA_] using ho3)
          have K3:=hid ((K2.out.mono (O':=fun j=>j = b ∨ (Value.slice ca t cc).ownBlock = some j) fun j _ e => .inl e).trans (hk3.mono fun j _ e => .inr e))
          have hx23:=hg3.size
          have AT3:=hid (show ∀ g,(Value.slice a3 (t + 1) c3).ownBlock = some g→g < wo.heap.size ∨ x2.heap.size ≤ g from fun g hg=>(hat3 g hg).elim (fun h => .inl (HCLt.out g h).2) (fun h => .inr (by omega)))
          have AT4:=hid (show ∀ g,(Value.slice a3 (t + 1) c3).ownBlock = some g→(Value.slice ca t cc).ownBlock = some g ∨ g = x2.heap.size from hat3)
          have hS3:=SC.out x3 _ M3.out
          refine hK _ _ ⟨hS3,?_⟩
          clear hK M2 C2 hS2 hr ho3 hg3 hat3 hk3 hn2
          refine tkT 7 94 (.pointer (some ⟨b8,1,none⟩)) rfl rfl hS3 (fun w' hs=>?_) ?_
          · go_simp
          refine z1_ (by kernel_rfl) rfl (by kernel_rfl) (by kernel_rfl) (fun Kk hK=>?_)
          have z1:=cg_ M3.out.c8 (k:=1) (v := .slice ca t cc) rfl
          have f1:=cells_frz M3.out.c8 (k:=1)
          go_simp
          obtain ⟨x4,hx4⟩:∃ y,x3.setCell ⟨b8,1,none⟩ (.slice a3 (t + 1) c3) = y:=⟨_,rfl⟩
          obtain ⟨m4,k4⟩:=M3.out.st1 hx4 G.out
          have M4:=hid m4
          have C4:=hid (owns_agree C3.out fun g hg=>k4.block g (C3.out.lt g hg).2 (by have:=(C3.out.lt g hg).1;omega))
          have K4:=hid (show Keep (fun j=>(j = b ∨ (Value.slice ca t cc).ownBlock = some j) ∨ j = b8) wr x4 from (K3.out.mono fun j _ e => .inl e).trans (k4.mono fun j _ e => .inr e))
          have hbrl:=(ge_ HNK.out).1
          have N4:=hid ((K4.out.block br hbrl (by
           rintro ((h | h) | h)
           · omega
           · have:=HCLt.out _ h;omega
           · omega)).trans HNK.out)
          have O4:=hid (owns_agree HOx.out fun g hg=>K4.out.block g (HOx.out.lt g hg).2 (by
           have h1:=HSB.out g hg
           rintro ((h | h) | h)
           · omega
           · have:=HCLt.out _ h;omega
           · omega))
          have hwr4:=K4.out.size
          have hx24:x2.heap.size ≤ x4.heap.size:=by have:=k4.size;omega
          have V4:=owns_agree HVK.out fun g hg=>K4.out.block g (HVK.out.lt g hg).2 (by
           have h1:=(HVK.out.lt g hg).1
           rintro ((h | h) | h)
           · omega
           · have:=HCLt.out _ h;omega
           · omega)
          have hvwr:∀ g,(Value.slice va K vcc).ownBlock = some g→wo.heap.size ≤ g∧g < wr.heap.size:=fun g hg=>HVK.out.lt g hg
          have R4:=hid (show RlR (TR br (.slice a3 (t + 1) c3) x4.heap.size) x4 br K (vals ++ [Value.slice va K vcc]) (R ++ [l]) from by
           refine ⟨by simp [HRx.out.1],fun t' l' hl'=>?_⟩
           by_cases e:t' < R.length
           · rw [List.getElem?_append_left e] at hl'
             obtain ⟨a,c,h1,h2⟩:=HRx.out.2 t' l' hl'
             have hv':t' < vals.length:=(List.getElem?_eq_some_iff.1 h1).1
             refine ⟨a,c,by rw [List.getElem?_append_left hv'];exact h1,(h2.agree (fun q hq=>K4.out.block q (by have:=hq.2.1;omega) (by
              have h1:=hq.1
              rintro ((h | h) | h)
              · omega
              · exact hq.2.2 h
              · omega))).wide fun q hq=>⟨hq.1,by have:=hq.2.1;omega,fun e=>?_⟩⟩
             rcases AT4.out q e with h | h
             · exact hq.2.2 h
             · have:=hq.2.1;omega
           · have ht':t' = R.length:=by
              have:=(List.getElem?_eq_some_iff.1 hl').1
              simp at this;omega
             subst ht'
             rw [List.getElem?_append_right (nl_ _),Nat.sub_self] at hl'
             obtain rfl:l = l':=by simpa using hl'
             refine ⟨va,vcc,by rw [List.getElem?_append_right (by have:=HRx.out.1;omega),show R.length - vals.length = 0 by have:=HRx.out.1;omega];rfl,?_⟩
             have hof:=(SlC.of_owns V4)
             obtain ⟨h1,a,c,h2,h3,h4,h5,h6⟩:=hof
             refine ⟨h1,a,c,h2,h3,h4,h5,h6.imp id ?_⟩
             rintro ⟨g,o,hgo,hg1,hg2⟩
             refine ⟨g,o,hgo,?_,hg2⟩
             have hown:(Value.slice va K vcc).ownBlock = some g:=by
              obtain ⟨rfl,_⟩:va = a∧vcc = c:=by simpa using h2
              rw [hgo];rfl
             have h7:=hvwr g hown
             refine ⟨by omega,by omega,fun e=>?_⟩
             rcases AT3.out g e with h | h
             · omega
             · omega)
          rw [hx4]
          refine hK _ _ ?_
          have F4:=hid (HF.out.snoc (l:=l) (x:=sp) ⟨HLK.out,HLF2.out.1⟩ (by rw [HRL.out];exact HLF2.out.2) ⟨hsp.1,hsp.2.1,hsp.2.2.1,hsp.2.2.2⟩)
          have hin:IntKind.i64.wrap ((t:Int) + 1) = (t:Int) + 1:=IntWalk.i64_in _ (by omega)
          clear hK M3 C3 K3 hS3 z1 f1 hx4 m4 k4 SC V4
          go_simp
          go_wp2_with fail
          go_roundw
          case rel=>exact ⟨t + 1,C ++ [sp],R ++ [l],vals ++ [Value.slice va K vcc],_,by omega,by go_num,hid ⟨by simp [HCL.out.1],by simp [HVL.out]⟩,F4,M4,N4,O4,C4,R4⟩
          case measure=>simp [intOf];omega
     · have htl:t = L:=by omega
       have hnl2:¬ (t:Int) < (L:Int):=by omega
       have HNa:=hid (show wo.heap[br]? = some (.cells vals.toArray 27 (0,0)) by rw [HN.out,htl,Nat.sub_self];simp)
       have HLC:=hid (show C.length = L∧R.length = L∧vals.length = L from ⟨HCL.out.1.trans htl,HF.out.len.trans (HCL.out.1.trans htl),HCL.out.2.trans htl⟩)
       have HCa:=hid (show wo.ownsRow (br + 1) 35 2 (.slice ca L cc) L (zA_ C) by rw [← htl];exact HC.out)
       have HMa:=hid (show Mk0 b Sq w b6 b8 (.slice sa K sc) (.slice ca L cc) wo by rw [← htl];exact HM.out)
       have HRa:=hid (show RlR (TR br (.slice ca L cc) wo.heap.size) wo br K vals R by rw [← htl];exact HR.out)
       have HTL:=hid htl
       obtain ⟨wa,hwa⟩:∃ y,y = wo:=⟨_,rfl⟩
       subst hwa
       have hcl:∀ g,(Value.slice ca L cc).ownBlock = some g→br < g:=fun g hg=>by have:=HCa.out.lt g hg;omega
       have HCLt:=hid hcl
       obtain ⟨gs,hgs⟩:∃ gs,sa = some ⟨gs,0,none⟩:=by
        obtain ⟨_,⟨h,_⟩ | ⟨g,_,_,h,_⟩⟩:=HO.out
        · have hk:=hkk
          cases h
          omega
        · cases h;exact ⟨g,rfl⟩
       subst hgs
       have hgsb:=HSB.out gs rfl
       clear htl HN HC HM HR HCL hcl
       go_wp2_with fail
       go_loopw [97] (fun vi wr=>∃ (k:Nat) (Sk:List St),k ≤ K∧vi = .int .i64 k∧Hid (Sk.length = K∧(∀ i,(stX Sk i).t = (stX S0 i).t)∧∀ i,i < k→CtS (stX Sk i) (col R i))∧Hid (Mk0 b Sq w b6 b8 (.slice (some ⟨gs,0,none⟩) K sc) (.slice ca L cc) wr)∧Hid (Keep (fun j=>j = b ∨ j = gs) wa wr)∧Hid (wr.ownsRow (b8 + 1) 72 7 (.slice (some ⟨gs,0,none⟩) K sc) K (stL Sk))) (fun vi _=>K - (intOf vi).toNat)
       case atStart=>exact ⟨0,S0,by omega,rfl,hid ⟨HSL.out,fun i=>rfl,fun i hi=>by omega⟩,HMa,hid (Keep.refl _ _),HO⟩
       case round=>
        obtain ⟨k,Sk,hk2,rfl,HK3,HM3,HKW,HO3⟩:=hrel
        by_cases hlt4:k < K
        · have hlt4':(0:Int) ≤ (k:Int)∧(k:Int) < (K:Int):=by omega
          have HNk:=hid ((HKW.out.block br (ge_ HNa.out).1 (by omega)).trans HNa.out)
          have HRk:=hid (HRa.out.agree (fun q hq=>HKW.out.block q hq.2.1 (by have:=hq.1;omega)))
          obtain ⟨wk,hwk⟩:∃ y,y = wr:=⟨_,rfl⟩
          subst hwk
          go_wp2_with fail
          go_loopw [17,102] (fun vn vi wr=>∃ j:Nat,j ≤ L∧vn = .int .i64 ((col (R.take j) k:Nat):Int)∧vi = .int .i64 j∧wr = wk) (fun _ vi _=>L - (intOf vi).toNat)
          case atStart=>exact ⟨0,by omega,rfl,rfl,rfl⟩
          case round=>
           obtain ⟨j,hj,rfl,rfl,hwe⟩:=hrel
           subst hwe
           by_cases hjl:j < L
           · have hjl':(0:Int) ≤ (j:Int)∧(j:Int) < (L:Int):=by omega
             have hjR:j < R.length:=by have:=HLC.out;omega
             obtain ⟨lj,hlj⟩:∃ lj,R[j]? = some lj:=⟨R[j],List.getElem?_eq_getElem _⟩
             obtain ⟨ja,jc,jv,jr⟩:=HRk.out.2 j lj hlj
             obtain ⟨jg,jo,rfl,_,_,_,jcell⟩:=SlC.cells jr (by omega)
             have hljm:=List.mem_of_getElem? hlj
             have hlk:lj.length = K:=(HF.out.row lj hljm).1
             obtain ⟨n,hn⟩:∃ n,lj[k]? = some n:=⟨lj[k]'(by omega),List.getElem?_eq_getElem _⟩
             have hn4:n ≤ 4:=(HF.out.row lj hljm).2 n (List.mem_of_getElem? hn)
             have z0:=cg_ HNk.out (k:=j) (v := .slice (some ⟨jg,jo,none⟩) K jc) (by simpa using jv)
             have z1:=jcell k (.int .i64 n) (by simp [iv,hn])
             have hcb:col (R.take j) k ≤ 4 * j:=by
              have:=col_le (R:=R.take j) (k:=k) fun l hl=>(HF.out.row l (List.mem_of_mem_take hl)).2
              rw [List.length_take] at this;omega
             have hcs:col (R.take (j + 1)) k = col (R.take j) k + n:=by
              rw [List.take_succ_eq_append_getElem hjR,show R[j] = lj from (List.getElem?_eq_some_iff.1 hlj).2]
              simp [col,List.getD_eq_getElem?_getD,hn]
             have hwr:IntKind.i64.wrap (((col (R.take j) k:Nat):Int) + (n:Int)) = ((col (R.take j) k:Nat):Int) + (n:Int):=IntWalk.i64_in _ (by omega)
             have hin:IntKind.i64.wrap ((j:Int) + 1) = (j:Int) + 1:=IntWalk.i64_in _ (by omega)
             have HCS:=hid hcs
             clear hcs hlj jv jr jcell hn hljm hlk
             go_wp2_with fail
             go_roundw
             case rel=>exact ⟨j + 1,by omega,by rw [HCS.out];simp,by go_num,by first | rfl | trivial⟩
             case measure=>simp [intOf];omega
           · have hjn:¬ (j:Int) < (L:Int):=by omega
             have hjL:R.take j = R:=List.take_of_length_le (by have:=HLC.out;omega)
             obtain ⟨gg,hgg⟩:∃ z,col R k = z:=⟨_,rfl⟩
             rw [hjL,hgg]
             have hg16:gg ≤ 16:=by have:=col_le (R:=R) (k:=k) fun l hl=>(HF.out.row l hl).2;have:=HLC.out;omega
             have HGG:=hid hgg
             have U3:=hid (zi_ b Sq wr 3 (by omega) HM3.out.hp)
             clear hjL hgg
             go_wp2_with fail
             refine U3.out.mono ?_
             rintro e x1 ⟨lf,rfl,hlf,hp1,hk1⟩
             have M1:=hid (HM3.out.call hk1 hp1 G.out)
             have K1:=hid hk1
             have U2:=hid (zi_ b Sq x1 2 (by omega) hp1)
             clear U3 hp1 hk1
             go_wp2_with fail
             refine U2.out.mono ?_
             rintro e x2 ⟨u2,rfl,hu2,hp2,hk2'⟩
             have M2:=hid (M1.out.call hk2' hp2 G.out)
             have K2:=hid (K1.out.trans hk2')
             have hw1:IntKind.i64.wrap ((gg:Int) + (lf:Int)) = (gg:Int) + (lf:Int):=IntWalk.i64_in _ (by omega)
             obtain ⟨sd,hsd⟩:∃ sd:Nat,min (u2:Int) ((gg:Int) + (lf:Int)) = (sd:Int):=⟨min u2 (gg + lf),by omega⟩
             have hsd2:sd ≤ 2∧sd ≤ gg + lf:=by omega
             have hw2:IntKind.i64.wrap ((gg:Int) + (lf:Int) - (sd:Int)) = ((gg + lf - sd:Nat):Int):=by rw [show (gg:Int) + (lf:Int) - (sd:Int) = ((gg + lf - sd:Nat):Int) by omega];exact IntWalk.i64_in _ (by omega)
             have hSw:∀ (W:World),Keep (· = b) wr W→∀ q,Sq q→q < W.heap.size:=fun W h q hq=>by have:=G.out.1 q hq;have:=h.size;have:=(ge_ HM3.out.c6).1;omega
             have A1:=hid (zQ_ b Sq (gg + lf - sd) 1 x2 hp2 (hSw x2 K2.out) (by omega) (by omega))
             have c80:=cg_ M2.out.c8 (k:=0) (v := .slice (some ⟨gs,0,none⟩) K sc) rfl
             clear U2 M1 K1 hp2 hk2'
             go_wp2_with fail
             refine A1.out.mono ?_
             rintro e x3 ⟨y1,rfl,hy1,hp3,hk3⟩
             have M3:=hid (M2.out.call hk3 hp3 G.out)
             have K3:=hid (K2.out.trans hk3)
             have A2:=hid (zQ_ b Sq sd 1 x3 hp3 (hSw x3 K3.out) (by omega) (by omega))
             clear A1 M2 K2 hp3 hk3 c80
             go_wp2_with fail
             refine A2.out.mono ?_
             rintro e x4 ⟨y2,rfl,hy2,hp4,hk4⟩
             have M4:=hid (M3.out.call hk4 hp4 G.out)
             have K4:=hid (K3.out.trans hk4)
             have A3:=hid (zQ_ b Sq lf 1 x4 hp4 (hSw x4 K4.out) (by omega) (by omega))
             clear A2 M3 K3 hp4 hk4
             go_wp2_with fail
             refine A3.out.mono ?_
             rintro e x5 ⟨y3,rfl,hy3,hp5,hk5⟩
             have M5:=hid (M4.out.call hk5 hp5 G.out)
             have K5:=hid (K4.out.trans hk5)
             have O5:=owns_agree HO3.out fun g hg=>K5.out.block g (HO3.out.lt g hg).2 (by have:=HSB.out g hg;omega)
             have hSk:=qI_ (S:=Sk) (i:=k) (by have:=HK3.out.1;omega)
             have k7:k * 7 + 6 < K * 7:=by omega
             obtain ⟨d1,e1⟩:=owns_cell O5 (i:=k * 7 + 1) (by omega) (kT_ hSk 1 _ rfl)
             obtain ⟨d2,e2⟩:=owns_cell O5 (i:=k * 7 + 2) (by omega) (kT_ hSk 2 _ rfl)
             obtain ⟨d3,e3⟩:=owns_cell O5 (i:=k * 7 + 3) (by omega) (kT_ hSk 3 _ rfl)
             obtain ⟨d4,e4⟩:=owns_cell O5 (i:=k * 7 + 4) (by omega) (kT_ hSk 4 _ rfl)
             obtain ⟨d5,e5⟩:=owns_cell O5 (i:=k * 7 + 5) (by omega) (kT_ hSk 5 _ rfl)
             obtain ⟨d6,e6⟩:=owns_cell O5 (i:=k * 7 + 6) (by omega) (kT_ hSk 6 _ rfl)
             have HO5:=hid O5
             have hin:IntKind.i64.wrap ((k:Int) + 1) = (k:Int) + 1:=IntWalk.i64_in _ (by omega)
             clear A3 M4 K4 hp5 hk5 O5 hSk hw1 hw2 hsd
             unfold spC
             go_wp2_with fail
             obtain ⟨x6,hx6⟩:∃ y,(((((x5.setCell ⟨gs,k * 7 + 1,none⟩ (.int .i64 y1.lo)).setCell ⟨gs,k * 7 + 1 + 1,none⟩ (.int .i64 y1.hi)).setCell ⟨gs,k * 7 + 3,none⟩ (.int .i64 y2.lo)).setCell ⟨gs,k * 7 + 3 + 1,none⟩ (.int .i64 y2.hi)).setCell ⟨gs,k * 7 + 5,none⟩ (.int .i64 y3.lo)).setCell ⟨gs,k * 7 + 5 + 1,none⟩ (.int .i64 y3.hi) = y:=⟨_,rfl⟩
             obtain ⟨o6,k6⟩:=set_row6 HO5.out HK3.out.1 hlt4 hx6
             have M6:=hid (M5.out.side k6 (fun j hj=>by omega) G.out)
             have K6:=hid ((HKW.out.trans (K5.out.mono fun j _ e => .inl e)).trans (k6.mono fun j _ e => .inr e))
             have HO6:=hid o6
             have hkl:k < Sk.length:=by have:=HK3.out.1;omega
             have HK6:=hid (show (Sk.set k ⟨(stX Sk k).t,y1.lo,y1.hi,y2.lo,y2.hi,y3.lo,y3.hi⟩).length = K∧(∀ i,(stX (Sk.set k ⟨(stX Sk k).t,y1.lo,y1.hi,y2.lo,y2.hi,y3.lo,y3.hi⟩) i).t = (stX S0 i).t)∧∀ i,i < k + 1→CtS (stX (Sk.set k ⟨(stX Sk k).t,y1.lo,y1.hi,y2.lo,y2.hi,y3.lo,y3.hi⟩) i) (col R i) from by
              refine ⟨by simp [HK3.out.1],fun i=>?_,fun i hi=>?_⟩
              · rw [stX_set hkl]
                split
                · rename_i e;rw [e];exact HK3.out.2.1 k
                · exact HK3.out.2.1 i
              · rw [stX_set hkl]
                split
                · rename_i e;rw [e,HGG.out];exact ctS hsd2.2 hy1 hy2 hy3
                · exact HK3.out.2.2 i (by omega))
             rw [hx6]
             clear hx6 o6 k6 d1 d2 d3 d4 d5 d6 e1 e2 e3 e4 e5 e6
             go_roundw
             case rel=>exact ⟨k + 1,_,by omega,by go_num,HK6,M6,K6,HO6⟩
             case measure=>simp [intOf];omega
        · have hkk3:k = K:=by omega
          have hnl4:¬ (k:Int) < (K:Int):=by omega
          have c80:=cg_ HM3.out.c8 (k:=0) (v := .slice (some ⟨gs,0,none⟩) K sc) rfl
          have c81:=cg_ HM3.out.c8 (k:=1) (v := .slice ca L cc) rfl
          have z0:=cg_ HM3.out.c6 (k:=0) (v := .slice none 0 0) rfl
          have z1:=cg_ HM3.out.c6 (k:=1) (v := .slice none 0 0) rfl
          have f0:=cells_frz HM3.out.c6 (k:=0)
          have f1:=cells_frz HM3.out.c6 (k:=1)
          have HKK:=hid hkk3
          clear hkk3
          go_wp2_with fail
          obtain ⟨x6,hx6⟩:∃ y,(wr.setCell ⟨b6,0,none⟩ (.slice (some ⟨gs,0,none⟩) K sc)).setCell ⟨b6,1,none⟩ (.slice ca L cc) = y:=⟨_,rfl⟩
          have k6:Keep (· = b6) wr x6:=by rw [← hx6];exact (Keep.setCell (O:=(· = b6)) (A:=wr) (p:=⟨b6,0,none⟩) rfl).trans (Keep.setCell (p:=⟨b6,1,none⟩) rfl)
          have h6:x6.heap[b6]? = some (.cells #[.slice (some ⟨gs,0,none⟩) K sc, .slice ca L cc] 60 (0,0)):=by rw [← hx6];exact (q4_ (q4_ HM3.out.c6)).trans (by rfl)
          rw [hx6]
          refine bodyPost_ret (ret60u rfl h6 rfl rfl) rfl ?_
          obtain ⟨q1,q2,q3⟩:=HK3.out
          obtain ⟨l1,l2,l3⟩:=HLC.out
          have hK:=HKK.out
          have hwa6:Keep (fun j=>(j = b ∨ j = gs) ∨ j = b6) wa x6:=(HKW.out.mono fun j _ e => .inl e).trans (k6.mono fun j _ e => .inr e)
          have hoS:x6.ownsRow (b8 + 1) 72 7 (.slice (some ⟨gs,0,none⟩) K sc) K (stL Sk):=owns_agree HO3.out fun g hg=>k6.block g (HO3.out.lt g hg).2 (by have:=HSB.out g hg;omega)
          have hoC:x6.ownsRow (br + 1) 35 2 (.slice ca L cc) L (zA_ C):=owns_agree HCa.out fun g hg=>hwa6.block g (HCa.out.lt g hg).2 (by have:=HCLt.out g hg;omega)
          have hbr6:x6.heap[br]? = some (.cells vals.toArray 27 (0,0)):=(hwa6.block br (ge_ HNa.out).1 (by omega)).trans HNa.out
          have hR6:RlR (fun q=>q < x6.heap.size) x6 br K vals R:=(HRa.out.agree (fun q hq=>hwa6.block q hq.2.1 (by have:=hq.1;omega))).wide fun q hq=>by have:=hq.2.1;have:=hwa6.size;omega
          have hte:∀ i,i < K→∃ n:Nat,n < L∧(stX Sk i).t = n:=fun i hi=>by
           obtain ⟨n,h1,h2⟩:=HST.out _ (List.mem_of_getElem? (qI_ (S:=S0) (i:=i) (by have:=HSL.out;omega)))
           exact ⟨n,h1,by rw [q2 i,h2];rfl⟩
          have hmem:∀ x ∈ Sk,∃ i,i < K∧x = stX Sk i:=fun x hx=>by
           obtain ⟨i,hi,rfl⟩:=List.mem_iff_getElem.1 hx
           exact ⟨i,by omega,by have:=qI_ hi;rw [List.getElem?_eq_getElem hi] at this;simpa using this⟩
          refine (show Mk9 b w _ x6 from ⟨Sk,C,R,_,_,sc,cc,br,L,vals,by rw [q1,l1];rfl,⟨by omega,by omega,?_,?_,?_⟩,⟨by omega,?_,?_,HF.out.car,?_⟩,?_,?_,hbr6,by rw [q1];exact hR6,HM3.out.kp.thenO k6 fun j hj => .inr (by have:=G.out;omega)⟩)
          · intro x hx
            rcases List.mem_append.1 hx with h | h
            · have h2:=HF.out.sp x h
              refine ⟨?_,h2.2.1⟩
              rw [jq_,Bool.and_eq_true,inI,inI,Bool.and_eq_true,Bool.and_eq_true]
              simp only [decide_eq_true_iff]
              omega
            · obtain ⟨y,hy,hxy⟩:=List.mem_flatMap.1 h
              obtain ⟨i,hi,rfl⟩:=hmem y hy
              exact (q3 i (by omega)).1 x hxy
          · intro x hx
            obtain ⟨i,hi,rfl⟩:=hmem x hx
            obtain ⟨n,h1,h2⟩:=hte i hi
            rw [h2];omega
          · intro x hx
            obtain ⟨i,hi,rfl⟩:=hmem x hx
            exact (q3 i (by omega)).2.1
          · intro l hl
            rw [q1]
            exact HF.out.row l hl
          · intro t' k' n hn h0
            rw [rch_congr (S':=S0) (by rw [q1,HSL.out]) q2]
            exact HF.out.rch t' k' n hn h0
          · intro i x hx
            have hi:=(List.getElem?_eq_some_iff.1 hx).1
            have h2:=q3 i (by omega)
            have h3:=qI_ hi
            rw [hx] at h3
            obtain rfl:x = stX Sk i:=by simpa using h3
            exact ⟨h2.2.2.1,h2.2.2.2⟩
          · have h:=yC_ (l:=Sk) (by rw [q1];exact hoS)
            rw [q1]
            exact h
          · have h:=own_sp (l:=C) (by rw [l1];exact hoC)
            rw [l1]
            exact h
end Go.Proofs.LS