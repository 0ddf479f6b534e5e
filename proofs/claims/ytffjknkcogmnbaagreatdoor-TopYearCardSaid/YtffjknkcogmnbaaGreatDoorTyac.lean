/- Parts of the proof of a law of layer 11 (file): LfYab. The conditions stand in each theorem. -/
import Derived.Laws.RangeAny
import Derived.Laws.World
import Derived.Lib.AppendZerosOnto
import Derived.Test.YtffjknkcogmnbaaGreatDoorProg
import Derived.Test.YtffjknkcogmnbaaGreatDoorTyaa
set_option linter.all false
set_option linter.unusedVariables false
set_option linter.unusedSimpArgs false
set_option linter.all false
set_option linter.unusedVariables false
set_option linter.unusedSimpArgs false
namespace Go.Proofs.LF
open Go.RowKit
set_option maxHeartbeats 1000000
set_option maxRecDepth 100000
attribute [local go_sem] q1_
def Ky.val (k:Ky):Value := .agg #[.string (bs k.n), .bool k.h, .int .i64 k.x]
theorem vd_ (n:List UInt8) (l:List Int) (an:Option Addr) (cn:Nat) (vs:Value) (S:Nat→Prop) (w:World) (hl:zh_ S w (.slice an l.length cn) l) (hS:∀ b,S b→b < w.heap.size) (sa:Option Addr) (sl sc:Nat) (hvs:vs = .slice sa sl sc) :
 Calls Tryz.prog 90 #[.agg #[.string (bs n), .slice an l.length cn,vs]] w fun e w'=>e = .returned (.agg #[.string (bs (qn_ n l).n), .bool (qn_ n l).h, .int .i64 (qn_ n l).x])∧Below w.heap.size w w':=by
 subst hvs
 cases l with
 | nil=>
   go_enter Tryz.func90,Tryz.ntmps90
   go_wp2
   exact bodyPost_ret (v := .agg #[.string (bs n), .bool false, .int .i64 0]) (by simp [results,Tryz.results90,go_sem]) rfl ⟨rfl,((Below.refl _ _).alloc (nl_ _) _).alloc (by simp) _⟩
 | cons x l=>
   obtain ⟨g,o,rfl,hg,_,_,hcell⟩:=SlC.cells hl (by simp)
   · have hx:w.cell? ⟨g,o,none⟩ = some (.int .i64 x):=hcell 0 _ rfl
     have hg':=hS g hg
     clear hcell
     go_enter Tryz.func90,Tryz.ntmps90
     go_wp2_with fail
     go_region_held3 (fun w'=>w'.cell? ⟨w.heap.size,0,none⟩ = some (.string (bs n))∧w'.cell? ⟨w.heap.size,1,none⟩ = some (.slice (some ⟨g,o,none⟩) (l.length + 1) cn)∧w'.cell? ⟨g,o,none⟩ = some (.int .i64 x)) (go_keep) (fail)
     go_wp2
     exact bodyPost_ret (v := .agg #[.string (bs n), .bool true, .int .i64 x]) (by simp [results,Tryz.results90,go_sem]) rfl ⟨rfl,(((Below.refl _ _).alloc (nl_ _) _).alloc (by simp) _).drew⟩
end Go.Proofs.LF
namespace Go.Proofs.LF
open Go.RowKit
section
variable {F:Fence} {n:Nat} {P:Program} {ops:Array Oper} {Q:Exit→Act→World→Prop} {md:Region.Mode} {S:World→Prop}
def YIf (P:Program) (ops:Array Oper) (S:World→Prop) (o:Oper) (v:Value) (a:Act):Prop:=
 (Region.wanted o (yielded ops a.tmps) = true∧∀ w,S w→(execOp a.eval o).run P w = .ok (.value v) w) ∨
 (Region.wanted o (yielded ops a.tmps) = false∧v = undef)
def qh_ (o:Oper):Bool:=match o.op with | .defer _=>false | _=>true
theorem zU_ {o:Oper} (h:qh_ o = true) {r:Option Nat} {ρ:Operand→Value}:Oper.semAt r ρ o = execOp ρ o:=
 Oper.semAt_eq r ρ o fun c e=>by simp [qh_,e] at h
theorem YIf.of_same {o:Oper} {v:Value} {a a':Act} (hy:YIf P ops S o v a) (he:execOp a'.eval o = execOp a.eval o)
 (hw:Region.wanted o (yielded ops a'.tmps) = Region.wanted o (yielded ops a.tmps)):YIf P ops S o v a':=by
 unfold YIf at *
 rw [he,hw]
 exact hy
theorem YIf.wpOp (hF:∀ f,F.fn f) {i:Nat} {o:Oper} {v:Value} {a:Act} (hi:ops[i]? = some o) (hnd:qh_ o = true) (hy:YIf P ops S o v a)
 {K:Act→World→Prop} {w:World} (hS:S w) (h:K (a.put o.dst v) w):wpOpIn F n P ops Q i K a w:=by
 unfold wpOpIn
 simp only [hi]
 rcases hy with ⟨hw,hv⟩ | ⟨hw,rfl⟩
 · simp only [hw,if_true,Oper.wpIn,zU_ hnd,hv w hS,Oper.uponIn];exact ⟨fun f _=>hF f,h⟩
 · simp only [hw,Bool.false_eq_true,if_false];exact ⟨fun f _=>hF f,h⟩
theorem zE_ {j:Nat} {oi oj:Oper} {v:Value} (hj:ops[j]? = some oj) (hnd:qh_ oj = true) (hap:oi.apart ops oj = true)
 (hsi:∀ cs b,oi.op ≠ .select cs b) (hsj:∀ cs b,oj.op ≠ .select cs b)
 (hQ:∀ c a w,Q (.panic c) (a.put oi.dst v) w→Q (.panic c) a w) {K:Act→World→Prop} {a:Act} {w:World}
 (hy:YIf P ops S oi v a) (h:wpOpIn F n P ops Q j K (a.put oi.dst v) w) :
 wpOpIn F n P ops Q j (fun a' w'=>YIf P ops S oi v a'∧K (a'.put oi.dst v) w') a w:=by
 obtain ⟨h1,h2,h3⟩:=Oper.apart_spec hap
 have keep:∀ (a:Act),YIf P ops S oi v a→∀ u,YIf P ops S oi v (a.put oj.dst u):=fun a hy u=>
  hy.of_same (execOp_put oi hsi a oj.dst u h3) (wanted_put oi a oj.dst u h3)
 have keepD:∀ d,YIf P ops S oi v { a with defers:=d :: a.defers }:=fun d=>hy.of_same rfl rfl
 unfold wpOpIn at *
 simp only [hj] at *
 rw [wanted_put oj a oi.dst v h1,about_put oj w a oi.dst v h1] at h
 split
 · rename_i hw
   simp only [hw,if_true] at h
   unfold Oper.wpIn at *
   rw [about_put oj w a oi.dst v h1] at h
   refine ⟨h.1,?_⟩
   have h:=h.2
   rw [zU_ hnd,execOp_put oj hsj a oi.dst v h1] at h
   rw [zU_ hnd]
   generalize (execOp a.eval oj).run P w = r at *
   cases r with
   | ok x w'=>
     cases x <;> simp only [Oper.uponIn] at h ⊢
     case value u=>exact ⟨keep a hy u,by rw [← Act.put_comm a v u h2];exact h⟩
     case skip=>exact ⟨keep a hy _,by rw [← Act.put_comm a v undef h2];exact h⟩
     case defer d=>
      refine ⟨keep _ (keepD d) _,?_⟩
      rw [← Act.put_comm _ v undef h2,← Act.put_defers]
      exact h
     case enter f args=>
      refine ⟨h.1,CallsIn.mono h.2 fun e w'' he=>?_⟩
      cases e with
      | returned u=>exact ⟨keep a hy u,by rw [← Act.put_comm a v u h2];exact he⟩
      | panicked c=>exact hQ _ _ _ he
      | outgrown=>exact he
     case row row args=>exact ⟨h.1,RowsIn.mono h.2 fun u w'' he=>⟨keep a hy u,by rw [← Act.put_comm a v u h2];exact he⟩⟩
     case round l f tmps assign body=>
      refine ⟨h.1,RoundIn.mono h.2 fun e w'' he=>?_⟩
      cases e with
      | returned u=>exact ⟨keep a hy u,by rw [← Act.put_comm a v u h2];exact he⟩
      | panicked c=>exact hQ _ _ _ he
      | outgrown=>exact he
   | halt x w'=>
     cases x <;> simp only [Oper.uponIn] at h ⊢
     case panic u=>exact hQ _ _ _ h
 · rename_i hw
   simp only [hw] at h
   exact ⟨h.1,keep a hy _,by rw [← Act.put_comm a v undef h2];exact h.2⟩
def k5_ (F:Fence) (n:Nat) (P:Program) (md:Region.Mode) (ops:Array Oper) (Q:Exit→Act→World→Prop) (S:World→Prop):Nat→Array Bool→Act→World→Prop
 | 0,listed,a,w=>Region.ready md ops listed = []∧Q .normal a w
 | fuel + 1,listed,a,w=>
   (Region.ready md ops listed = []→Q .normal a w) ∧
   ∀ i ∈ Region.ready md ops listed,wpOpIn F n P ops Q i (fun a' w'=>S w'∧k5_ F n P md ops Q S fuel (listed.setIfInBounds i true) a' w') a w
theorem k3_:∀ (fuel:Nat) (listed:Array Bool) (a:Act) (w:World),k5_ F n P md ops Q S fuel listed a w→wpAnyIn F n P md ops Q fuel listed a w
 | 0,_,_,_,h=>h
 | fuel + 1,_,_,_,h=>⟨h.1,fun i hi=>wpOpIn_mono (fun a' w' h'=>k3_ fuel _ a' w' h'.2) (h.2 i hi)⟩
theorem k5_.imp {S':World→Prop} (hS:∀ w,S w→S' w):∀ (fuel:Nat) (listed:Array Bool) (a:Act) (w:World),k5_ F n P md ops Q S fuel listed a w→k5_ F n P md ops Q S' fuel listed a w
 | 0,_,_,_,h=>h
 | fuel + 1,_,_,_,h=>⟨h.1,fun i hi=>wpOpIn_mono (fun a' w' h'=>⟨hS _ h'.1,k5_.imp hS fuel _ a' w' h'.2⟩) (h.2 i hi)⟩
theorem wh_ (hF:∀ f,F.fn f) (hnd:ops.all qh_ = true) {i:Nat} {oi:Oper} {v:Value} (hi:ops[i]? = some oi) (hsel:∀ (j:Nat) (o:Oper) cs b,ops[j]? = some o→o.op ≠ .select cs b)
 (hQ:∀ c a w,Q (.panic c) (a.put oi.dst v) w→Q (.panic c) a w) :
 ∀ (fuel:Nat) (listed:Array Bool) (a:Act) (w:World),
  (∀ j oj,ops[j]? = some oj→j ≠ i→listed.getD j true = false→(∀ e ∈ oj.after,Region.binds md e = true→e.on ≠ i)→oi.apart ops oj = true) →
  i ∈ Region.ready md ops listed→YIf P ops S oi v a→S w →
  k5_ F n P md ops Q S fuel (listed.setIfInBounds i true) (a.put oi.dst v) w→k5_ F n P md ops Q S (fuel + 1) listed a w:=by
 have hno:∀ j o,ops[j]? = some o→qh_ o = true:=fun j o h=>by
  rw [Array.all_eq_true] at hnd
  obtain ⟨hj,rfl⟩:=ge_ h
  exact hnd j hj
 intro fuel
 induction fuel with
 | zero=>
   intro listed a w _ hr hy hS H
   refine ⟨fun h=>(by rw [h] at hr;cases hr),fun j hj=>?_⟩
   by_cases hji:j = i
   · subst hji;exact hy.wpOp hF hi (hno _ _ hi) hS ⟨hS,H⟩
   · have:=ready_mono hj hji
     rw [H.1] at this
     cases this
 | succ fuel ih=>
   intro listed a w hfree hr hy hS H
   refine ⟨fun h=>(by rw [h] at hr;cases hr),fun j hj=>?_⟩
   by_cases hji:j = i
   · subst hji;exact hy.wpOp hF hi (hno _ _ hi) hS ⟨hS,H⟩
   · have h1:=H.2 j (ready_mono hj hji)
     obtain ⟨hjun,oj,hoj,hall⟩:=mem_ready.1 hj
     have hnot:∀ e ∈ oj.after,Region.binds md e = true→e.on ≠ i:=fun e he hb heq=>by
      have h1:=hall e he hb
      have h0:=(mem_ready.1 hr).1
      rw [heq] at h1
      rcases Nat.lt_or_ge i listed.size with h' | h'
      · simp [h'] at h0 h1;rw [h0] at h1;cases h1
      · simp [Array.getElem?_eq_none h'] at h1
     have h2:=zE_ hoj (hno _ _ hoj) (hfree j oj hoj hji hjun hnot) (fun cs b=>hsel i oi cs b hi) (fun cs b=>hsel j oj cs b hoj) hQ hy h1
     have hfree':∀ k ok,ops[k]? = some ok→k ≠ i→(listed.setIfInBounds j true).getD k true = false →
      (∀ e ∈ ok.after,Region.binds md e = true→e.on ≠ i)→oi.apart ops ok = true:=fun k ok hk hki hun hno=>by
      refine hfree k ok hk hki ?_ hno
      by_cases hjk:j = k
      · subst hjk;exact hjun
      · rw [getD_set_ne true hjk] at hun;exact hun
     refine wpOpIn_mono (fun a' w' h3=>⟨h3.2.1,ih (listed.setIfInBounds j true) a' w' hfree' (ready_mono hr (Ne.symm hji)) h3.1 h3.2.1 ?_⟩) h2
     rw [Array.setIfInBounds_comm _ _ hji]
     exact h3.2.2
theorem AnyH_take (hF:∀ f,F.fn f) (hnd:ops.all qh_ = true) {i:Nat} {oi:Oper} {v:Value} {fuel:Nat} {listed:Array Bool} {a:Act} {w:World} (hi:ops[i]? = some oi)
 (hs:Region.noSelect ops = true) (hf:Region.free md ops listed i = true) (hr:(Region.ready md ops listed).contains i = true)
 (hQ:∀ c a w,Q (.panic c) (a.put oi.dst v) w→Q (.panic c) a w) (hy:YIf P ops S oi v a) (hS:S w)
 (h:k5_ F n P md ops Q S fuel (listed.setIfInBounds i true) (a.put oi.dst v) w):k5_ F n P md ops Q S (fuel + 1) listed a w:=
 wh_ hF hnd hi (Region.noSelect_spec hs) hQ fuel listed a w (Region.free_spec hi hf) (by simpa using hr) hy hS h
theorem q4_ (hF:∀ f,F.fn f) (hnd:ops.all qh_ = true) (i t:Nat) (v:Value) {oi:Oper} {fuel:Nat} {listed:Array Bool} {a:Act} {w:World} (hi:ops[i]? = some oi) (hd:oi.dst = some t)
 (hs:Region.noSelect ops = true) (hf:Region.free md ops listed i = true) (hr:(Region.ready md ops listed).contains i = true)
 (hQ:∀ c a w,Q (.panic c) (a.put (some t) v) w→Q (.panic c) a w) (hy:YIf P ops S oi v a) (hS:S w)
 (h:k5_ F n P md ops Q S fuel (listed.setIfInBounds i true) (a.put (some t) v) w):k5_ F n P md ops Q S (fuel + 1) listed a w:=
 AnyH_take hF hnd hi hs hf hr (by rw [hd];exact hQ) hy hS (by rw [hd];exact h)
theorem tkY (i t:Nat) (v:Value) {oi:Oper} {fuel:Nat} {listed:Array Bool} {a:Act} {w:World} (hi:ops[i]? = some oi) (hd:oi.dst = some t) (hS:S w) (hy:∀ w,S w→(execOp a.eval oi).run P w = .ok (.value v) w)
 (h:k5_ F n P md ops Q S fuel (listed.setIfInBounds i true) (a.put (some t) v) w)
 (hF:∀ f,F.fn f:=by exact fun _=>trivial) (hnd:ops.all qh_ = true:=by kernel_rfl) (hs:Region.noSelect ops = true:=by kernel_rfl) (hf:Region.free md ops listed i = true:=by kernel_rfl) (hr:(Region.ready md ops listed).contains i = true:=by kernel_rfl)
 (hQ:∀ c a w,Q (.panic c) (a.put (some t) v) w→Q (.panic c) a w:=by exact fun _ _ _ h=>h) (hw:Region.wanted oi (yielded ops a.tmps) = true:=by kernel_rfl):k5_ F n P md ops Q S (fuel + 1) listed a w:=
 q4_ hF hnd i t v hi hd hs hf hr hQ (.inl ⟨hw,hy⟩) hS h
theorem z0_ {i:Nat} {o:Oper} {fuel:Nat} {listed:Array Bool} {a:Act} {w:World} (hr:Region.ready md ops listed = [i]) (ho:ops[i]? = some o) (hw:Region.wanted o (yielded ops a.tmps) = true)
 (h:∀ K:Act→World→Prop,(∀ a w,S w∧k5_ F n P md ops Q S fuel (listed.setIfInBounds i true) a w→K a w)→Oper.wpIn F n P o a w K Q):k5_ F n P md ops Q S (fuel + 1) listed a w:=
 ⟨fun h0=>(by rw [hr] at h0;cases h0),hr ▸ fun j hj=>by
   obtain rfl:j = i:=by simpa using hj
   unfold wpOpIn
   rw [ho]
   simp only [hw,if_true]
   exact h _ fun _ _ h=>h⟩
theorem aHO (i:Nat) {o:Oper} {fuel:Nat} {listed:Array Bool} {a:Act} {w:World} (ho:ops[i]? = some o)
 (h:∀ K:Act→World→Prop,(∀ a w,S w∧k5_ F n P md ops Q S fuel (listed.setIfInBounds i true) a w→K a w)→Oper.wpIn F n P o a w K Q) (hr:Region.ready md ops listed = [i]:=by kernel_rfl) (hw:Region.wanted o (yielded ops a.tmps) = true:=by kernel_rfl):k5_ F n P md ops Q S (fuel + 1) listed a w:=z0_ hr ho hw h
theorem tkZ (i t:Nat) (v:Value) {oi:Oper} {fuel:Nat} {listed:Array Bool} {a:Act} {w:World} (hi:ops[i]? = some oi) (hd:oi.dst = some t) (hS:S w)
 (h:k5_ F n P md ops Q S fuel (listed.setIfInBounds i true) (a.put (some t) v) w) (hy:∀ w,S w→(execOp a.eval oi).run P w = .ok (.value v) w:=by intro w hs;(repeat (obtain ⟨_,hs⟩:=hs));go_simp)
 (hF:∀ f,F.fn f:=by exact fun _=>trivial) (hnd:ops.all qh_ = true:=by kernel_rfl) (hs:Region.noSelect ops = true:=by kernel_rfl) (hf:Region.free md ops listed i = true:=by kernel_rfl) (hr:(Region.ready md ops listed).contains i = true:=by kernel_rfl)
 (hQ:∀ c a w,Q (.panic c) (a.put (some t) v) w→Q (.panic c) a w:=by exact fun _ _ _ h=>h) (hw:Region.wanted oi (yielded ops a.tmps) = true:=by kernel_rfl):k5_ F n P md ops Q S (fuel + 1) listed a w:=tkY i t v hi hd hS hy h hF hnd hs hf hr hQ hw
theorem tkN (i t:Nat) {oi:Oper} {fuel:Nat} {listed:Array Bool} {a:Act} {w:World} (hi:ops[i]? = some oi) (hd:oi.dst = some t) (hS:S w)
 (h:k5_ F n P md ops Q S fuel (listed.setIfInBounds i true) (a.put (some t) undef) w)
 (hF:∀ f,F.fn f:=by exact fun _=>trivial) (hnd:ops.all qh_ = true:=by kernel_rfl) (hs:Region.noSelect ops = true:=by kernel_rfl) (hf:Region.free md ops listed i = true:=by kernel_rfl) (hr:(Region.ready md ops listed).contains i = true:=by kernel_rfl)
 (hQ:∀ c a w,Q (.panic c) (a.put (some t) undef) w→Q (.panic c) a w:=by exact fun _ _ _ h=>h) (hw:Region.wanted oi (yielded ops a.tmps) = false:=by kernel_rfl):k5_ F n P md ops Q S (fuel + 1) listed a w:=
 q4_ hF hnd i t undef hi hd hs hf hr hQ (.inr ⟨hw,rfl⟩) hS h
theorem q7_ {fuel:Nat} {listed:Array Bool} {a:Act} {w:World} (hr:Region.ready md ops listed = []) (h:Q .normal a w):k5_ F n P md ops Q S fuel listed a w:=by
 cases fuel with
 | zero=>exact ⟨hr,h⟩
 | succ f=>exact ⟨fun _=>h,fun i hi=>(by rw [hr] at hi;cases hi)⟩
theorem q6_ {id:Nat} {a:Act} {w:World} (S:World→Prop) (hm:P.follows .mixedOrders = true)
 (h:k5_ F n P .any ops Q S ops.size (Array.replicate ops.size false) a w.drew):(Code.region id ops true).wpIn F n P Q a w:=
 wpIn_region_any hm (k3_ _ _ _ _ h)
end
def yK_:Nat→Nat→List Fl→Fo × Nat
 | 0,_,_=>(.nil,0)
 | _ + 1,_,[]=>(.nil,0)
 | f + 1,d,x :: l=>
   if h:x.p.length = d + 1 then
    let a:=yK_ f (d + 1) l
    let b:=yK_ f d (l.drop a.2)
    (.cons x.p[d].n x.l a.1 b.1,1 + a.2 + b.2)
   else (.nil,0)
theorem jy_:∀ (f d:Nat) (l:List Fl),(yK_ f d l).2 ≤ l.length
 | 0,_,_=>by simp [yK_]
 | _ + 1,_,[]=>by simp [yK_]
 | f + 1,d,x :: l=>by
   simp only [yK_]
   split
   · have h1:=jy_ f (d + 1) l
     have h2:=jy_ f d (l.drop (yK_ f (d + 1) l).2)
     rw [List.length_drop] at h2
     simp only [List.length_cons];omega
   · simp
theorem k8_:∀ (f d:Nat) (l:List Fl),l.length ≤ f→yK_ f d l = yK_ l.length d l
 | 0,_,[],_=>rfl
 | 0,_,_ :: _,h=>by simp at h
 | _ + 1,_,[],_=>by simp [yK_]
 | f + 1,d,x :: l,h=>by
   have h':l.length ≤ f:=by simpa using h
   simp only [yK_,List.length_cons]
   split
   · rw [k8_ f (d + 1) l h',k8_ f d _ (by rw [List.length_drop];omega),k8_ l.length d _ (by rw [List.length_drop];omega)]
   · rfl
def treF (d:Nat) (l:List Fl):Fo × Nat:=yK_ l.length d l
theorem treF_no {d:Nat} {x:Fl} {l:List Fl} (h:x.p.length ≠ d + 1):treF d (x :: l) = (.nil,0):=by
 simp [treF,yK_,h]
theorem yH_ {d:Nat} {x:Fl} {l:List Fl} (h:x.p.length = d + 1):treF d (x :: l) =
 (.cons x.p[d].n x.l (treF (d + 1) l).1 (treF d (l.drop (treF (d + 1) l).2)).1,1 + (treF (d + 1) l).2 + (treF d (l.drop (treF (d + 1) l).2)).2):=by
 simp only [treF,List.length_cons,yK_,h,dif_pos]
 rw [k8_ l.length d _ (by rw [List.length_drop];omega)]
theorem treF_le (d:Nat) (l:List Fl):(treF d l).2 ≤ l.length:=jy_ _ _ _
def flsL (up:List Ky) (y:Fo):List Fl:=(qa_ up y).map fun x=>⟨x.up ++ [qn_ x.n x.l],x.l⟩
theorem y9_ (up:List Ky):flsL up .nil = []:=rfl
theorem kY_ (up:List Ky) (n:List UInt8) (l:List Int) (s r:Fo):flsL up (.cons n l s r) = ⟨up ++ [qn_ n l],l⟩ :: (flsL (up ++ [qn_ n l]) s ++ flsL up r):=by
 simp [flsL,qa_]
theorem je_ (up:List Ky) (y:Fo):(flsL up y).length = y.cnt:=by simp [flsL,qq_]
def Uf (w:World) (q:Nat):Prop:=∃ cs t,w.heap[q]? = some (.cells cs t (0,0))
def US (S:Nat→Prop) (w:World) (q:Nat):Prop:=S q∧Uf w q
abbrev IntU (S:Nat→Prop) (w:World) (v:Value) (l:List Int):Prop:=zh_ (US S w) w v l
abbrev FCsU (S:Nat→Prop) (w:World) (y:Fo) (cs:List Value):Prop:=FCs (US S w) w y cs
abbrev FSlU (S:Nat→Prop) (w:World) (v:Value) (y:Fo):Prop:=FSl (US S w) w v y
theorem US.agree {S:Nat→Prop} {w w':World} (ha:qg_ S w w'):qg_ (US S w) w w'∧∀ q,US S w q→US S w' q:=
 ⟨fun q hq=>ha q hq.1,fun q hq=>⟨hq.1,let ⟨cs,t,h⟩:=hq.2;⟨cs,t,(ha q hq.1).trans h⟩⟩⟩
theorem US.wide {S S':Nat→Prop} {w:World} (hs:∀ b,S b→S' b):∀ q,US S w q→US S' w q:=fun q hq=>⟨hs q hq.1,hq.2⟩
theorem IntU.agree {S:Nat→Prop} {w w':World} {v:Value} {l:List Int} (h:IntU S w v l) (ha:qg_ S w w'):IntU S w' v l:=(zh_.agree h (US.agree ha).1).wide (US.agree ha).2
theorem IntU.wide {S S':Nat→Prop} {w:World} {v:Value} {l:List Int} (h:IntU S w v l) (hs:∀ b,S b→S' b):IntU S' w v l:=zh_.wide h (US.wide hs)
theorem FCsU.agree {S:Nat→Prop} {w w':World} {y:Fo} {cs:List Value} (h:FCsU S w y cs) (ha:qg_ S w w'):FCsU S w' y cs:=(FCs.agree (US.agree ha).1 h).wide (US.agree ha).2
theorem FCsU.wide {S S':Nat→Prop} {w:World} {y:Fo} {cs:List Value} (h:FCsU S w y cs) (hs:∀ b,S b→S' b):FCsU S' w y cs:=FCs.wide (US.wide hs) h
theorem FSlU.agree {S:Nat→Prop} {w w':World} {v:Value} {y:Fo} (h:FSlU S w v y) (ha:qg_ S w w'):FSlU S w' v y:=(FSl.agree h (US.agree ha).1).wide (US.agree ha).2
theorem FSlU.wide {S S':Nat→Prop} {w:World} {v:Value} {y:Fo} (h:FSlU S w v y) (hs:∀ b,S b→S' b):FSlU S' w v y:=FSl.wide h (US.wide hs)
theorem FCsU.app {S:Nat→Prop} {w:World} {y z:Fo} {cs ds:List Value} (h:FCsU S w y cs) (k:FCsU S w z ds):FCsU S w (y.app z) (cs ++ ds):=FCs.app h k
theorem FCsU.one {S:Nat→Prop} {w:World} {n:List UInt8} {l:List Int} {s:Fo} {vn vs:Value} (h1:IntU S w vn l) (h2:FSlU S w vs s):FCsU S w (.cons n l s .nil) [.string (bs n),vn,vs]:=FCs.one h1 h2
theorem FSlU.fsl {S:Nat→Prop} {w:World} {v:Value} {y:Fo} (h:FSlU S w v y):FSl S w v y:=FSl.wide h fun q hq=>hq.1
theorem Stable.intu (v:Value) (l:List Int):Stable (fun S w=>IntU S w v l):=⟨fun h=>IntU.agree h,fun h=>IntU.wide h⟩
theorem Stable.fslu (v:Value) (y:Fo):Stable (fun S w=>FSlU S w v y):=⟨fun h=>FSlU.agree h,fun h=>FSlU.wide h⟩
theorem Stable.fcsu (y:Fo) (cs:List Value):Stable (fun S w=>FCsU S w y cs):=⟨fun h ha=>FCsU.agree h ha,fun h hw=>FCsU.wide h hw⟩
theorem SlC.of_owns_u {w:World} {base e k n:Nat} {v:Value} {xs:List Value} (h:w.ownsRow base e k v n xs):SlC (US (Rg base w.heap.size) w) w k v n xs:=by
 obtain ⟨h1,h2⟩:=h
 refine ⟨h1,?_⟩
 rcases h2 with ⟨rfl,rfl⟩ | ⟨g,cap,cur,rfl,hb,hg,hn,hc,hs,ht⟩
 · exact ⟨none,0,rfl,by omega,by simp [maxLen],fun _=>rfl, .inl rfl⟩
 · refine ⟨_,cap,rfl,hn,hc,(fun h=>by cases h), .inr ⟨g,0,rfl,⟨⟨hb,(ge_ hg).1⟩,_,_,hg⟩,fun j u hj=>?_⟩⟩
   simp only [World.cell?,hg,Nat.zero_add]
   rw [← ht,List.getElem?_take] at hj
   split at hj
   · simpa using hj
   · cases hj
structure Cmp {α:Type} (f:α→α→Int):Prop where
 refl:∀ a,f a a = 0
 eq:∀ {a b},f a b = 0→a = b
 flip:∀ {a b},f a b < 0→0 < f b a
 flop:∀ {a b},0 < f a b→f b a < 0
 trans:∀ {a b c},f a b < 0→f b c < 0→f a c < 0
theorem kk_:Cmp wo_ where
 refl a:=by simp [wo_]
 eq {a b} h:=by unfold wo_ at h;split at h <;> (try split at h) <;> omega
 flip {a b} h:=by unfold wo_ at *;split at h <;> (try split at h) <;> (repeat' split) <;> omega
 flop {a b} h:=by unfold wo_ at *;split at h <;> (try split at h) <;> (repeat' split) <;> omega
 trans {a b c} h k:=by
  unfold wo_ at *
  split at h <;> (try split at h) <;> split at k <;> (try split at k) <;> (repeat' split) <;> omega
theorem bl_cons (a b:UInt8) (x y:List UInt8):Op.bytesLess (a :: x) (b :: y) = (decide (a < b) || (a == b && Op.bytesLess x y)):=rfl
theorem y5_:∀ {a b:List UInt8},Op.bytesLess a b = true→Op.bytesLess b a = false
 | [],[],h=>by simp [Op.bytesLess] at h
 | [],_ :: _,_=>by simp [Op.bytesLess]
 | _ :: _,[],h=>by simp [Op.bytesLess] at h
 | a :: x,b :: y,h=>by
   rw [bl_cons] at *
   simp only [Bool.or_eq_true,decide_eq_true_eq,Bool.and_eq_true,beq_iff_eq,Bool.or_eq_false_iff,decide_eq_false_iff_not,Bool.and_eq_false_iff,beq_eq_false_iff_ne,ne_eq,UInt8.lt_iff_toNat_lt] at *
   rcases h with h | ⟨rfl,h⟩
   · exact ⟨by omega, .inl (fun e=>by subst e;omega)⟩
   · exact ⟨by omega, .inr (y5_ h)⟩
theorem yg_:∀ {a b c:List UInt8},Op.bytesLess a b = true→Op.bytesLess b c = true→Op.bytesLess a c = true
 | _,[],_,h,_=>by cases ‹List UInt8› <;> simp [Op.bytesLess] at h
 | _,_ :: _,[],_,k=>by simp [Op.bytesLess] at k
 | [],_ :: _,_ :: _,_,_=>by simp [Op.bytesLess]
 | a :: x,b :: y,c :: z,h,k=>by
   rw [bl_cons] at *
   simp only [Bool.or_eq_true,decide_eq_true_eq,Bool.and_eq_true,beq_iff_eq,UInt8.lt_iff_toNat_lt] at *
   rcases h with h | ⟨rfl,h⟩ <;> rcases k with k | ⟨rfl,k⟩
   · exact .inl (by omega)
   · exact .inl h
   · exact .inl k
   · exact .inr ⟨rfl,yg_ h k⟩
theorem ku_ {a b:List UInt8}:wr_ a b < 0 ↔ Op.bytesLess a b = true:=by
 unfold wr_
 cases h:Op.bytesLess a b <;> simp
 split <;> omega
theorem jF_ {a b:List UInt8}:0 < wr_ a b ↔ Op.bytesLess b a = true:=by
 unfold wr_
 cases h:Op.bytesLess a b
 · cases k:Op.bytesLess b a <;> simp
 · simp [y5_ h]
theorem ki_:Cmp wr_ where
 refl a:=by simp [wr_,vm_]
 eq {a b} h:=by
  have h1:Op.bytesLess a b = false:=by cases e:Op.bytesLess a b;rfl;have:=ku_.2 e;omega
  have h2:Op.bytesLess b a = false:=by cases e:Op.bytesLess b a;rfl;have:=jF_.2 e;omega
  exact xh_ h1 h2
 flip {a b} h:=jF_.2 (ku_.1 h)
 flop {a b} h:=ku_.2 (jF_.1 h)
 trans {a b c} h k:=ku_.2 (yg_ (ku_.1 h) (ku_.1 k))
theorem z6_ {a b:Ky} (hn:a.n = b.n) (hh:a.h = b.h):byK a b = wo_ a.x b.x:=by simp [byK,hn,hh]
theorem qJ_ {a b:Ky} (hn:a.n ≠ b.n):byK a b = wr_ a.n b.n:=by simp [byK,hn]
theorem zf_ {a b:Ky} (hn:a.n = b.n) (hh:a.h ≠ b.h):byK a b = if b.h then -1 else 1:=by simp [byK,hn,hh]
theorem qR_:Cmp byK where
 refl a:=by rw [z6_ rfl rfl,kk_.refl]
 eq {a b} h:=by
  by_cases hn:a.n = b.n
  · by_cases hh:a.h = b.h
    · rw [z6_ hn hh] at h
      have hx:=kk_.eq h
      cases a;cases b;simp_all
    · rw [zf_ hn hh] at h;split at h <;> omega
  · rw [qJ_ hn] at h;exact absurd (ki_.eq h) hn
 flip {a b} h:=by
  by_cases hn:a.n = b.n
  · by_cases hh:a.h = b.h
    · rw [z6_ hn hh] at h;rw [z6_ hn.symm hh.symm];exact kk_.flip h
    · rw [zf_ hn hh] at h;rw [zf_ hn.symm (Ne.symm hh)]
      cases h1:a.h <;> cases h2:b.h <;> simp_all
  · rw [qJ_ hn] at h;rw [qJ_ (Ne.symm hn)];exact ki_.flip h
 flop {a b} h:=by
  by_cases hn:a.n = b.n
  · by_cases hh:a.h = b.h
    · rw [z6_ hn hh] at h;rw [z6_ hn.symm hh.symm];exact kk_.flop h
    · rw [zf_ hn hh] at h;rw [zf_ hn.symm (Ne.symm hh)]
      cases h1:a.h <;> cases h2:b.h <;> simp_all
  · rw [qJ_ hn] at h;rw [qJ_ (Ne.symm hn)];exact ki_.flop h
 trans {a b c} h k:=by
  by_cases hn:a.n = b.n
  · by_cases kn:b.n = c.n
    · by_cases hh:a.h = b.h
      · by_cases kh:b.h = c.h
        · rw [z6_ hn hh] at h;rw [z6_ kn kh] at k;rw [z6_ (hn.trans kn) (hh.trans kh)];exact kk_.trans h k
        · rw [zf_ kn kh] at k;rw [zf_ (hn.trans kn) (by rw [hh];exact kh)];exact k
      · by_cases kh:b.h = c.h
        · rw [zf_ hn hh] at h;rw [zf_ (hn.trans kn) (by rw [← kh];exact hh),← kh];exact h
        · rw [zf_ hn hh] at h;rw [zf_ kn kh] at k
          cases h1:a.h <;> cases h2:b.h <;> cases h3:c.h <;> simp_all
    · rw [qJ_ kn] at k;rw [qJ_ (by rw [hn];exact kn),hn];exact k
  · by_cases kn:b.n = c.n
    · rw [qJ_ hn] at h;rw [qJ_ (by rw [← kn];exact hn),← kn];exact h
    · rw [qJ_ hn] at h;rw [qJ_ kn] at k
      have:=ki_.trans h k
      rw [qJ_ (fun e=>by rw [e,ki_.refl] at this;omega)];exact this
theorem qi_:Cmp cmpP:=by
 have key:∀ (a b:List Ky),(cmpP a b < 0→0 < cmpP b a)∧(0 < cmpP a b→cmpP b a < 0)∧(cmpP a b = 0→a = b):=by
  intro a
  induction a with
  | nil=>intro b;cases b <;> simp [cmpP]
  | cons x a ih=>
    intro b
    cases b with
    | nil=>simp [cmpP]
    | cons y b=>
      simp only [cmpP]
      by_cases h:byK x y = 0
      · obtain rfl:=qR_.eq h
        simp only [h,ne_eq,not_true,if_false]
        have:=ih b
        exact ⟨this.1,this.2.1,fun e=>by rw [this.2.2 e]⟩
      · have h':byK y x ≠ 0:=fun e=>h (by rw [qR_.eq e,qR_.refl])
        simp only [ne_eq,h,h',not_false_eq_true,if_true]
        exact ⟨qR_.flip,qR_.flop,fun e=>absurd e (by simpa using h)⟩
 have rf:∀ a:List Ky,cmpP a a = 0:=by
  intro a
  induction a with
  | nil=>rfl
  | cons x a ih=>simp [cmpP,qR_.refl,ih]
 refine ⟨rf,fun {a b}=>(key a b).2.2,fun {a b}=>(key a b).1,fun {a b}=>(key a b).2.1,fun {a b c}=>?_⟩
 induction a generalizing b c with
 | nil=>
   intro h k
   cases b with
   | nil=>simp [cmpP] at h
   | cons y b=>cases c with
     | nil=>simp [cmpP] at k
     | cons z c=>simp [cmpP]
 | cons x a ih=>
   intro h k
   cases b with
   | nil=>simp [cmpP] at h
   | cons y b=>cases c with
     | nil=>simp [cmpP] at k
     | cons z c=>
       simp only [cmpP] at h k ⊢
       by_cases h1:byK x y = 0
       · obtain rfl:=qR_.eq h1
         simp only [h1,ne_eq,not_true,if_false] at h
         by_cases h2:byK x z = 0
         · simp only [h2,ne_eq,not_true,if_false] at k ⊢;exact ih h k
         · simp only [h2,ne_eq,not_false_eq_true,if_true] at k ⊢;exact k
       · simp only [h1,ne_eq,not_false_eq_true,if_true] at h
         by_cases h2:byK y z = 0
         · obtain rfl:=qR_.eq h2
           simp only [h1,ne_eq,not_false_eq_true,if_true];exact h
         · simp only [h2,ne_eq,not_false_eq_true,if_true] at k
           have h3:=qR_.trans h k
           have h4:byK x z ≠ 0:=by omega
           simp only [h4,ne_eq,not_false_eq_true,if_true];exact h3
theorem LSl.on {α:Type} {k:Nat} {r:Rd α k} {w w':World} {v:Value} {xs:List α} (h:LSl r (fun q=>q < w.heap.size) w v xs) (hb:Below w.heap.size w w'):LSl r (fun q=>q < w'.heap.size) w' v xs:=
 (h.agree (qc_ hb fun q hq=>hq)).wide fun q hq=>Nat.lt_of_lt_of_le hq hb.size
theorem FSl.on {w w':World} {v:Value} {y:Fo} (h:FSl (fun q=>q < w.heap.size) w v y) (hb:Below w.heap.size w w'):FSl (fun q=>q < w'.heap.size) w' v y:=
 (h.agree (qc_ hb fun q hq=>hq)).wide fun q hq=>Nat.lt_of_lt_of_le hq hb.size
theorem Pth.on {w w':World} {v:Value} {p:List Ky} (h:Pth (fun q=>q < w.heap.size) w v p) (hb:Below w.heap.size w w'):Pth (fun q=>q < w'.heap.size) w' v p:=
 (h.agree (qc_ hb fun q hq=>hq)).wide fun q hq=>Nat.lt_of_lt_of_le hq hb.size
variable {P:Program}
variable {α:Type} {k:Nat}
structure RowS (r:Rd α k) (e:TypeId) (S:Nat→Prop) (lo:Nat) (W:World) (v:Value) (xs:List α):Prop where
 row:∃ cs,W.ownsRow lo e k v xs.length cs∧LCs r S W xs cs
variable {r:Rd α k} {e:TypeId} {S:Nat→Prop} {lo:Nat} {W:World} {v:Value} {xs:List α}
theorem RowS.nil {w:Nat} (W:World):RowS r e S w W (.slice none 0 0) []:=⟨[],World.ownsRow_nil _ _ _ _,rfl⟩
theorem RowS.below {W':World} (h:RowS r e S lo W v xs) (hS:∀ b,S b→b < W.heap.size) (hb:Below W.heap.size W W'):RowS r e S lo W' v xs:=by
 obtain ⟨cs,h1,h2⟩:=h.row
 exact ⟨cs,ob_ h1 hb (nl_ _),h2.agree (qc_ hb hS)⟩
theorem RowS.kept {W':World} {row:Option Nat} (h:RowS r e S lo W v xs) (hS:∀ b,S b→b < W.heap.size∧row ≠ some b) (hg:W.grownBy W' row) (hn:v.ownBlock = none ∨ v.ownBlock ≠ row):RowS r e S lo W' v xs:=by
 obtain ⟨cs,h1,h2⟩:=h.row
 exact ⟨cs,h1.kept hg hn,h2.agree (qg_.grown hg hS)⟩
theorem RowS.shape (h:RowS r e S lo W v xs):∃ a c,v = .slice a xs.length c∧xs.length ≤ c∧c ≤ maxLen:=by
 obtain ⟨cs,h1,_⟩:=h.row
 exact owns_shape h1
theorem RowS.lsl (h:RowS r e S lo W v xs):LSl r (fun b=>S b ∨ Rg lo W.heap.size b) W v xs:=by
 obtain ⟨cs,h1,h2⟩:=h.row
 exact ⟨cs,(SlC.of_owns h1).wide fun b hb => .inr hb,h2.wide fun b hb => .inl hb⟩
theorem RowS.lt (h:RowS r e S lo W v xs):∀ b,v.ownBlock = some b→lo ≤ b∧b < W.heap.size:=by
 obtain ⟨cs,h1,_⟩:=h.row
 exact fun b hb=>h1.lt b hb
theorem RowS.wide {S':Nat→Prop} (h:RowS r e S lo W v xs) (hs:∀ b,S b→S' b):RowS r e S' lo W v xs:=by
 obtain ⟨cs,h1,h2⟩:=h.row
 exact ⟨cs,h1,h2.wide hs⟩
end Go.Proofs.LF
namespace Go.Proofs.LF
open Go.RowKit
set_option maxHeartbeats 1000000
set_option maxRecDepth 100000
attribute [local go_sem] q1_
def qB_ (k:Nat) (cs:List Value) (i:Nat):Value:=if k = 1 then cs.getD i undef else .agg ((List.range k).map fun j=>cs.getD (i * k + j) undef).toArray
def zn_ (g:Nat):Prop:=∀ (args:Array Value) (W:World),Sem.run Tryz.prog (callFunc g args) W = .ok (.enter g args) W
def zB_ (g:Nat) (caps:List Value) (w:World) (args:List Value) (b:Bool):Prop:=
 ∀ W,Below w.heap.size w W→Calls Tryz.prog g (args ++ caps).toArray W fun e w'=>e = .returned (.bool b)∧Below W.heap.size W w'
theorem qf_ {l:List Value} {i:Nat} (h:i < l.length):l[i]? = some (l.getD i undef):=by
 rw [List.getD_eq_getElem?_getD,List.getElem?_eq_getElem h];rfl
theorem idx_int (g:Nat) (hE:zn_ g) (p:Nat→Bool) (caps:List Value) (n:Nat) (a:Option Addr) (c:Nat) (cs:List Value) (S:Nat→Prop) (w:World) (hl:SlC S w 1 (.slice a n c) n cs) (hS:∀ b,S b→b < w.heap.size) (hlen:n ≤ 100000)
 (hp:∀ i,i < n→zB_ g caps w [qB_ 1 cs i] (p i)) :
 Calls Tryz.prog 206 #[.slice a n c, .func (.func g) #[] caps.toArray] w fun e w'=>e = .returned (.int .i64 (idxN p n))∧Below w.heap.size w w':=by
 have hE':∀ (args:Array Value) (W:World),Sem.run Tryz.prog (callFunc g args) W = .ok (.enter g args) W:=hE
 clear hE
 go_enter Tryz.func206,Tryz.ntmps206
 go_wp2_with fail
 go_loopw [8] (fun i wr=>∃ k:Nat,k ≤ n∧i = .int .i64 k∧Hid (∀ j,j < k→p j = false)∧Below w.heap.size w wr) (fun i _=>n - (intOf i).toNat)
 case atStart=>exact ⟨0,by omega,rfl,by intro j hj;omega,Below.refl _ _⟩
 case round=>
  obtain ⟨k,hk,rfl,H2,hB⟩:=hrel
  have HP:=hid hp
  clear hp
  by_cases hlt:k < n
  · obtain ⟨g',o,rfl,hg,_,_,hcell⟩:=SlC.cells hl (by omega)
    have hx0:=(qc_ (S:=S) hB hS).cell hg (hcell k _ (qf_ (by have:=hl.1;omega)))
    clear hcell
    go_wp2_with fail
    refine (HP.out k hlt _ hB).mono ?_
    rintro e w' ⟨rfl,hb'⟩
    cases hpx:p k with
    | true=>
      have HX:=hid hpx
      clear hpx
      go_wp2_with fail
      go_ret
      exact ⟨qd_ (qU_ H2.out hlt HX.out).symm,hB.trans (hb'.mono hB.size)⟩
    | false=>
      have HX:=hid hpx
      clear hpx
      go_wp2_with fail
      go_roundw
      case rel=>exact ⟨k + 1,by omega,by go_num,fun j hj=>by rcases Nat.lt_succ_iff_lt_or_eq.1 hj with h | h;exact H2.out j h;rw [h];exact HX.out,hB.trans (hb'.mono hB.size)⟩
      case measure=>simp [intOf];omega
  · go_wp2_with fail
    go_ret
    obtain rfl:k = n:=by omega
    exact ⟨qd_ (zb_ H2.out).symm,hB⟩
theorem yp_ (g:Nat) (hE:zn_ g) (p:Nat→Bool) (caps:List Value) (n:Nat) (a:Option Addr) (c:Nat) (cs:List Value) (S:Nat→Prop) (w:World) (hl:SlC S w 1 (.slice a n c) n cs) (hS:∀ b,S b→b < w.heap.size) (hlen:n ≤ 100000)
 (hp:∀ i,i < n→zB_ g caps w [qB_ 1 cs i] (p i)) :
 Calls Tryz.prog 175 #[.slice a n c, .func (.func g) #[] caps.toArray] w fun e w'=>e = .returned (.bool (wc_ p n))∧Below w.heap.size w w':=by
 have HP:=hid hp
 clear hp
 go_enter Tryz.func175,Tryz.ntmps175
 go_wp2_with fail
 refine (idx_int g hE p caps n a c cs S w hl hS hlen HP.out).mono ?_
 rintro e w' ⟨rfl,hb⟩
 go_wp2_with fail
 go_ret
 exact ⟨qj_ (zw_ p n),hb⟩
theorem idx_flat (g:Nat) (hE:zn_ g) (p:Nat→Bool) (caps:List Value) (n:Nat) (a:Option Addr) (c:Nat) (cs:List Value) (S:Nat→Prop) (w:World) (hl:SlC S w 2 (.slice a n c) n cs) (hS:∀ b,S b→b < w.heap.size) (hlen:n ≤ 100000)
 (hp:∀ i,i < n→zB_ g caps w [qB_ 2 cs i] (p i)) :
 Calls Tryz.prog 47 #[.slice a n c, .func (.func g) #[] caps.toArray] w fun e w'=>e = .returned (.int .i64 (idxN p n))∧Below w.heap.size w w':=by
 have hE':∀ (args:Array Value) (W:World),Sem.run Tryz.prog (callFunc g args) W = .ok (.enter g args) W:=hE
 clear hE
 go_enter Tryz.func47,Tryz.ntmps47
 go_wp2_with fail
 go_loopw [8] (fun i wr=>∃ k:Nat,k ≤ n∧i = .int .i64 k∧Hid (∀ j,j < k→p j = false)∧Below w.heap.size w wr) (fun i _=>n - (intOf i).toNat)
 case atStart=>exact ⟨0,by omega,rfl,by intro j hj;omega,Below.refl _ _⟩
 case round=>
  obtain ⟨k,hk,rfl,H2,hB⟩:=hrel
  have HP:=hid hp
  clear hp
  by_cases hlt:k < n
  · obtain ⟨g',o,rfl,hg,_,_,hcell⟩:=SlC.cells hl (by omega)
    have hx0:=(qc_ (S:=S) hB hS).cell hg (hcell (k * 2) _ (qf_ (by have:=hl.1;omega)))
    have hx1:=(qc_ (S:=S) hB hS).cell hg (hcell (k * 2 + 1) _ (qf_ (by have:=hl.1;omega)))
    simp only [← Nat.add_assoc] at hx1
    clear hcell
    go_wp2_with fail
    refine (HP.out k hlt _ hB).mono ?_
    rintro e w' ⟨rfl,hb'⟩
    cases hpx:p k with
    | true=>
      have HX:=hid hpx
      clear hpx
      go_wp2_with fail
      go_ret
      exact ⟨qd_ (qU_ H2.out hlt HX.out).symm,hB.trans (hb'.mono hB.size)⟩
    | false=>
      have HX:=hid hpx
      clear hpx
      go_wp2_with fail
      go_roundw
      case rel=>exact ⟨k + 1,by omega,by go_num,fun j hj=>by rcases Nat.lt_succ_iff_lt_or_eq.1 hj with h | h;exact H2.out j h;rw [h];exact HX.out,hB.trans (hb'.mono hB.size)⟩
      case measure=>simp [intOf];omega
  · go_wp2_with fail
    go_ret
    obtain rfl:k = n:=by omega
    exact ⟨qd_ (zb_ H2.out).symm,hB⟩
theorem idx_path (g:Nat) (hE:zn_ g) (p:Nat→Bool) (caps:List Value) (n:Nat) (a:Option Addr) (c:Nat) (cs:List Value) (S:Nat→Prop) (w:World) (hl:SlC S w 1 (.slice a n c) n cs) (hS:∀ b,S b→b < w.heap.size) (hlen:n ≤ 100000)
 (hp:∀ i,i < n→zB_ g caps w [qB_ 1 cs i] (p i)) :
 Calls Tryz.prog 79 #[.slice a n c, .func (.func g) #[] caps.toArray] w fun e w'=>e = .returned (.int .i64 (idxN p n))∧Below w.heap.size w w':=by
 have hE':∀ (args:Array Value) (W:World),Sem.run Tryz.prog (callFunc g args) W = .ok (.enter g args) W:=hE
 clear hE
 go_enter Tryz.func79,Tryz.ntmps79
 go_wp2_with fail
 go_loopw [8] (fun i wr=>∃ k:Nat,k ≤ n∧i = .int .i64 k∧Hid (∀ j,j < k→p j = false)∧Below w.heap.size w wr) (fun i _=>n - (intOf i).toNat)
 case atStart=>exact ⟨0,by omega,rfl,by intro j hj;omega,Below.refl _ _⟩
 case round=>
  obtain ⟨k,hk,rfl,H2,hB⟩:=hrel
  have HP:=hid hp
  clear hp
  by_cases hlt:k < n
  · obtain ⟨g',o,rfl,hg,_,_,hcell⟩:=SlC.cells hl (by omega)
    have hx0:=(qc_ (S:=S) hB hS).cell hg (hcell k _ (qf_ (by have:=hl.1;omega)))
    clear hcell
    go_wp2_with fail
    refine (HP.out k hlt _ hB).mono ?_
    rintro e w' ⟨rfl,hb'⟩
    cases hpx:p k with
    | true=>
      have HX:=hid hpx
      clear hpx
      go_wp2_with fail
      go_ret
      exact ⟨qd_ (qU_ H2.out hlt HX.out).symm,hB.trans (hb'.mono hB.size)⟩
    | false=>
      have HX:=hid hpx
      clear hpx
      go_wp2_with fail
      go_roundw
      case rel=>exact ⟨k + 1,by omega,by go_num,fun j hj=>by rcases Nat.lt_succ_iff_lt_or_eq.1 hj with h | h;exact H2.out j h;rw [h];exact HX.out,hB.trans (hb'.mono hB.size)⟩
      case measure=>simp [intOf];omega
  · go_wp2_with fail
    go_ret
    obtain rfl:k = n:=by omega
    exact ⟨qd_ (zb_ H2.out).symm,hB⟩
theorem cont_path (g:Nat) (hE:zn_ g) (p:Nat→Bool) (caps:List Value) (n:Nat) (a:Option Addr) (c:Nat) (cs:List Value) (S:Nat→Prop) (w:World) (hl:SlC S w 1 (.slice a n c) n cs) (hS:∀ b,S b→b < w.heap.size) (hlen:n ≤ 100000)
 (hp:∀ i,i < n→zB_ g caps w [qB_ 1 cs i] (p i)) :
 Calls Tryz.prog 34 #[.slice a n c, .func (.func g) #[] caps.toArray] w fun e w'=>e = .returned (.bool (wc_ p n))∧Below w.heap.size w w':=by
 have HP:=hid hp
 clear hp
 go_enter Tryz.func34,Tryz.ntmps34
 go_wp2_with fail
 refine (idx_path g hE p caps n a c cs S w hl hS hlen HP.out).mono ?_
 rintro e w' ⟨rfl,hb⟩
 go_wp2_with fail
 go_ret
 exact ⟨qj_ (zw_ p n),hb⟩
end Go.Proofs.LF
namespace Go.Proofs.LF
open Go.RowKit
def zm_ (E:TypeId):(Nat→Prop)→World→Fo→List Value→Prop
 | _,_, .nil,cs=>cs = []
 | S,w, .cons n l s r,cs=>∃ (vn vs:Value) (cs':List Value) (S1 S2 S3:Nat→Prop),cs = .string (bs n) :: vn :: vs :: cs' ∧
    (∀ b,S1 b ∨ S2 b ∨ S3 b→S b)∧(∀ b,S1 b→¬ S2 b)∧(∀ b,S1 b→¬ S3 b)∧(∀ b,S2 b→¬ S3 b)∧IntU S1 w vn l ∧
    (∃ ds,w.ownsRow 0 E 3 vs s.len ds∧(∀ g,vs.ownBlock = some g→S2 g)∧zm_ E (fun b=>S2 b∧vs.ownBlock ≠ some b) w s ds)∧zm_ E S3 w r cs'
def FOw (E:TypeId) (S:Nat→Prop) (w:World) (v:Value) (y:Fo):Prop:=
 ∃ ds,w.ownsRow 0 E 3 v y.len ds∧(∀ g,v.ownBlock = some g→S g)∧zm_ E (fun b=>S b∧v.ownBlock ≠ some b) w y ds
theorem q3_ {w w':World} {base e k n:Nat} {v:Value} {xs:List Value} (h:w.ownsRow base e k v n xs) (ha:∀ g,v.ownBlock = some g→w'.heap[g]? = w.heap[g]?):w'.ownsRow base e k v n xs:=by
 refine ⟨h.1,?_⟩
 rcases h.2 with hn | ⟨g,cap,cur,rfl,hb,hgg,rest⟩
 · exact .inl hn
 · exact .inr ⟨g,cap,cur,rfl,hb,(ha g rfl).trans hgg,rest⟩
theorem qF_ {w:World} {base base' e k n:Nat} {v:Value} {xs:List Value} (h:w.ownsRow base e k v n xs) (hb:∀ g,v.ownBlock = some g→base' ≤ g):w.ownsRow base' e k v n xs:=by
 refine ⟨h.1,?_⟩
 rcases h.2 with hn | ⟨g,cap,cur,rfl,hb',hgg,rest⟩
 · exact .inl hn
 · exact .inr ⟨g,cap,cur,rfl,hb g rfl,hgg,rest⟩
theorem zm_.agree {E:TypeId} {w w':World}:∀ {y:Fo} {S:Nat→Prop} {cs:List Value},zm_ E S w y cs→qg_ S w w'→zm_ E S w' y cs
 | .nil,_,_,h,_=>h
 | .cons n l s r,S,cs,⟨vn,vs,cs',S1,S2,S3,h1,hs,d1,d2,d3,h2,⟨ds,h3,h4,h5⟩,h6⟩,ha=>
   ⟨vn,vs,cs',S1,S2,S3,h1,hs,d1,d2,d3,IntU.agree h2 (fun b hb=>ha b (hs b (.inl hb))),
     ⟨ds,q3_ h3 (fun g hg=>ha g (hs g (.inr (.inl (h4 g hg))))),h4,h5.agree (fun b hb=>ha b (hs b (.inr (.inl hb.1))))⟩,h6.agree (fun b hb=>ha b (hs b (.inr (.inr hb))))⟩
theorem zm_.wide {E:TypeId} {w:World}:∀ {y:Fo} {S S':Nat→Prop} {cs:List Value},zm_ E S w y cs→(∀ b,S b→S' b)→zm_ E S' w y cs
 | .nil,_,_,_,h,_=>h
 | .cons n l s r,S,S',cs,⟨vn,vs,cs',S1,S2,S3,h1,hs,d1,d2,d3,h2,h3,h6⟩,hw=>
   ⟨vn,vs,cs',S1,S2,S3,h1,fun b hb=>hw b (hs b hb),d1,d2,d3,h2,h3,h6⟩
theorem zm_.app {E:TypeId} {w:World}:∀ {y z:Fo} {S S':Nat→Prop} {cs ds:List Value},zm_ E S w y cs→zm_ E S' w z ds→(∀ b,S b→¬ S' b)→zm_ E (fun b=>S b ∨ S' b) w (y.app z) (cs ++ ds)
 | .nil,z,_,_,_,_,h,h',_=>by rw [show _ = [] from h];exact h'.wide (fun b hb => .inr hb)
 | .cons n l s r,z,S,S',cs,ds,⟨vn,vs,cs',S1,S2,S3,h1,hs,d1,d2,d3,h2,h3,h6⟩,h',hd=>
   ⟨vn,vs,cs' ++ ds,S1,S2,fun b=>S3 b ∨ S' b,by rw [h1];rfl,fun b hb=>by
     rcases hb with hb | hb | hb | hb
     · exact .inl (hs b (.inl hb))
     · exact .inl (hs b (.inr (.inl hb)))
     · exact .inl (hs b (.inr (.inr hb)))
     · exact .inr hb,
     d1,fun b hb h=>h.elim (d2 b hb) (hd b (hs b (.inl hb))),fun b hb h=>h.elim (d3 b hb) (hd b (hs b (.inr (.inl hb)))),h2,h3,
     h6.app h' (fun b hb=>hd b (hs b (.inr (.inr hb))))⟩
theorem zm_.fcs {E:TypeId} {w:World}:∀ {y:Fo} {S:Nat→Prop} {cs:List Value},zm_ E S w y cs→FCs S w y cs
 | .nil,_,_,h=>h
 | .cons n l s r,S,cs,⟨vn,vs,cs',S1,S2,S3,h1,hs,_,_,_,h2,⟨ds,h3,h4,h5⟩,h6⟩=>by
   refine ⟨vn,vs,cs',h1,zh_.wide h2 (fun b hb=>hs b (.inl hb.1)),⟨ds,?_,h5.fcs.wide (fun b hb=>hs b (.inr (.inl hb.1)))⟩,h6.fcs.wide (fun b hb=>hs b (.inr (.inr hb)))⟩
   exact owns_slc h3 (fun g hg=>hs g (.inr (.inl (h4 g hg))))
 where
 owns_slc {w:World} {base e k n:Nat} {v:Value} {xs:List Value} {S:Nat→Prop} (h:w.ownsRow base e k v n xs) (hS:∀ g,v.ownBlock = some g→S g):SlC S w k v n xs:=by
  obtain ⟨h1,h2⟩:=h
  refine ⟨h1,?_⟩
  rcases h2 with ⟨rfl,rfl⟩ | ⟨g,cap,cur,rfl,hb,hg,hn,hc,hs,ht⟩
  · exact ⟨none,0,rfl,by omega,by simp [maxLen],fun _=>rfl, .inl rfl⟩
  · refine ⟨_,cap,rfl,hn,hc,(fun h=>by cases h), .inr ⟨g,0,rfl,hS g rfl,fun j u hj=>?_⟩⟩
    simp only [World.cell?,hg,Nat.zero_add]
    rw [← ht,List.getElem?_take] at hj
    split at hj
    · simpa using hj
    · cases hj
theorem FOw.agree {E:TypeId} {S:Nat→Prop} {w w':World} {v:Value} {y:Fo} (h:FOw E S w v y) (ha:qg_ S w w'):FOw E S w' v y:=
 let ⟨ds,h1,h2,h3⟩:=h;⟨ds,q3_ h1 (fun g hg=>ha g (h2 g hg)),h2,h3.agree (fun b hb=>ha b hb.1)⟩
theorem FOw.wide {E:TypeId} {S S':Nat→Prop} {w:World} {v:Value} {y:Fo} (h:FOw E S w v y) (hw:∀ b,S b→S' b):FOw E S' w v y:=
 let ⟨ds,h1,h2,h3⟩:=h;⟨ds,h1,fun g hg=>hw g (h2 g hg),h3.wide (fun b hb=>⟨hw b hb.1,hb.2⟩)⟩
theorem FOw.fsl {E:TypeId} {S:Nat→Prop} {w:World} {v:Value} {y:Fo} (h:FOw E S w v y):FSl S w v y:=
 let ⟨ds,h1,h2,h3⟩:=h;⟨ds,zm_.fcs.owns_slc h1 h2,h3.fcs.wide (fun b hb=>hb.1)⟩
theorem zm_.one {E:TypeId} {S1 S2:Nat→Prop} {w:World} {n:List UInt8} {l:List Int} {s:Fo} {vn vs:Value} (h1:IntU S1 w vn l) (h2:FOw E S2 w vs s) (hd:∀ b,S1 b→¬ S2 b):zm_ E (fun b=>S1 b ∨ S2 b) w (.cons n l s .nil) [.string (bs n),vn,vs]:=by
 obtain ⟨ds,h3,h4,h5⟩:=h2
 exact ⟨vn,vs,[],S1,S2,fun _=>False,rfl,fun b hb=>by rcases hb with hb | hb | hb;exact .inl hb;exact .inr hb;exact hb.elim,hd,fun _ _ h=>h,fun _ _ h=>h,h1,⟨ds,h3,h4,h5⟩,rfl⟩
def bsG (lt:Nat→Bool):Nat→Nat→Nat→Nat
 | 0,i,_=>i
 | f + 1,i,j=>if i < j then (if lt ((i + j) / 2) then bsG lt f ((i + j) / 2 + 1) j else bsG lt f i ((i + j) / 2)) else i
theorem zV_ (lt:Nat→Bool):∀ (f i j:Nat),j - i ≤ f→bsG lt f i j = bsG lt (j - i) i j
 | 0,i,j,h=>by rw [show j - i = 0 by omega]
 | f + 1,i,j,h=>by
   by_cases hij:i < j
   · obtain ⟨d,hd⟩:∃ d,j - i = d + 1:=⟨j - i - 1,by omega⟩
     rw [hd]
     simp only [bsG,hij,if_true]
     split
     · rw [zV_ lt f _ _ (by omega),zV_ lt d _ _ (by omega)]
     · rw [zV_ lt f _ _ (by omega),zV_ lt d _ _ (by omega)]
   · rw [show j - i = 0 by omega]
     simp [bsG,hij]
def bsF (lt:Nat→Bool) (i j:Nat):Nat:=bsG lt (j - i) i j
theorem kP_ {lt:Nat→Bool} {i j:Nat} (h:¬ i < j):bsF lt i j = i:=by
 unfold bsF;rw [show j - i = 0 by omega];rfl
theorem bsF_go {lt:Nat→Bool} {i j:Nat} (h:i < j):bsF lt i j = if lt ((i + j) / 2) then bsF lt ((i + j) / 2 + 1) j else bsF lt i ((i + j) / 2):=by
 unfold bsF
 obtain ⟨d,hd⟩:∃ d,j - i = d + 1:=⟨j - i - 1,by omega⟩
 rw [hd]
 simp only [bsG,h,if_true]
 rw [zV_ lt d _ _ (by omega),zV_ lt d _ _ (by omega)]
def fl0:Fl:=⟨[],[]⟩
def fndI (l:List Fl) (p:List Ky):Nat:=bsF (fun h=>decide (cmpP (l.getD h fl0).p p < 0)) 0 l.length
def fnd (l:List Fl) (p:List Ky):Option Fl:=match l[fndI l p]? with | some x=>if cmpP x.p p = 0 then some x else none | none=>none
def smF (a b:List Fl) (p:List Ky):Bool:=match fnd a p,fnd b p with | some x,some y=>decide (x.l = y.l) | none,none=>true | _,_=>false
def yq_ (k:Ky):List UInt8:=47 :: k.n ++ (if k.h then 58 :: Lib.itoa k.x else if k.x ≠ 0 then 63 :: Lib.itoa k.x else [])
def sptL (p:List Ky):List UInt8:=(p.map yq_).flatten
def ddP:List (List Ky)→List (List Ky)→List (List Ky)
 | acc,[]=>acc
 | acc,p :: r=>if sptL p ∈ acc.map sptL then ddP acc r else ddP (acc ++ [p]) r
def insP (p:List Ky):List (List Ky)→List (List Ky)
 | []=>[p]
 | q :: r=>if cmpP q p < 0 then q :: insP p r else p :: q :: r
def xw_:List (List Ky)→List (List Ky)
 | []=>[]
 | p :: r=>insP p (xw_ r)
def pthsF (l:List (List Fl)):List (List Ky):=xw_ (ddP [] (l.flatten.map Fl.p))
def lsF:List Fl→List (List Ky)→List Fl→List Fl × List (List Ky)
 | kept,out,[]=>(kept,out)
 | kept,out,f :: r=>if (fnd kept f.p.dropLast).isSome ∨ f.p.length = 1 then lsF (kept ++ [f]) out r else lsF kept (out ++ [f.p]) r
def jnF (o a b:List Fl):List Fl→List (List Ky)→List (List Ky)→List Fl × List (List Ky)
 | all,con,[]=>(all,con)
 | all,con,p :: r=>
   let st:=if smF a b p ∨ smF o b p then (a,con) else if smF o a p then (b,con) else (o,con ++ [p])
   jnF o a b (match fnd st.1 p with | some f=>all ++ [f] | none=>all) st.2 r
def cnF (con:List (List Ky)):List (List Ky)→List (List Ky)
 | []=>con
 | p :: r=>cnF (if con.any (fun q=>decide (cmpP q p = 0)) then con else con ++ [p]) r
def joF (o a b:Fo):List Fl × List (List Ky):=
 let l:=[flsL [] o,flsL [] a,flsL [] b]
 let j:=jnF (flsL [] o) (flsL [] a) (flsL [] b) [] [] (pthsF l)
 let k:=lsF [] [] j.1
 (k.1,xw_ (cnF j.2 k.2))
theorem v0_ (p:List Ky):∀ l,(insP p l).Perm (p :: l)
 | []=>List.Perm.refl _
 | q :: r=>by
   simp only [insP]
   split
   · exact ((v0_ p r).cons q).trans (List.Perm.swap _ _ _)
   · exact List.Perm.refl _
theorem z1_:∀ l,(xw_ l).Perm l
 | []=>List.Perm.refl _
 | p :: r=>(v0_ p _).trans ((z1_ r).cons p)
theorem v8_ (p:List Ky):∀ l:List (List Ky),l.Pairwise (fun a b=>cmpP a b ≤ 0)→(insP p l).Pairwise (fun a b=>cmpP a b ≤ 0)
 | [],_=>by simp [insP]
 | q :: r,h=>by
   obtain ⟨h1,h2⟩:=List.pairwise_cons.1 h
   simp only [insP]
   split
   · rename_i hq
     refine List.pairwise_cons.2 ⟨fun x hx=>?_,v8_ p r h2⟩
     rcases List.mem_cons.1 ((v0_ p r).mem_iff.1 hx) with rfl | hx
     · omega
     · exact h1 x hx
   · rename_i hq
     have hpq:cmpP p q ≤ 0:=by
      rcases Int.lt_trichotomy (cmpP p q) 0 with h' | h' | h'
      · omega
      · omega
      · exact absurd (qi_.flop h') hq
     refine List.pairwise_cons.2 ⟨fun x hx=>?_,h⟩
     rcases List.mem_cons.1 hx with rfl | hx
     · exact hpq
     · have:=h1 x hx
       rcases Int.lt_or_eq_of_le hpq with a | a
       · rcases Int.lt_or_eq_of_le this with b | b
         · exact Int.le_of_lt (qi_.trans a b)
         · rw [← qi_.eq b];omega
       · rw [qi_.eq a];exact this
theorem k1_:∀ l,(xw_ l).Pairwise (fun a b=>cmpP a b ≤ 0)
 | []=>List.Pairwise.nil
 | p :: r=>v8_ p _ (k1_ r)
theorem srtP_of {l l':List (List Ky)} (hp:l'.Perm l) (hs:l'.Pairwise (fun a b=>cmpP a b ≤ 0)):l' = xw_ l:=
 List.Perm.eq_of_pairwise (le:=fun a b=>cmpP a b ≤ 0) (fun a b _ _ h k=>by
  rcases Int.lt_or_eq_of_le h with h | h
  · have:=qi_.flip h;omega
  · exact qi_.eq h) hs (k1_ l) (hp.trans (z1_ l).symm)
section
variable {F:Fence} {n:Nat} {P:Program} {ops:Array Oper} {Q:Exit→Act→World→Prop} {md:Region.Mode} {S:World→Prop} {L:Nat}
def jW_ (F:Fence) (n:Nat) (P:Program) (md:Region.Mode) (ops:Array Oper) (Q:Exit→Act→World→Prop) (S:World→Prop) (L:Nat):Nat→Array Bool→Act→World→Prop
 | 0,listed,a,w=>Region.ready md ops listed = []∧Q .normal a w
 | fuel + 1,listed,a,w=>
   (Region.ready md ops listed = []→Q .normal a w) ∧
   ∀ i ∈ Region.ready md ops listed,wpOpIn F n P ops Q i (fun a' w'=>if i = L then wpAnyIn F n P md ops Q fuel (listed.setIfInBounds i true) a' w' else S w'∧jW_ F n P md ops Q S L fuel (listed.setIfInBounds i true) a' w') a w
theorem jT_:∀ (fuel:Nat) (listed:Array Bool) (a:Act) (w:World),jW_ F n P md ops Q S L fuel listed a w→wpAnyIn F n P md ops Q fuel listed a w
 | 0,_,_,_,h=>h
 | fuel + 1,_,_,_,h=>⟨h.1,fun i hi=>wpOpIn_mono (fun a' w' h'=>by
    split at h'
    · exact h'
    · exact jT_ fuel _ a' w' h'.2) (h.2 i hi)⟩
theorem yP_ (hF:∀ f,F.fn f) (hnd:ops.all qh_ = true) {i:Nat} {oi:Oper} {v:Value} (hi:ops[i]? = some oi) (hsel:∀ (j:Nat) (o:Oper) cs b,ops[j]? = some o→o.op ≠ .select cs b)
 (hQ:∀ c a w,Q (.panic c) (a.put oi.dst v) w→Q (.panic c) a w) (hiL:i ≠ L) (hL:∀ (listed:Array Bool),i ∈ Region.ready md ops listed→L ∉ Region.ready md ops listed) :
 ∀ (fuel:Nat) (listed:Array Bool) (a:Act) (w:World),
  (∀ j oj,ops[j]? = some oj→j ≠ i→listed.getD j true = false→(∀ e ∈ oj.after,Region.binds md e = true→e.on ≠ i)→oi.apart ops oj = true) →
  i ∈ Region.ready md ops listed→YIf P ops S oi v a→S w →
  jW_ F n P md ops Q S L fuel (listed.setIfInBounds i true) (a.put oi.dst v) w→jW_ F n P md ops Q S L (fuel + 1) listed a w:=by
 have hno:∀ j o,ops[j]? = some o→qh_ o = true:=fun j o h=>by
  rw [Array.all_eq_true] at hnd
  obtain ⟨hj,rfl⟩:=ge_ h
  exact hnd j hj
 intro fuel
 induction fuel with
 | zero=>
   intro listed a w _ hr hy hS H
   refine ⟨fun h=>(by rw [h] at hr;cases hr),fun j hj=>?_⟩
   by_cases hji:j = i
   · subst hji;exact hy.wpOp hF hi (hno _ _ hi) hS (by rw [if_neg hiL];exact ⟨hS,H⟩)
   · have:=ready_mono hj hji
     rw [H.1] at this
     cases this
 | succ fuel ih=>
   intro listed a w hfree hr hy hS H
   refine ⟨fun h=>(by rw [h] at hr;cases hr),fun j hj=>?_⟩
   by_cases hji:j = i
   · subst hji;exact hy.wpOp hF hi (hno _ _ hi) hS (by rw [if_neg hiL];exact ⟨hS,H⟩)
   · have hjL:j ≠ L:=fun e=>hL listed hr (e ▸ hj)
     have h1:=H.2 j (ready_mono hj hji)
     simp only [if_neg hjL] at h1 ⊢
     obtain ⟨hjun,oj,hoj,hall⟩:=mem_ready.1 hj
     have hnot:∀ e ∈ oj.after,Region.binds md e = true→e.on ≠ i:=fun e he hb heq=>by
      have h1:=hall e he hb
      have h0:=(mem_ready.1 hr).1
      rw [heq] at h1
      rcases Nat.lt_or_ge i listed.size with h' | h'
      · simp [h'] at h0 h1;rw [h0] at h1;cases h1
      · simp [Array.getElem?_eq_none h'] at h1
     have h2:=zE_ hoj (hno _ _ hoj) (hfree j oj hoj hji hjun hnot) (fun cs b=>hsel i oi cs b hi) (fun cs b=>hsel j oj cs b hoj) hQ hy h1
     have hfree':∀ k ok,ops[k]? = some ok→k ≠ i→(listed.setIfInBounds j true).getD k true = false →
      (∀ e ∈ ok.after,Region.binds md e = true→e.on ≠ i)→oi.apart ops ok = true:=fun k ok hk hki hun hno=>by
      refine hfree k ok hk hki ?_ hno
      by_cases hjk:j = k
      · subst hjk;exact hjun
      · rw [getD_set_ne true hjk] at hun;exact hun
     refine wpOpIn_mono (fun a' w' h3=>⟨h3.2.1,ih (listed.setIfInBounds j true) a' w' hfree' (ready_mono hr (Ne.symm hji)) h3.1 h3.2.1 ?_⟩) h2
     rw [Array.setIfInBounds_comm _ _ hji]
     exact h3.2.2
def xR_ (md:Region.Mode) (ops:Array Oper) (L i:Nat):Bool:=match ops[L]? with | some o=>o.after.any (fun e=>Region.binds md e && e.on == i) | none=>true
theorem w5_ {i:Nat} (h:xR_ md ops L i = true) (listed:Array Bool) (hr:i ∈ Region.ready md ops listed):L ∉ Region.ready md ops listed:=fun hl=>by
 obtain ⟨_,o,ho,hall⟩:=mem_ready.1 hl
 unfold xR_ at h
 rw [ho] at h
 simp only [Array.any_eq_true,Bool.and_eq_true,beq_iff_eq] at h
 obtain ⟨k,hk,hb,he⟩:=h
 have h1:=hall _ (Array.getElem_mem hk) hb
 have h0:=(mem_ready.1 hr).1
 rw [he] at h1
 rcases Nat.lt_or_ge i listed.size with h' | h'
 · simp [h'] at h0 h1;rw [h0] at h1;cases h1
 · simp [Array.getElem?_eq_none h'] at h1
theorem qV_ (hF:∀ f,F.fn f) (hnd:ops.all qh_ = true) (i t:Nat) (v:Value) {oi:Oper} {fuel:Nat} {listed:Array Bool} {a:Act} {w:World} (hi:ops[i]? = some oi) (hd:oi.dst = some t)
 (hs:Region.noSelect ops = true) (hf:Region.free md ops listed i = true) (hr:(Region.ready md ops listed).contains i = true) (hiL:i ≠ L) (hw:xR_ md ops L i = true)
 (hQ:∀ c a w,Q (.panic c) (a.put (some t) v) w→Q (.panic c) a w) (hy:YIf P ops S oi v a) (hS:S w)
 (h:jW_ F n P md ops Q S L fuel (listed.setIfInBounds i true) (a.put (some t) v) w):jW_ F n P md ops Q S L (fuel + 1) listed a w:=
 yP_ hF hnd hi (Region.noSelect_spec hs) (by rw [hd];exact hQ) hiL (w5_ hw) fuel listed a w (Region.free_spec hi hf) (by simpa using hr) hy hS (by rw [hd];exact h)
theorem tkT (i t:Nat) (v:Value) {oi:Oper} {fuel:Nat} {listed:Array Bool} {a:Act} {w:World} (hi:ops[i]? = some oi) (hd:oi.dst = some t) (hS:S w) (hy:∀ w,S w→(execOp a.eval oi).run P w = .ok (.value v) w)
 (h:jW_ F n P md ops Q S L fuel (listed.setIfInBounds i true) (a.put (some t) v) w)
 (hF:∀ f,F.fn f:=by exact fun _=>trivial) (hnd:ops.all qh_ = true:=by kernel_rfl) (hs:Region.noSelect ops = true:=by kernel_rfl) (hf:Region.free md ops listed i = true:=by kernel_rfl) (hr:(Region.ready md ops listed).contains i = true:=by kernel_rfl)
 (hiL:i ≠ L:=by decide) (hw2:xR_ md ops L i = true:=by kernel_rfl) (hQ:∀ c a w,Q (.panic c) (a.put (some t) v) w→Q (.panic c) a w:=by exact fun _ _ _ h=>h) (hw:Region.wanted oi (yielded ops a.tmps) = true:=by kernel_rfl):jW_ F n P md ops Q S L (fuel + 1) listed a w:=
 qV_ hF hnd i t v hi hd hs hf hr hiL hw2 hQ (.inl ⟨hw,hy⟩) hS h
theorem tkU (i t:Nat) (v:Value) {oi:Oper} {fuel:Nat} {listed:Array Bool} {a:Act} {w:World} (hi:ops[i]? = some oi) (hd:oi.dst = some t) (hS:S w)
 (h:jW_ F n P md ops Q S L fuel (listed.setIfInBounds i true) (a.put (some t) v) w) (hy:∀ w,S w→(execOp a.eval oi).run P w = .ok (.value v) w:=by intro w hs;(repeat (obtain ⟨_,hs⟩:=hs));go_simp)
 (hF:∀ f,F.fn f:=by exact fun _=>trivial) (hnd:ops.all qh_ = true:=by kernel_rfl) (hs:Region.noSelect ops = true:=by kernel_rfl) (hf:Region.free md ops listed i = true:=by kernel_rfl) (hr:(Region.ready md ops listed).contains i = true:=by kernel_rfl)
 (hiL:i ≠ L:=by decide) (hw2:xR_ md ops L i = true:=by kernel_rfl) (hQ:∀ c a w,Q (.panic c) (a.put (some t) v) w→Q (.panic c) a w:=by exact fun _ _ _ h=>h) (hw:Region.wanted oi (yielded ops a.tmps) = true:=by kernel_rfl):jW_ F n P md ops Q S L (fuel + 1) listed a w:=tkT i t v hi hd hS hy h hF hnd hs hf hr hiL hw2 hQ hw
theorem qk_ {i:Nat} {o:Oper} {fuel:Nat} {listed:Array Bool} {a:Act} {w:World} (hr:Region.ready md ops listed = [i]) (ho:ops[i]? = some o) (hw:Region.wanted o (yielded ops a.tmps) = true) (hiL:i ≠ L)
 (h:∀ K:Act→World→Prop,(∀ a w,S w∧jW_ F n P md ops Q S L fuel (listed.setIfInBounds i true) a w→K a w)→Oper.wpIn F n P o a w K Q):jW_ F n P md ops Q S L (fuel + 1) listed a w:=
 ⟨fun h0=>(by rw [hr] at h0;cases h0),hr ▸ fun j hj=>by
   obtain rfl:j = i:=by simpa using hj
   unfold wpOpIn
   rw [ho]
   simp only [hw,if_true,if_neg hiL]
   exact h _ fun _ _ h=>h⟩
theorem zv_ {o:Oper} {fuel:Nat} {listed:Array Bool} {a:Act} {w:World} (hr:Region.ready md ops listed = [L]) (ho:ops[L]? = some o) (hw:Region.wanted o (yielded ops a.tmps) = true) (hend:Region.ready md ops (listed.setIfInBounds L true) = [])
 (h:∀ K:Act→World→Prop,(∀ a w,Q .normal a w→K a w)→Oper.wpIn F n P o a w K Q):jW_ F n P md ops Q S L (fuel + 1) listed a w:=
 ⟨fun h0=>(by rw [hr] at h0;cases h0),hr ▸ fun j hj=>by
   obtain rfl:j = L:=by simpa using hj
   unfold wpOpIn
   rw [ho]
   simp only [hw,if_true]
   exact h _ fun a w hq=>k3_ (S:=fun _=>True) _ _ _ _ (q7_ hend hq)⟩
theorem qG_ {o:Oper} {a:Act} {w w':World} {v:Value} {K:Act→World→Prop} (hF:∀ f,F.fn f) (hnd:qh_ o = true) (h:(execOp a.eval o).run P w = .ok (.value v) w') (hk:K (a.put o.dst v) w'):Oper.wpIn F n P o a w K Q:=by
 simp only [Oper.wpIn,zU_ hnd,h,Oper.uponIn]
 exact ⟨fun f _=>hF f,hk⟩
theorem qL_ {o:Oper} {a:Act} {w w':World} {s x:Operand} {t:TypeId} {v1 v2 r:Value} (ho:o.op = .call { callee := .builtin .append,args:=#[s,x],argTypes:=#[t,t] }) (hs:a.eval s = v1) (hx:a.eval x = v2)
 (hr:(Builtin.append_ #[t,t] o.type #[v1,v2]).run P w = .ok r w'):(execOp a.eval o).run P w = .ok (.value r) w':=by
 unfold execOp
 simp only [ho,resolve,invoke,builtin,Sem.run_bind,Sem.run_pure,Result.andThen_ok,List.map_toArray,List.map_cons,List.map_nil,hs,hx,hr]
theorem wa_ {o:Oper} {a:Act} {w w':World} {s x:Operand} {t:TypeId} {v1 v2 r:Value} {K:Act→World→Prop} (ho:o.op = .call { callee := .builtin .append,args:=#[s,x],argTypes:=#[t,t] }) (hs:a.eval s = v1) (hx:a.eval x = v2)
 (hr:(Builtin.append_ #[t,t] o.type #[v1,v2]).run P w = .ok r w') (hk:K (a.put o.dst r) w') (hF:∀ f,F.fn f:=by exact fun _=>trivial) (hnd:qh_ o = true:=by rfl):Oper.wpIn F n P o a w K Q:=qG_ hF hnd (qL_ ho hs hx hr) hk
theorem zS_ {id:Nat} {a:Act} {w:World} (S:World→Prop) (L:Nat) (hm:P.follows .mixedOrders = true)
 (h:jW_ F n P .any ops Q S L ops.size (Array.replicate ops.size false) a w.drew):(Code.region id ops true).wpIn F n P Q a w:=
 wpIn_region_any hm (jT_ _ _ _ _ h)
end
def Kd (u u':Value):Prop:=u' = u ∨ (∃ x y,u = .int .i64 x∧u' = .int .i64 y) ∨ ∃ s t,u = .string s∧u' = .string t
theorem Kd.refl (u:Value):Kd u u := .inl rfl
theorem Kd.trans {a b c:Value} (h:Kd a b) (k:Kd b c):Kd a c:=by
 rcases h with rfl | ⟨x,y,rfl,rfl⟩ | ⟨x,y,rfl,rfl⟩
 · exact k
 · rcases k with rfl | ⟨p,q,h1,rfl⟩ | ⟨p,q,h1,rfl⟩
   · exact .inr (.inl ⟨x,y,rfl,rfl⟩)
   · exact .inr (.inl ⟨x,q,rfl,rfl⟩)
   · cases h1
 · rcases k with rfl | ⟨p,q,h1,rfl⟩ | ⟨p,q,h1,rfl⟩
   · exact .inr (.inr ⟨x,y,rfl,rfl⟩)
   · cases h1
   · exact .inr (.inr ⟨x,q,rfl,rfl⟩)
theorem Kd.slice {a:Option Addr} {n c:Nat} {u:Value} (h:Kd (.slice a n c) u):u = .slice a n c:=by
 rcases h with rfl | ⟨x,y,h,_⟩ | ⟨x,y,h,_⟩
 · rfl
 · cases h
 · cases h
theorem Kd.int {x:Int} {u:Value} (h:Kd (.int .i64 x) u):∃ y,u = .int .i64 y:=by
 rcases h with rfl | ⟨x,y,h,rfl⟩ | ⟨x,y,h,_⟩
 · exact ⟨_,rfl⟩
 · exact ⟨_,rfl⟩
 · cases h
theorem Kd.str {x:ByteArray} {u:Value} (h:Kd (.string x) u):∃ y,u = .string y:=by
 rcases h with rfl | ⟨x,y,h,_⟩ | ⟨x,y,h,rfl⟩
 · exact ⟨_,rfl⟩
 · cases h
 · exact ⟨_,rfl⟩
def KP (w w':World):Prop:=∀ (b:Nat) (cs:Array Value) (t:TypeId) (fr:Nat × Nat),w.heap[b]? = some (.cells cs t fr)→∃ cs',w'.heap[b]? = some (.cells cs' t fr)∧∀ (o:Nat) u,cs[o]? = some u→∃ u',cs'[o]? = some u'∧Kd u u'
theorem KP.refl (w:World):KP w w:=fun b cs t fr h=>⟨cs,h,fun o u hu=>⟨u,hu,Kd.refl u⟩⟩
theorem KP.trans {a b c:World} (h:KP a b) (k:KP b c):KP a c:=fun q cs t fr hq=>by
 obtain ⟨cs1,h1,h2⟩:=h q cs t fr hq
 obtain ⟨cs2,k1,k2⟩:=k q cs1 t fr h1
 refine ⟨cs2,k1,fun o u hu=>?_⟩
 obtain ⟨u1,e1,d1⟩:=h2 o u hu
 obtain ⟨u2,e2,d2⟩:=k2 o u1 e1
 exact ⟨u2,e2,d1.trans d2⟩
theorem KP.of_below {w w':World} (h:Below w.heap.size w w'):KP w w':=fun b cs t fr hb=>
 ⟨cs,(h.block b (ge_ hb).1).trans hb,fun o u hu=>⟨u,hu,Kd.refl u⟩⟩
theorem KP.cell {w w':World} (h:KP w w') {b o:Nat} {u:Value} (hc:w.cell? ⟨b,o,none⟩ = some u):∃ u',w'.cell? ⟨b,o,none⟩ = some u'∧Kd u u':=by
 unfold World.cell? at hc ⊢
 simp only at hc ⊢
 cases hb:w.heap[b]? with
 | none=>rw [hb] at hc;cases hc
 | some x=>
   rw [hb] at hc
   cases x with
   | cells cs t fr=>
     obtain ⟨cs',h1,h2⟩:=h b cs t fr hb
     rw [h1]
     simp only [Option.isSome_none,Bool.false_eq_true,if_false] at hc ⊢
     exact h2 o u hc
   | _=>cases hc
theorem KP.uf {w w':World} (h:KP w w') {q:Nat} (hu:Uf w q):Uf w' q:=by
 obtain ⟨cs,t,hb⟩:=hu
 obtain ⟨cs',h1,_⟩:=h q cs t (0,0) hb
 exact ⟨cs',t,h1⟩
theorem KP.setCell {w:World} {b o:Nat} {u v:Value} (hc:w.cell? ⟨b,o,none⟩ = some u) (hd:Kd u v):KP w (w.setCell ⟨b,o,none⟩ v):=fun q cs t fr hq=>by
 by_cases hqb:b = q
 · subst hqb
   refine ⟨cs.setIfInBounds o v,by simp [World.setCell,Array.getElem?_modify,hq],fun i x hx=>?_⟩
   rw [Array.getElem?_setIfInBounds]
   by_cases hi:o = i
   · subst hi
     have hlt:o < cs.size:=(ge_ hx).1
     rw [if_pos rfl,if_pos hlt]
     unfold World.cell? at hc
     simp only [hq,Option.isSome_none,Bool.false_eq_true,if_false] at hc
     rw [hx] at hc
     cases hc
     exact ⟨v,rfl,hd⟩
   · rw [if_neg hi]
     exact ⟨x,hx,Kd.refl x⟩
 · exact ⟨cs,(Below.heap_setCell _ _ _ _ (Ne.symm hqb)).trans hq,fun i x hx=>⟨x,hx,Kd.refl x⟩⟩
theorem list_of {P:Nat→Value→Prop}:∀ (n:Nat),(∀ j,j < n→∃ u,P j u)→∃ l:List Value,l.length = n∧∀ j u,l[j]? = some u→P j u
 | 0,_=>⟨[],rfl,fun j u h=>by simp at h⟩
 | n + 1,h=>by
   obtain ⟨l,h1,h2⟩:=list_of n fun j hj=>h j (by omega)
   obtain ⟨u,hu⟩:=h n (by omega)
   refine ⟨l ++ [u],by simp [h1],fun j v hv=>?_⟩
   by_cases hj:j < l.length
   · rw [List.getElem?_append_left hj] at hv;exact h2 j v hv
   · rw [List.getElem?_append_right (by omega)] at hv
     have:j - l.length = 0:=by
      have:=(List.getElem?_eq_some_iff.1 hv).1
      simp at this;omega
     rw [this] at hv
     simp only [List.getElem?_cons_zero,Option.some.injEq] at hv
     subst hv
     rw [show j = n by omega];exact hu
theorem KP.slc {S:Nat→Prop} {w w':World} {k n:Nat} {v:Value} {cs:List Value} (h:SlC (US S w) w k v n cs) (hk:KP w w'):∃ cs',SlC (US S w') w' k v n cs'∧cs'.length = cs.length∧∀ (j:Nat) (u u':Value),cs[j]? = some u→cs'[j]? = some u'→Kd u u':=by
 obtain ⟨h0,a,c,h1,h2,h3,h4,h5⟩:=h
 rcases h5 with h5 | ⟨g,o,h6,h7,h8⟩
 · have hcs:cs = []:=List.eq_nil_of_length_eq_zero (by rw [h0,h5];simp)
   subst hcs
   exact ⟨[],⟨h0,a,c,h1,h2,h3,h4, .inl h5⟩,rfl,fun j u u' hj=>by simp at hj⟩
 · obtain ⟨l,l1,l2⟩:=list_of (P:=fun j u'=>w'.cell? ⟨g,o + j,none⟩ = some u'∧∀ u,cs[j]? = some u→Kd u u') cs.length fun j hj=>by
    obtain ⟨u',k1,k2⟩:=hk.cell (h8 j cs[j] (by simp [hj]))
    exact ⟨u',k1,fun u hu=>by rw [List.getElem?_eq_getElem hj] at hu;cases hu;exact k2⟩
   exact ⟨l,⟨by rw [l1];exact h0,a,c,h1,h2,h3,h4, .inr ⟨g,o,h6,⟨h7.1,hk.uf h7.2⟩,fun j u hj=>(l2 j u hj).1⟩⟩,l1,fun j u u' hj hj'=>(l2 j u' hj').2 u hj⟩
theorem KP.ints {S:Nat→Prop} {w w':World} {v:Value} {l:List Int} (h:IntU S w v l) (hk:KP w w'):∃ l',IntU S w' v l'∧l'.length = l.length:=by
 obtain ⟨cs',h1,h2,h3⟩:=KP.slc h hk
 rw [List.length_map] at h2
 have hex:∃ l':List Int,l'.length = l.length∧cs' = l'.map (Value.int .i64):=by
  have hall:∀ u ∈ cs',∃ y,u = .int .i64 y:=fun u hu=>by
   obtain ⟨j,hj,rfl⟩:=List.getElem_of_mem hu
   have:=h3 j (.int .i64 (l[j]'(by omega))) cs'[j] (by simp [show j < l.length by omega]) (by simp [hj])
   exact this.int
  clear h1 h3
  revert h2 hall
  generalize l.length = n
  intro h2 hall
  subst h2
  induction cs' with
  | nil=>exact ⟨[],rfl,rfl⟩
  | cons u cs ih=>
    obtain ⟨y,rfl⟩:=hall u (by simp)
    obtain ⟨l',e1,e2⟩:=ih (fun u hu=>hall u (by simp [hu]))
    exact ⟨y :: l',by simp [e1],by simp [e2]⟩
 obtain ⟨l',e1,rfl⟩:=hex
 refine ⟨l',?_,e1⟩
 show SlC _ _ _ _ _ _
 rw [e1];exact h1
theorem KP.fcs {S:Nat→Prop} {w w':World} (hk:KP w w'):∀ (y:Fo) (cs cs':List Value),FCsU S w y cs→cs'.length = cs.length→(∀ (j:Nat) (u u':Value),cs[j]? = some u→cs'[j]? = some u'→Kd u u')→∃ y',FCsU S w' y' cs'∧y'.len = y.len∧y'.cnt = y.cnt
 | .nil,cs,cs',h,hl,_=>by
   rw [show cs = [] from h] at hl
   rw [List.eq_nil_of_length_eq_zero (show cs'.length = 0 by simpa using hl)]
   exact ⟨.nil,rfl,rfl,rfl⟩
 | .cons n l s r,cs,cs',⟨vn,vs,ds,h1,h2,⟨es,h3,h4⟩,h5⟩,hl,hd=>by
   subst h1
   match cs',hl with
   | [c0,c1,c2],hl=>
     simp only [List.length_cons,List.length_nil] at hl
     have hds:ds = []:=List.eq_nil_of_length_eq_zero (by omega)
     subst hds
     have:=FCs.length h5
     have hr:r = .nil:=by
      cases r with
      | nil=>rfl
      | cons _ _ _ _=>simp only [List.length_nil,Fo.len] at this;omega
     subst hr
     obtain ⟨s0,e0⟩:=(hd 0 _ c0 rfl rfl).str
     obtain ⟨an,cn,rfl,_⟩:=SlC.shape h2
     obtain ⟨ab,cb,rfl,_⟩:=SlC.shape h3
     have e1:=(hd 1 _ c1 rfl rfl).slice
     have e2:=(hd 2 _ c2 rfl rfl).slice
     obtain ⟨l',k1,k2⟩:=KP.ints h2 hk
     obtain ⟨es',m1,m2,m3⟩:=KP.slc h3 hk
     obtain ⟨s',q1,q2,q3⟩:=KP.fcs hk s es es' h4 m2 m3
     subst e0 e1 e2
     refine ⟨.cons s0.data.toList l' s' .nil,⟨_,_,[],by rw [bs_of],k1,⟨es',by rw [q2];exact m1,q1⟩,rfl⟩,rfl,?_⟩
     simp only [Fo.cnt,q3]
   | c0 :: c1 :: c2 :: c3 :: ct,hl=>
     obtain ⟨s0,e0⟩:=(hd 0 _ c0 rfl rfl).str
     obtain ⟨an,cn,rfl,_⟩:=SlC.shape h2
     obtain ⟨ab,cb,rfl,_⟩:=SlC.shape h3
     have e1:=(hd 1 _ c1 rfl rfl).slice
     have e2:=(hd 2 _ c2 rfl rfl).slice
     obtain ⟨l',k1,k2⟩:=KP.ints h2 hk
     obtain ⟨es',m1,m2,m3⟩:=KP.slc h3 hk
     obtain ⟨s',q1,q2,q3⟩:=KP.fcs hk s es es' h4 m2 m3
     obtain ⟨r',p1,p2,p3⟩:=KP.fcs hk r ds (c3 :: ct) h5 (by simp only [List.length_cons] at hl ⊢;omega) (fun j u u' hj hj'=>hd (j + 3) u u' (by simpa using hj) (by simpa using hj'))
     subst e0 e1 e2
     refine ⟨.cons s0.data.toList l' s' r',⟨_,_,c3 :: ct,by rw [bs_of],k1,⟨es',by rw [q2];exact m1,q1⟩,p1⟩,?_,?_⟩
     · simp only [Fo.len,p2]
     · simp only [Fo.cnt,q3,p3]
   | [],hl=>simp at hl
   | [_],hl=>simp at hl
   | [_,_],hl=>simp at hl
theorem KP.fsl {S:Nat→Prop} {w w':World} {v:Value} {y:Fo} (h:FSlU S w v y) (hk:KP w w'):∃ y',FSlU S w' v y'∧y'.len = y.len∧y'.cnt = y.cnt:=by
 obtain ⟨ds,h1,h2⟩:=h
 obtain ⟨ds',k1,k2,k3⟩:=KP.slc h1 hk
 obtain ⟨y',q1,q2,q3⟩:=KP.fcs hk y ds ds' h2 k2 k3
 exact ⟨y',⟨ds',by rw [q2];exact k1,q1⟩,q2,q3⟩
end Go.Proofs.LF
namespace Go.Proofs.LF
open Go.RowKit
set_option maxHeartbeats 1000000
set_option maxRecDepth 100000
attribute [local go_sem] q1_
theorem q8_ (s:List UInt8) (k:Nat) (h:k < s.length):(bs s)[k]'(by rw [q2_];exact h) = s[k]:=by
 show (bs s).data[k]'_ = _
 simp [bs]
theorem named_any (s:List UInt8) (w:World) (hlen:s.length ≤ 1000000) :
 Calls Tryz.prog 138 #[.string (bs s)] w fun e w'=>e = .returned (.bool (!zI_ s))∧Below w.heap.size w w':=by
 go_enter Tryz.func138,Tryz.ntmps138
 go_wp2_with fail
 go_loopw [4] (fun _ wr=>∃ k:Nat,k ≤ s.length∧wr = w.iter (bs s) k∧Hid (∀ j (h:j < s.length),j < k→¬ ((s[j].toNat:Int) < 97 ∨ 122 < (s[j].toNat:Int)))) (fun _ wr=>s.length - wr.iterPos w.heap.size)
 case atStart=>exact ⟨0,by omega,rfl,fun j _ h=>by omega⟩
 case round=>
  obtain ⟨k,hk,rfl,H2⟩:=hrel
  have hb1:Below w.heap.size w (w.iter (bs s) k):=(Below.refl _ _).alloc (nl_ _) _
  by_cases hlt:k < s.length
  · have hg:=q8_ s k hlt
    by_cases hok:(s[k].toNat:Int) < 97 ∨ 122 < (s[k].toNat:Int)
    · have hbad:zI_ s = true:=by
       simp only [zI_,Bool.or_eq_true,List.any_eq_true]
       exact .inl (.inl ⟨s[k]'hlt,List.getElem_mem hlt,by simpa using hok⟩)
      have HB:=hid hbad
      clear hbad
      have hsz:k < (bs s).size:=by rw [q2_];exact hlt
      by_cases ha:s[k].toNat < 128
      · have hn:=fun ty=>run_next_ascii (P:=Tryz.prog) w (bs s) k ty hsz (by rw [hg];exact ha)
        rw [hg] at hn
        clear hg
        by_cases h97:(s[k].toNat:Int) < 97
        · clear hok
          go_wp2_with fail
          go_ret
          exact ⟨qj_ (by rw [HB.out];rfl),(Below.refl _ _).alloc (nl_ _) _⟩
        · have h122:122 < (s[k].toNat:Int):=by omega
          clear hok
          go_wp2_with fail
          go_ret
          exact ⟨qj_ (by rw [HB.out];rfl),(Below.refl _ _).alloc (nl_ _) _⟩
      · have hn:=fun ty=>run_next_any (P:=Tryz.prog) w (bs s) k ty hsz
        have hd:=(decode_high (bs s) k hsz (by rw [hg];omega)).1
        generalize (Utf8.decode (bs s) k).1 = dc at hn hd
        have hd1:(122:Int) < (dc:Int):=by omega
        have hd2:¬ (dc:Int) < 97:=by omega
        clear hg hok hd
        go_wp2_with fail
        go_ret
        exact ⟨qj_ (by rw [HB.out];rfl),(Below.refl _ _).alloc (nl_ _) _⟩
    · have hn:=fun ty=>run_next_ascii (P:=Tryz.prog) w (bs s) k ty (by rw [q2_];exact hlt) (by rw [hg];omega)
      rw [hg] at hn
      have h1:¬ (s[k].toNat:Int) < 97:=by omega
      have h2:¬ 122 < (s[k].toNat:Int):=by omega
      have HO:=hid hok
      clear hg hok
      go_wp2_with fail
      go_roundw
      case rel=>exact ⟨k + 1,by omega,rfl,fun j hj h=>by rcases Nat.lt_succ_iff_lt_or_eq.1 h with h' | h';exact H2.out j hj h';subst h';exact HO.out⟩
      case measure=>simp;omega
  · have hn:=fun ty=>run_next_end (P:=Tryz.prog) w (bs s) k ty (by rw [q2_];exact hlt)
    go_wp2_with (go_at_call 174;refine (ze_ _ _ _ _).mono ?_;rintro e w' ⟨rfl,rfl⟩)
    go_ret
    refine ⟨qj_ ?_,hb1⟩
    have:s.any (fun c=>decide ((c.toNat:Int) < 97) || decide (122 < (c.toNat:Int))) = false:=by
     rw [List.any_eq_false]
     intro c hc
     obtain ⟨j,hj,rfl⟩:=List.getElem_of_mem hc
     have:=H2.out j hj (by omega)
     simpa using this
    simp only [zI_,this,inB,Bool.false_or,q2_]
    rw [Bool.eq_iff_iff];simp
theorem yS_ (g:Nat) (hE:zn_ g) (caps:List Value) (x:Value) (b:Bool) (bx:Nat) (W:World) (hbx:W.cell? ⟨bx,0,none⟩ = some (.func (.func g) #[] caps.toArray))
 (h:Calls Tryz.prog g (x :: caps).toArray W fun e w'=>e = .returned (.bool b)∧Below W.heap.size W w') :
 Calls Tryz.prog 176 #[x, .pointer (some ⟨bx,0,none⟩)] W fun e w'=>e = .returned (.bool (!b))∧Below W.heap.size W w':=by
 have hE':∀ (args:Array Value) (W:World),Sem.run Tryz.prog (callFunc g args) W = .ok (.enter g args) W:=hE
 have H:=hid h
 clear hE h
 go_enter Tryz.func176,Tryz.ntmps176
 go_wp2_with fail
 refine H.out.mono ?_
 rintro e w' ⟨rfl,hb⟩
 go_wp2_with fail
 go_ret
 exact ⟨rfl,hb⟩
theorem enters209:zn_ 176:=by
 intro args W
 simp [go_sem]
theorem v5_:zn_ 140:=by
 intro args W
 simp [go_sem]
def wq_ (p:Nat→Bool) (n:Nat):Bool:=!wc_ (fun i=>!p i) n
theorem every_int (g:Nat) (hE:zn_ g) (p:Nat→Bool) (caps:List Value) (n:Nat) (a:Option Addr) (c:Nat) (cs:List Value) (S:Nat→Prop) (w:World) (hl:SlC S w 1 (.slice a n c) n cs) (hS:∀ b,S b→b < w.heap.size) (hlen:n ≤ 100000)
 (hp:∀ i,i < n→zB_ g caps w [qB_ 1 cs i] (p i)) :
 Calls Tryz.prog 139 #[.slice a n c, .func (.func g) #[] caps.toArray] w fun e w'=>e = .returned (.bool (wq_ p n))∧Below w.heap.size w w':=by
 have HP:=hid hp
 clear hp
 go_enter Tryz.func139,Tryz.ntmps139
 go_wp2_with fail
 refine (yp_ 176 enters209 (fun i=>!p i) [.pointer (some ⟨w.heap.size,0,none⟩)] n a c cs S _ (SlC.agree hl (qc_ (B:=w.heap.size) ((Below.refl _ _).alloc (nl_ _) _) hS)) ?_ hlen ?_).mono ?_
 · intro b hb;have:=hS b hb;simp;omega
 · intro i hi W hW
   refine yS_ g hE caps _ (p i) w.heap.size W (bc_ hW (by simp) (by simp)) (HP.out i hi W ?_)
   exact ((Below.refl _ _).alloc (nl_ _) _).trans (hW.mono (by simp))
 · rintro e w' ⟨rfl,hb⟩
   go_wp2_with fail
   go_ret
   exact ⟨rfl,((Below.refl _ _).alloc (nl_ _) _).trans (hb.mono (by simp))⟩
theorem jg_ (l:List Int) (an:Option Addr) (cn:Nat) (S:Nat→Prop) (w:World) (hl:zh_ S w (.slice an l.length cn) l) (hS:∀ b,S b→b < w.heap.size) (hlen:l.length ≤ 1000) :
 Calls Tryz.prog 139 #[.slice an l.length cn, .func (.func 140) #[] #[]] w fun e w'=>e = .returned (.bool (!zd_ l))∧Below w.heap.size w w':=by
 refine (every_int 140 v5_ (fun i=>inB (l.getD i 0) 0 9999) [] l.length an cn _ S w hl hS (by omega) ?_).mono ?_
 · intro i hi W hW
   have:qB_ 1 (l.map (Value.int .i64)) i = .int .i64 (l.getD i 0):=by simp [qB_,hi]
   rw [this]
   exact (yX_ _ W).mono fun e w' ⟨he,hw⟩=>⟨he,by rw [← hw];exact Below.refl _ _⟩
 · rintro e w' ⟨rfl,hb⟩
   refine ⟨qj_ ?_,hb⟩
   unfold wq_ zd_
   rw [v9_ (fun x=>offB x 9999) _ l (fun i hi=>by simp [hi,inB,offB];rw [Bool.eq_iff_iff];simp)]
end Go.Proofs.LF
namespace Go.Proofs.LF
open Go.RowKit
section
variable {F:Fence} {n:Nat} {P:Program} {ops:Array Oper} {Q:Exit→Act→World→Prop} {md:Region.Mode} {S:Array Bool→World→Prop}
def LstC (md:Region.Mode) (ops:Array Oper) (listed:Array Bool):Prop:=∀ j o,ops[j]? = some o→listed.getD j false = true→∀ e ∈ o.after,Region.binds md e = true→listed.getD e.on false = true
def lstB (md:Region.Mode) (ops:Array Oper) (listed:Array Bool):Bool:=(List.range ops.size).all fun j=>!listed.getD j false || match ops[j]? with | some o=>o.after.all (fun e=>!Region.binds md e || listed.getD e.on false) | none=>true
theorem lstB_spec {listed:Array Bool} (h:lstB md ops listed = true):LstC md ops listed:=fun j o ho hl e he hb=>by
 unfold lstB at h
 rw [List.all_eq_true] at h
 have hj:j < ops.size:=(ge_ ho).1
 have h1:=h j (List.mem_range.2 hj)
 rw [hl,ho] at h1
 simp only [Bool.not_true,Bool.false_or,Array.all_eq_true] at h1
 obtain ⟨k,hk,rfl⟩:=Array.getElem_of_mem he
 have h2:=h1 k hk
 rw [hb] at h2
 simpa using h2
theorem LstC.set {listed:Array Bool} (h:LstC md ops listed) {i:Nat} (hi:i ∈ Region.ready md ops listed):LstC md ops (listed.setIfInBounds i true):=fun j o ho hl e he hb=>by
 obtain ⟨_,o',ho',hall⟩:=mem_ready.1 hi
 by_cases hji:i = j
 · subst hji
   rw [ho] at ho'
   cases ho'
   exact getD_set_true (hall e he hb)
 · rw [getD_set_ne false hji] at hl
   exact getD_set_true (h j o ho hl e he hb)
theorem waits_at {i k:Nat} {o:Oper} (hk:ops[k]? = some o) (h:xR_ md ops k i = true):∃ e ∈ o.after,Region.binds md e = true∧e.on = i:=by
 unfold xR_ at h
 rw [hk] at h
 simp only [Array.any_eq_true,Bool.and_eq_true,beq_iff_eq] at h
 obtain ⟨m,hm,hb,he⟩:=h
 exact ⟨_,Array.getElem_mem hm,hb,he⟩
def Unl (listed:Array Bool) (i:Nat):Prop:=listed.getD i false = false
theorem kS_ {listed:Array Bool} {i:Nat} (hr:i ∈ Region.ready md ops listed):Unl listed i:=by
 have h0:=(mem_ready.1 hr).1
 unfold Unl
 rcases Nat.lt_or_ge i listed.size with h' | h'
 · simp [h'] at h0 ⊢;exact h0
 · simp [Array.getElem?_eq_none h']
theorem xl_ {listed:Array Bool} (hc:LstC md ops listed) {i k:Nat} {ok:Oper} (hk:ops[k]? = some ok) (h:xR_ md ops k i = true) (hu:Unl listed i):Unl listed k:=by
 unfold Unl at *
 cases hl:listed.getD k false with
 | false=>rfl
 | true=>
   obtain ⟨e,he,hb,rfl⟩:=waits_at hk h
   have:=hc _ _ hk hl e he hb
   rw [hu] at this
   cases this
theorem qr_ {listed:Array Bool} {i k:Nat} (h:i ≠ k):Unl (listed.setIfInBounds i true) k ↔ Unl listed k:=by unfold Unl;rw [getD_set_ne false h]
def vg_ (F:Fence) (n:Nat) (P:Program) (md:Region.Mode) (ops:Array Oper) (Q:Exit→Act→World→Prop) (S:Array Bool→World→Prop):Nat→Array Bool→Act→World→Prop
 | 0,listed,a,w=>Region.ready md ops listed = []∧Q .normal a w
 | fuel + 1,listed,a,w=>
   (Region.ready md ops listed = []→Q .normal a w) ∧
   ∀ i ∈ Region.ready md ops listed,wpOpIn F n P ops Q i (fun a' w'=>S (listed.setIfInBounds i true) w'∧vg_ F n P md ops Q S fuel (listed.setIfInBounds i true) a' w') a w
theorem yo_:∀ (fuel:Nat) (listed:Array Bool) (a:Act) (w:World),vg_ F n P md ops Q S fuel listed a w→wpAnyIn F n P md ops Q fuel listed a w
 | 0,_,_,_,h=>h
 | fuel + 1,_,_,_,h=>⟨h.1,fun i hi=>wpOpIn_mono (fun a' w' h'=>yo_ fuel _ a' w' h'.2) (h.2 i hi)⟩
def yt_ (md:Region.Mode) (ops:Array Oper) (S:Array Bool→World→Prop) (i:Nat) (w:World):Prop:=∃ listed,LstC md ops listed∧i ∈ Region.ready md ops listed∧S listed w
theorem wi_ (hF:∀ f,F.fn f) (hnd:ops.all qh_ = true) {i:Nat} {oi:Oper} {v:Value} (hi:ops[i]? = some oi) (hsel:∀ (j:Nat) (o:Oper) cs b,ops[j]? = some o→o.op ≠ .select cs b)
 (hQ:∀ c a w,Q (.panic c) (a.put oi.dst v) w→Q (.panic c) a w) (hins:∀ listed w,S (listed.setIfInBounds i true) w ↔ S listed w) :
 ∀ (fuel:Nat) (listed:Array Bool) (a:Act) (w:World),LstC md ops listed →
  (∀ j oj,ops[j]? = some oj→j ≠ i→listed.getD j true = false→(∀ e ∈ oj.after,Region.binds md e = true→e.on ≠ i)→oi.apart ops oj = true) →
  i ∈ Region.ready md ops listed→YIf P ops (yt_ md ops S i) oi v a→S listed w →
  vg_ F n P md ops Q S fuel (listed.setIfInBounds i true) (a.put oi.dst v) w→vg_ F n P md ops Q S (fuel + 1) listed a w:=by
 have hno:∀ j o,ops[j]? = some o→qh_ o = true:=fun j o h=>by
  rw [Array.all_eq_true] at hnd
  obtain ⟨hj,rfl⟩:=ge_ h
  exact hnd j hj
 intro fuel
 induction fuel with
 | zero=>
   intro listed a w hcl _ hr hy hS H
   refine ⟨fun h=>(by rw [h] at hr;cases hr),fun j hj=>?_⟩
   by_cases hji:j = i
   · subst hji;exact hy.wpOp hF hi (hno _ _ hi) ⟨listed,hcl,hr,hS⟩ ⟨(hins _ _).2 hS,H⟩
   · have:=ready_mono hj hji
     rw [H.1] at this
     cases this
 | succ fuel ih=>
   intro listed a w hcl hfree hr hy hS H
   refine ⟨fun h=>(by rw [h] at hr;cases hr),fun j hj=>?_⟩
   by_cases hji:j = i
   · subst hji;exact hy.wpOp hF hi (hno _ _ hi) ⟨listed,hcl,hr,hS⟩ ⟨(hins _ _).2 hS,H⟩
   · have h1:=H.2 j (ready_mono hj hji)
     obtain ⟨hjun,oj,hoj,hall⟩:=mem_ready.1 hj
     have hnot:∀ e ∈ oj.after,Region.binds md e = true→e.on ≠ i:=fun e he hb heq=>by
      have h1:=hall e he hb
      have h0:=(mem_ready.1 hr).1
      rw [heq] at h1
      rcases Nat.lt_or_ge i listed.size with h' | h'
      · simp [h'] at h0 h1;rw [h0] at h1;cases h1
      · simp [Array.getElem?_eq_none h'] at h1
     have h2:=zE_ hoj (hno _ _ hoj) (hfree j oj hoj hji hjun hnot) (fun cs b=>hsel i oi cs b hi) (fun cs b=>hsel j oj cs b hoj) hQ hy h1
     have hfree':∀ k ok,ops[k]? = some ok→k ≠ i→(listed.setIfInBounds j true).getD k true = false →
      (∀ e ∈ ok.after,Region.binds md e = true→e.on ≠ i)→oi.apart ops ok = true:=fun k ok hk hki hun hno=>by
      refine hfree k ok hk hki ?_ hno
      by_cases hjk:j = k
      · subst hjk;exact hjun
      · rw [getD_set_ne true hjk] at hun;exact hun
     refine wpOpIn_mono (fun a' w' h3=>?_) h2
     rw [Array.setIfInBounds_comm _ _ (Ne.symm hji)] at h3
     have hs':=(hins _ _).1 h3.2.1
     exact ⟨hs',ih (listed.setIfInBounds j true) a' w' (hcl.set hj) hfree' (ready_mono hr (Ne.symm hji)) h3.1 hs' h3.2.2⟩
theorem qm_ (hF:∀ f,F.fn f) (hnd:ops.all qh_ = true) (i t:Nat) (v:Value) {oi:Oper} {fuel:Nat} {listed:Array Bool} {a:Act} {w:World} (hi:ops[i]? = some oi) (hd:oi.dst = some t)
 (hs:Region.noSelect ops = true) (hf:Region.free md ops listed i = true) (hr:(Region.ready md ops listed).contains i = true) (hc:lstB md ops listed = true) (hins:∀ listed w,S (listed.setIfInBounds i true) w ↔ S listed w)
 (hQ:∀ c a w,Q (.panic c) (a.put (some t) v) w→Q (.panic c) a w) (hy:YIf P ops (yt_ md ops S i) oi v a) (hS:S listed w)
 (h:vg_ F n P md ops Q S fuel (listed.setIfInBounds i true) (a.put (some t) v) w):vg_ F n P md ops Q S (fuel + 1) listed a w:=
 wi_ hF hnd hi (Region.noSelect_spec hs) (by rw [hd];exact hQ) hins fuel listed a w (lstB_spec hc) (Region.free_spec hi hf) (by simpa using hr) hy hS (by rw [hd];exact h)
theorem qX_ {i:Nat} {o:Oper} {fuel:Nat} {listed:Array Bool} {a:Act} {w:World} (hr:Region.ready md ops listed = [i]) (ho:ops[i]? = some o) (hw:Region.wanted o (yielded ops a.tmps) = true)
 (h:∀ K:Act→World→Prop,(∀ a w,S (listed.setIfInBounds i true) w∧vg_ F n P md ops Q S fuel (listed.setIfInBounds i true) a w→K a w)→Oper.wpIn F n P o a w K Q):vg_ F n P md ops Q S (fuel + 1) listed a w:=
 ⟨fun h0=>(by rw [hr] at h0;cases h0),hr ▸ fun j hj=>by
   obtain rfl:j = i:=by simpa using hj
   unfold wpOpIn
   rw [ho]
   simp only [hw,if_true]
   exact h _ fun _ _ h=>h⟩
theorem tkG (i t:Nat) (v:Value) {oi:Oper} {fuel:Nat} {listed:Array Bool} {a:Act} {w:World} (hins:∀ listed w,S (listed.setIfInBounds i true) w ↔ S listed w) (hi:ops[i]? = some oi) (hd:oi.dst = some t) (hS:S listed w) (hy:∀ w,yt_ md ops S i w→(execOp a.eval oi).run P w = .ok (.value v) w)
 (h:vg_ F n P md ops Q S fuel (listed.setIfInBounds i true) (a.put (some t) v) w)
 (hF:∀ f,F.fn f:=by exact fun _=>trivial) (hnd:ops.all qh_ = true:=by kernel_rfl) (hs:Region.noSelect ops = true:=by kernel_rfl) (hf:Region.free md ops listed i = true:=by kernel_rfl) (hr:(Region.ready md ops listed).contains i = true:=by kernel_rfl) (hc:lstB md ops listed = true:=by kernel_rfl)
 (hQ:∀ c a w,Q (.panic c) (a.put (some t) v) w→Q (.panic c) a w:=by exact fun _ _ _ h=>h) (hw:Region.wanted oi (yielded ops a.tmps) = true:=by kernel_rfl):vg_ F n P md ops Q S (fuel + 1) listed a w:=
 qm_ hF hnd i t v hi hd hs hf hr hc hins hQ (.inl ⟨hw,hy⟩) hS h
theorem tkV (i t:Nat) (v:Value) {oi:Oper} {fuel:Nat} {listed:Array Bool} {a:Act} {w:World} (hins:∀ listed w,S (listed.setIfInBounds i true) w ↔ S listed w) (hi:ops[i]? = some oi) (hd:oi.dst = some t) (hS:S listed w)
 (h:vg_ F n P md ops Q S fuel (listed.setIfInBounds i true) (a.put (some t) v) w) (hy:∀ w,yt_ md ops S i w→(execOp a.eval oi).run P w = .ok (.value v) w:=by intro w hs;(repeat (obtain ⟨_,hs⟩:=hs));go_simp)
 (hF:∀ f,F.fn f:=by exact fun _=>trivial) (hnd:ops.all qh_ = true:=by kernel_rfl) (hs:Region.noSelect ops = true:=by kernel_rfl) (hf:Region.free md ops listed i = true:=by kernel_rfl) (hr:(Region.ready md ops listed).contains i = true:=by kernel_rfl) (hc:lstB md ops listed = true:=by kernel_rfl)
 (hQ:∀ c a w,Q (.panic c) (a.put (some t) v) w→Q (.panic c) a w:=by exact fun _ _ _ h=>h) (hw:Region.wanted oi (yielded ops a.tmps) = true:=by kernel_rfl):vg_ F n P md ops Q S (fuel + 1) listed a w:=tkG i t v hins hi hd hS hy h hF hnd hs hf hr hc hQ hw
theorem aGO (i:Nat) {o:Oper} {fuel:Nat} {listed:Array Bool} {a:Act} {w:World} (ho:ops[i]? = some o)
 (h:∀ K:Act→World→Prop,(∀ a w,S (listed.setIfInBounds i true) w∧vg_ F n P md ops Q S fuel (listed.setIfInBounds i true) a w→K a w)→Oper.wpIn F n P o a w K Q) (hr:Region.ready md ops listed = [i]:=by kernel_rfl) (hw:Region.wanted o (yielded ops a.tmps) = true:=by kernel_rfl):vg_ F n P md ops Q S (fuel + 1) listed a w:=qX_ hr ho hw h
theorem xG_ {fuel:Nat} {listed:Array Bool} {a:Act} {w:World} (hr:Region.ready md ops listed = []) (h:Q .normal a w):vg_ F n P md ops Q S fuel listed a w:=by
 cases fuel with
 | zero=>exact ⟨hr,h⟩
 | succ f=>exact ⟨fun _=>h,fun i hi=>(by rw [hr] at hi;cases hi)⟩
theorem ys_ {id:Nat} {a:Act} {w:World} (S:Array Bool→World→Prop) (hm:P.follows .mixedOrders = true)
 (h:vg_ F n P .any ops Q S ops.size (Array.replicate ops.size false) a w.drew):(Code.region id ops true).wpIn F n P Q a w:=
 wpIn_region_any hm (yo_ _ _ _ _ h)
end
def Srt (l:List Fl):Prop:=l.Pairwise (fun a b=>cmpP a.p b.p < 0)
def Clo (l:List Fl):Prop:=∀ x ∈ l,x.p.dropLast ≠ []→∃ z ∈ l,z.p = x.p.dropLast
theorem yJ_:∀ (u t:List Ky),t ≠ []→cmpP u (u ++ t) < 0
 | [],t,h=>by cases t with | nil=>exact absurd rfl h | cons _ _=>simp [cmpP]
 | a :: u,t,h=>by simp only [List.cons_append,cmpP,qR_.refl,ne_eq,not_true,if_false];exact yJ_ u t h
theorem vx_ (x y:List Ky):∀ (u:List Ky),cmpP (u ++ x) (u ++ y) = cmpP x y
 | []=>rfl
 | a :: u=>by simp only [List.cons_append,cmpP,qR_.refl,ne_eq,not_true,if_false];exact vx_ x y u
theorem kj_:∀ (y:Fo) (u:List Ky),∀ x ∈ flsL u y,∃ k t,x.p = u ++ k :: t
 | .nil,u,x,h=>by simp [y9_] at h
 | .cons n l s r,u,x,h=>by
   rw [kY_] at h
   rcases List.mem_cons.1 h with rfl | h
   · exact ⟨_,[],rfl⟩
   · rcases List.mem_append.1 h with h | h
     · obtain ⟨k,t,hp⟩:=kj_ s _ x h
       exact ⟨qn_ n l,k :: t,by rw [hp];simp⟩
     · exact kj_ r u x h
theorem Srt.nodup {l:List Fl} (h:Srt l):(l.map Fl.p).Nodup:=by
 unfold Srt at h
 rw [List.Nodup,List.pairwise_map]
 exact h.imp fun {a b} hab e=>by rw [e,qi_.refl] at hab;omega
theorem Fo.len_drop:∀ (i:Nat) (y:Fo),(y.drop i).len = y.len - i
 | 0,_=>rfl
 | _ + 1, .nil=>by simp [Fo.drop,Fo.len]
 | i + 1, .cons n l s r=>by simp only [Fo.drop,Fo.len,Fo.len_drop i r];omega
theorem Fo.drop_one:∀ (i:Nat) (y:Fo),(y.drop i).drop 1 = y.drop (i + 1)
 | 0,_=>rfl
 | _ + 1, .nil=>rfl
 | i + 1, .cons _ _ _ r=>Fo.drop_one i r
def Fo.setN (y:Fo) (i:Nat) (n:List UInt8) (l:List Int) (s:Fo):Fo:=(y.take i).app (.cons n l s (y.drop (i + 1)))
def Fo.insN (y:Fo) (i:Nat) (n:List UInt8) (l:List Int) (s:Fo):Fo:=(y.take i).app (.cons n l s (y.drop i))
theorem Fo.len_setN {i:Nat} {n:List UInt8} {l:List Int} {s y:Fo} (h:i < y.len):(y.setN i n l s).len = y.len:=by
 simp only [Fo.setN,Fo.len_app,Fo.len_take (Nat.le_of_lt h),Fo.len,Fo.len_drop];omega
theorem zm_.length {E:TypeId} {S:Nat→Prop} {w:World} {y:Fo} {cs:List Value} (h:zm_ E S w y cs):cs.length = y.len * 3:=h.fcs.length
theorem zm_.split {E:TypeId} {w:World}:∀ {i:Nat} {y:Fo} {S:Nat→Prop} {cs:List Value},zm_ E S w y cs→∃ Sa Sb:Nat→Prop,(∀ b,Sa b→S b)∧(∀ b,Sb b→S b)∧(∀ b,Sa b→¬ Sb b) ∧
 zm_ E Sa w (y.take i) (cs.take (i * 3))∧zm_ E Sb w (y.drop i) (cs.drop (i * 3))
 | 0,y,S,cs,h=>⟨fun _=>False,S,fun _ h=>h.elim,fun _ h=>h,fun _ h=>h.elim,by simp [Fo.take,zm_],by simpa [Fo.drop] using h⟩
 | i + 1, .nil,S,cs,h=>⟨fun _=>False,S,fun _ h=>h.elim,fun _ h=>h,fun _ h=>h.elim,by rw [show cs = [] from h];simp [Fo.take,zm_],by rw [show cs = [] from h];simp [Fo.drop,zm_]⟩
 | i + 1, .cons n l s r,S,cs,⟨vn,vs,cs',S1,S2,S3,h1,hs,d1,d2,d3,h2,h3,h6⟩=>by
   obtain ⟨Sa,Sb,ha,hb,hd,hfa,hfb⟩:=h6.split (i:=i)
   refine ⟨fun b=>S1 b ∨ S2 b ∨ Sa b,Sb,fun b hb=>?_,fun b h=>hs b (.inr (.inr (hb b h))),fun b h h'=>?_,?_,?_⟩
   · rcases hb with h | h | h
     · exact hs b (.inl h)
     · exact hs b (.inr (.inl h))
     · exact hs b (.inr (.inr (ha b h)))
   · rcases h with h | h | h
     · exact d2 b h (hb b h')
     · exact d3 b h (hb b h')
     · exact hd b h h'
   · rw [h1,show (i + 1) * 3 = i * 3 + 1 + 1 + 1 from by omega]
     exact ⟨vn,vs,_,S1,S2,Sa,rfl,fun _ h=>h,d1,fun b h h'=>d2 b h (ha b h'),fun b h h'=>d3 b h (ha b h'),h2,h3,hfa⟩
   · rw [h1,show (i + 1) * 3 = i * 3 + 1 + 1 + 1 from by omega]
     exact hfb
theorem zm_.cons {E:TypeId} {Sn S:Nat→Prop} {w:World} {n:List UInt8} {l:List Int} {s r:Fo} {cs ds:List Value} (h:zm_ E Sn w (.cons n l s .nil) cs) (h':zm_ E S w r ds) (hd:∀ b,Sn b→¬ S b):zm_ E (fun b=>Sn b ∨ S b) w (.cons n l s r) (cs ++ ds):=zm_.app h h' hd
theorem zm_.set {E:TypeId} {S Sn:Nat→Prop} {w:World} {y s:Fo} {i:Nat} {n:List UInt8} {l:List Int} {cs ds:List Value} (h:zm_ E S w y cs) (hn:zm_ E Sn w (.cons n l s .nil) ds) (hd:∀ b,S b→¬ Sn b) :
 zm_ E (fun b=>S b ∨ Sn b) w (y.setN i n l s) (cs.take (i * 3) ++ (ds ++ cs.drop ((i + 1) * 3))):=by
 obtain ⟨Sa,Sb,ha,hb,hab,hfa,hfb⟩:=h.split (i:=i)
 have e1:(cs.drop (i * 3)).drop (1 * 3) = cs.drop ((i + 1) * 3):=by rw [List.drop_drop];congr 1;omega
 have e2:(y.drop i).drop 1 = y.drop (i + 1):=Fo.drop_one i y
 obtain ⟨Sc,Sd,hc,hd',hcd,_,hfd⟩:=hfb.split (i:=1)
 rw [e1,e2] at hfd
 refine (zm_.app hfa (zm_.cons hn hfd (fun b h1 h2=>hd b (hb b (hd' b h2)) h1)) (fun b h1 h2=>h2.elim (fun h2=>hd b (ha b h1) h2) (fun h2=>hab b h1 (hd' b h2)))).wide ?_
 rintro b (h | h | h)
 · exact .inl (ha b h)
 · exact .inr h
 · exact .inl (hb b (hd' b h))
theorem zm_.hole {E:TypeId} {w:World}:∀ {i:Nat} {y s r:Fo} {n:List UInt8} {l:List Int} {S:Nat→Prop} {cs:List Value},zm_ E S w y cs→y.drop i = .cons n l s r→∃ (vn vs:Value) (T:Nat→Prop),cs[i * 3]? = some (.string (bs n))∧cs[i * 3 + 1]? = some vn∧cs[i * 3 + 2]? = some vs∧(∀ b,T b→S b)∧zh_ (fun b=>S b∧¬ T b) w vn l∧FOw E T w vs s ∧
 ∀ (w':World) (vs':Value) (s':Fo) (T':Nat→Prop),qg_ (fun b=>S b∧¬ T b) w w'→FOw E T' w' vs' s'→(∀ b,T' b→S b→T b)→zm_ E (fun b=>S b ∨ T' b) w' (y.setN i n l s') (cs.set (i * 3 + 2) vs')
 | 0, .cons n l s r,s0,r0,n0,l0,S,cs,⟨vn,vs,cs',S1,S2,S3,h1,hs,d1,d2,d3,h2,h3,h6⟩,hd=>by
   simp only [Fo.drop,Fo.cons.injEq] at hd
   obtain ⟨rfl,rfl,rfl,rfl⟩:=hd
   refine ⟨vn,vs,S2,by rw [h1];rfl,by rw [h1];rfl,by rw [h1];rfl,fun b h=>hs b (.inr (.inl h)),zh_.wide h2 (fun b h=>⟨hs b (.inl h.1),d1 b h.1⟩),h3,fun w' vs' s' T' ha hF hT=>?_⟩
   rw [h1]
   refine ⟨vn,vs',cs',S1,T',S3,rfl,fun b h=>?_,fun b h h'=>d1 b h (hT b h' (hs b (.inl h))),d2,fun b h h'=>d3 b (hT b h (hs b (.inr (.inr h')))) h',h2.agree (fun b h=>ha b ⟨hs b (.inl h),d1 b h⟩),hF,?_⟩
   · rcases h with h | h | h
     · exact .inl (hs b (.inl h))
     · exact .inr h
     · exact .inl (hs b (.inr (.inr h)))
   · exact h6.agree (fun b h=>ha b ⟨hs b (.inr (.inr h)),fun h'=>d3 b h' h⟩)
 | i + 1, .cons n l s r,s0,r0,n0,l0,S,cs,⟨vn,vs,cs',S1,S2,S3,h1,hs,d1,d2,d3,h2,h3,h6⟩,hd=>by
   obtain ⟨vn',vs',T,g0,g1,g2,hT,hI,hF,hk⟩:=h6.hole (i:=i) hd
   refine ⟨vn',vs',T,?_,?_,?_,fun b h=>hs b (.inr (.inr (hT b h))),hI.wide (fun b h=>⟨hs b (.inr (.inr h.1)),h.2⟩),hF,fun w' vs'' s' T' ha hF' hT'=>?_⟩
   · rw [h1,show (i + 1) * 3 = i * 3 + 1 + 1 + 1 from by omega];exact g0
   · rw [h1,show (i + 1) * 3 + 1 = i * 3 + 1 + 1 + 1 + 1 from by omega];exact g1
   · rw [h1,show (i + 1) * 3 + 2 = i * 3 + 2 + 1 + 1 + 1 from by omega];exact g2
   · have hnT:∀ b,T' b→¬ S1 b∧¬ S2 b:=fun b h=>⟨fun h'=>d2 b h' (hT b (hT' b h (hs b (.inl h')))),fun h'=>d3 b h' (hT b (hT' b h (hs b (.inr (.inl h')))))⟩
     have hk':=hk w' vs'' s' T' (fun b h=>ha b ⟨hs b (.inr (.inr h.1)),h.2⟩) hF' (fun b h h'=>hT' b h (hs b (.inr (.inr h'))))
     rw [h1,show (i + 1) * 3 + 2 = i * 3 + 2 + 1 + 1 + 1 from by omega]
     refine ⟨vn,vs,_,S1,S2,fun b=>S3 b ∨ T' b,rfl,fun b h=>?_,d1,fun b h h'=>h'.elim (d2 b h) (fun h'=>(hnT b h').1 h),fun b h h'=>h'.elim (d3 b h) (fun h'=>(hnT b h').2 h),h2.agree (fun b h=>ha b ⟨hs b (.inl h),fun h'=>d2 b h (hT b h')⟩),?_,hk'⟩
     · rcases h with h | h | h | h
       · exact .inl (hs b (.inl h))
       · exact .inl (hs b (.inr (.inl h)))
       · exact .inl (hs b (.inr (.inr h)))
       · exact .inr h
     · exact FOw.agree (S:=S2) h3 (fun b h=>ha b ⟨hs b (.inr (.inl h)),fun h'=>d3 b h (hT b h')⟩)
theorem vL_ {w:World} {base e k n:Nat} {v:Value} {xs:List Value} {S:Nat→Prop} (h:w.ownsRow base e k v n xs) (hS:∀ g,v.ownBlock = some g→S g):SlC (US S w) w k v n xs:=by
 obtain ⟨h1,h2⟩:=h
 refine ⟨h1,?_⟩
 rcases h2 with ⟨rfl,rfl⟩ | ⟨g,cap,cur,rfl,hb,hg,hn,hc,hs,ht⟩
 · exact ⟨none,0,rfl,by omega,by simp [maxLen],fun _=>rfl, .inl rfl⟩
 · refine ⟨_,cap,rfl,hn,hc,(fun h=>by cases h), .inr ⟨g,0,rfl,⟨hS g rfl,_,_,hg⟩,fun j u hj=>?_⟩⟩
   simp only [World.cell?,hg,Nat.zero_add]
   rw [← ht,List.getElem?_take] at hj
   split at hj
   · simpa using hj
   · cases hj
theorem zm_.fcsu {E:TypeId} {w:World}:∀ {y:Fo} {S:Nat→Prop} {cs:List Value},zm_ E S w y cs→FCsU S w y cs
 | .nil,_,_,h=>h
 | .cons n l s r,S,cs,⟨vn,vs,cs',S1,S2,S3,h1,hs,_,_,_,h2,⟨ds,h3,h4,h5⟩,h6⟩=>
   ⟨vn,vs,cs',h1,IntU.wide h2 (fun b hb=>hs b (.inl hb)),⟨ds,vL_ h3 (fun g hg=>hs g (.inr (.inl (h4 g hg)))),FCsU.wide h5.fcsu (fun b hb=>hs b (.inr (.inl hb.1)))⟩,FCsU.wide h6.fcsu (fun b hb=>hs b (.inr (.inr hb)))⟩
theorem FOw.fslu {E:TypeId} {S:Nat→Prop} {w:World} {v:Value} {y:Fo} (h:FOw E S w v y):FSlU S w v y:=
 let ⟨ds,h1,h2,h3⟩:=h;⟨ds,vL_ h1 h2,FCsU.wide h3.fcsu (fun b hb=>hb.1)⟩
def wm_:(Nat→Prop)→World→Fo→List Value→Prop
 | _,_, .nil,cs=>cs = []
 | S,w, .cons n l s r,cs=>∃ (vn vs:Value) (cs':List Value) (S1 S2 S3:Nat→Prop),cs = .string (bs n) :: vn :: vs :: cs' ∧
    (∀ b,S1 b ∨ S2 b ∨ S3 b→S b)∧(∀ b,S1 b→¬ S2 b)∧(∀ b,S1 b→¬ S3 b)∧(∀ b,S2 b→¬ S3 b)∧w.ownsRow 0 3 1 vn l.length (l.map (Value.int .i64))∧(∀ g,vn.ownBlock = some g→S1 g) ∧
    FSl S2 w vs s∧wm_ S3 w r cs'
theorem wm_.agree {w w':World}:∀ {y:Fo} {S:Nat→Prop} {cs:List Value},wm_ S w y cs→qg_ S w w'→wm_ S w' y cs
 | .nil,_,_,h,_=>h
 | .cons n l s r,S,cs,⟨vn,vs,cs',S1,S2,S3,h1,hs,d1,d2,d3,h2,h3,h4,h6⟩,ha=>
   ⟨vn,vs,cs',S1,S2,S3,h1,hs,d1,d2,d3,q3_ h2 (fun g hg=>ha g (hs g (.inl (h3 g hg)))),h3,h4.agree (fun b hb=>ha b (hs b (.inr (.inl hb)))),h6.agree (fun b hb=>ha b (hs b (.inr (.inr hb))))⟩
theorem wm_.wide {w:World}:∀ {y:Fo} {S S':Nat→Prop} {cs:List Value},wm_ S w y cs→(∀ b,S b→S' b)→wm_ S' w y cs
 | .nil,_,_,_,h,_=>h
 | .cons n l s r,S,S',cs,⟨vn,vs,cs',S1,S2,S3,h1,hs,d1,d2,d3,h2,h3,h4,h6⟩,hw=>
   ⟨vn,vs,cs',S1,S2,S3,h1,fun b hb=>hw b (hs b hb),d1,d2,d3,h2,h3,h4,h6⟩
theorem wm_.app {w:World}:∀ {y z:Fo} {S S':Nat→Prop} {cs ds:List Value},wm_ S w y cs→wm_ S' w z ds→(∀ b,S b→¬ S' b)→wm_ (fun b=>S b ∨ S' b) w (y.app z) (cs ++ ds)
 | .nil,z,_,_,_,_,h,h',_=>by rw [show _ = [] from h];exact h'.wide (fun b hb => .inr hb)
 | .cons n l s r,z,S,S',cs,ds,⟨vn,vs,cs',S1,S2,S3,h1,hs,d1,d2,d3,h2,h3,h4,h6⟩,h',hd=>
   ⟨vn,vs,cs' ++ ds,S1,S2,fun b=>S3 b ∨ S' b,by rw [h1];rfl,fun b hb=>by
     rcases hb with hb | hb | hb | hb
     · exact .inl (hs b (.inl hb))
     · exact .inl (hs b (.inr (.inl hb)))
     · exact .inl (hs b (.inr (.inr hb)))
     · exact .inr hb,
     d1,fun b hb h=>h.elim (d2 b hb) (hd b (hs b (.inl hb))),fun b hb h=>h.elim (d3 b hb) (hd b (hs b (.inr (.inl hb)))),h2,h3,h4,
     h6.app h' (fun b hb=>hd b (hs b (.inr (.inr hb))))⟩
theorem wm_.one {S1 S2:Nat→Prop} {w:World} {n:List UInt8} {l:List Int} {s:Fo} {vn vs:Value} (h1:w.ownsRow 0 3 1 vn l.length (l.map (Value.int .i64))) (h2:∀ g,vn.ownBlock = some g→S1 g) (h3:FSl S2 w vs s) (hd:∀ b,S1 b→¬ S2 b):wm_ (fun b=>S1 b ∨ S2 b) w (.cons n l s .nil) [.string (bs n),vn,vs]:=
 ⟨vn,vs,[],S1,S2,fun _=>False,rfl,fun b hb=>by rcases hb with hb | hb | hb;exact .inl hb;exact .inr hb;exact hb.elim,hd,fun _ _ h=>h,fun _ _ h=>h,h1,h2,h3,rfl⟩
end Go.Proofs.LF