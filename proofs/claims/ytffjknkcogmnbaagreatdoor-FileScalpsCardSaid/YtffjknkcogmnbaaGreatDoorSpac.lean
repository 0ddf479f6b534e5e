/- Parts of the proof of a law of layer 11 (file): LfYab. The conditions stand in each theorem. -/
import Derived.Laws.RangeAny
import Derived.Laws.World
import Derived.Lib.AppendZerosOnto
import Derived.Test.YtffjknkcogmnbaaGreatDoorProg
import Derived.Test.YtffjknkcogmnbaaGreatDoorSpaa
set_option linter.all false
set_option linter.unusedVariables false
set_option linter.unusedSimpArgs false
set_option linter.all false
set_option linter.unusedVariables false
set_option linter.unusedSimpArgs false
namespace Go.Proofs.LF
open Go.RowKit
set_option maxHeartbeats 1000000
set_option maxRecDepth 100000
attribute [local go_sem] q1_
def Ky.val (k:Ky):Value := .agg #[.string (bs k.n), .bool k.h, .int .i64 k.x]
theorem zC_ (n:List UInt8) (l:List Int) (an:Option Addr) (cn:Nat) (vs:Value) (S:Nat→Prop) (w:World) (hl:qF_ S w (.slice an l.length cn) l) (hS:∀ b,S b→b < w.heap.size) (sa:Option Addr) (sl sc:Nat) (hvs:vs = .slice sa sl sc) :
 Calls Tryz.prog 90 #[.agg #[.string (bs n), .slice an l.length cn,vs]] w fun e w'=>e = .returned (.agg #[.string (bs (kyOf n l).n), .bool (kyOf n l).h, .int .i64 (kyOf n l).x])∧Below w.heap.size w w':=by
 subst hvs
 cases l with
 | nil=>
   go_enter Tryz.func90,Tryz.ntmps90
   go_wp2
   exact bodyPost_ret (v := .agg #[.string (bs n), .bool false, .int .i64 0]) (by simp [results,Tryz.results90,go_sem]) rfl ⟨rfl,((Below.refl _ _).alloc (nl_ _) _).alloc (by simp) _⟩
 | cons x l=>
   obtain ⟨g,o,rfl,hg,_,_,hcell⟩:=SlC.cells hl (by simp)
   · have hx:w.cell? ⟨g,o,none⟩ = some (.int .i64 x):=hcell 0 _ rfl
     have hg':=hS g hg
     clear hcell
     go_enter Tryz.func90,Tryz.ntmps90
     go_wp2_with fail
     go_region_held3 (fun w'=>w'.cell? ⟨w.heap.size,0,none⟩ = some (.string (bs n))∧w'.cell? ⟨w.heap.size,1,none⟩ = some (.slice (some ⟨g,o,none⟩) (l.length + 1) cn)∧w'.cell? ⟨g,o,none⟩ = some (.int .i64 x)) (go_keep) (fail)
     go_wp2
     exact bodyPost_ret (v := .agg #[.string (bs n), .bool true, .int .i64 x]) (by simp [results,Tryz.results90,go_sem]) rfl ⟨rfl,(((Below.refl _ _).alloc (nl_ _) _).alloc (by simp) _).drew⟩
end Go.Proofs.LF
namespace Go.Proofs.LF
open Go.RowKit
section
variable {F:Fence} {n:Nat} {P:Program} {ops:Array Oper} {Q:Exit→Act→World→Prop} {md:Region.Mode} {S:World→Prop}
def YIf (P:Program) (ops:Array Oper) (S:World→Prop) (o:Oper) (v:Value) (a:Act):Prop:=
 (Region.wanted o (yielded ops a.tmps) = true∧∀ w,S w→(execOp a.eval o).run P w = .ok (.value v) w) ∨
 (Region.wanted o (yielded ops a.tmps) = false∧v = undef)
def qk_ (o:Oper):Bool:=match o.op with | .defer _=>false | _=>true
theorem zP_ {o:Oper} (h:qk_ o = true) {r:Option Nat} {ρ:Operand→Value}:Oper.semAt r ρ o = execOp ρ o:=
 Oper.semAt_eq r ρ o fun c e=>by simp [qk_,e] at h
theorem YIf.of_same {o:Oper} {v:Value} {a a':Act} (hy:YIf P ops S o v a) (he:execOp a'.eval o = execOp a.eval o)
 (hw:Region.wanted o (yielded ops a'.tmps) = Region.wanted o (yielded ops a.tmps)):YIf P ops S o v a':=by
 unfold YIf at *
 rw [he,hw]
 exact hy
theorem YIf.wpOp (hF:∀ f,F.fn f) {i:Nat} {o:Oper} {v:Value} {a:Act} (hi:ops[i]? = some o) (hnd:qk_ o = true) (hy:YIf P ops S o v a)
 {K:Act→World→Prop} {w:World} (hS:S w) (h:K (a.put o.dst v) w):wpOpIn F n P ops Q i K a w:=by
 unfold wpOpIn
 simp only [hi]
 rcases hy with ⟨hw,hv⟩ | ⟨hw,rfl⟩
 · simp only [hw,if_true,Oper.wpIn,zP_ hnd,hv w hS,Oper.uponIn];exact ⟨fun f _=>hF f,h⟩
 · simp only [hw,Bool.false_eq_true,if_false];exact ⟨fun f _=>hF f,h⟩
theorem zM_ {j:Nat} {oi oj:Oper} {v:Value} (hj:ops[j]? = some oj) (hnd:qk_ oj = true) (hap:oi.apart ops oj = true)
 (hsi:∀ cs b,oi.op ≠ .select cs b) (hsj:∀ cs b,oj.op ≠ .select cs b)
 (hQ:∀ c a w,Q (.panic c) (a.put oi.dst v) w→Q (.panic c) a w) {K:Act→World→Prop} {a:Act} {w:World}
 (hy:YIf P ops S oi v a) (h:wpOpIn F n P ops Q j K (a.put oi.dst v) w) :
 wpOpIn F n P ops Q j (fun a' w'=>YIf P ops S oi v a'∧K (a'.put oi.dst v) w') a w:=by
 obtain ⟨h1,h2,h3⟩:=Oper.apart_spec hap
 have keep:∀ (a:Act),YIf P ops S oi v a→∀ u,YIf P ops S oi v (a.put oj.dst u):=fun a hy u=>
  hy.of_same (execOp_put oi hsi a oj.dst u h3) (wanted_put oi a oj.dst u h3)
 have keepD:∀ d,YIf P ops S oi v { a with defers:=d :: a.defers }:=fun d=>hy.of_same rfl rfl
 unfold wpOpIn at *
 simp only [hj] at *
 rw [wanted_put oj a oi.dst v h1,about_put oj w a oi.dst v h1] at h
 split
 · rename_i hw
   simp only [hw,if_true] at h
   unfold Oper.wpIn at *
   rw [about_put oj w a oi.dst v h1] at h
   refine ⟨h.1,?_⟩
   have h:=h.2
   rw [zP_ hnd,execOp_put oj hsj a oi.dst v h1] at h
   rw [zP_ hnd]
   generalize (execOp a.eval oj).run P w = r at *
   cases r with
   | ok x w'=>
     cases x <;> simp only [Oper.uponIn] at h ⊢
     case value u=>exact ⟨keep a hy u,by rw [← Act.put_comm a v u h2];exact h⟩
     case skip=>exact ⟨keep a hy _,by rw [← Act.put_comm a v undef h2];exact h⟩
     case defer d=>
      refine ⟨keep _ (keepD d) _,?_⟩
      rw [← Act.put_comm _ v undef h2,← Act.put_defers]
      exact h
     case enter f args=>
      refine ⟨h.1,CallsIn.mono h.2 fun e w'' he=>?_⟩
      cases e with
      | returned u=>exact ⟨keep a hy u,by rw [← Act.put_comm a v u h2];exact he⟩
      | panicked c=>exact hQ _ _ _ he
      | outgrown=>exact he
     case row row args=>exact ⟨h.1,RowsIn.mono h.2 fun u w'' he=>⟨keep a hy u,by rw [← Act.put_comm a v u h2];exact he⟩⟩
     case round l f tmps assign body=>
      refine ⟨h.1,RoundIn.mono h.2 fun e w'' he=>?_⟩
      cases e with
      | returned u=>exact ⟨keep a hy u,by rw [← Act.put_comm a v u h2];exact he⟩
      | panicked c=>exact hQ _ _ _ he
      | outgrown=>exact he
   | halt x w'=>
     cases x <;> simp only [Oper.uponIn] at h ⊢
     case panic u=>exact hQ _ _ _ h
 · rename_i hw
   simp only [hw] at h
   exact ⟨h.1,keep a hy _,by rw [← Act.put_comm a v undef h2];exact h.2⟩
def k6_ (F:Fence) (n:Nat) (P:Program) (md:Region.Mode) (ops:Array Oper) (Q:Exit→Act→World→Prop) (S:World→Prop):Nat→Array Bool→Act→World→Prop
 | 0,listed,a,w=>Region.ready md ops listed = []∧Q .normal a w
 | fuel + 1,listed,a,w=>
   (Region.ready md ops listed = []→Q .normal a w) ∧
   ∀ i ∈ Region.ready md ops listed,wpOpIn F n P ops Q i (fun a' w'=>S w'∧k6_ F n P md ops Q S fuel (listed.setIfInBounds i true) a' w') a w
theorem k9_:∀ (fuel:Nat) (listed:Array Bool) (a:Act) (w:World),k6_ F n P md ops Q S fuel listed a w→wpAnyIn F n P md ops Q fuel listed a w
 | 0,_,_,_,h=>h
 | fuel + 1,_,_,_,h=>⟨h.1,fun i hi=>wpOpIn_mono (fun a' w' h'=>k9_ fuel _ a' w' h'.2) (h.2 i hi)⟩
theorem k6_.imp {S':World→Prop} (hS:∀ w,S w→S' w):∀ (fuel:Nat) (listed:Array Bool) (a:Act) (w:World),k6_ F n P md ops Q S fuel listed a w→k6_ F n P md ops Q S' fuel listed a w
 | 0,_,_,_,h=>h
 | fuel + 1,_,_,_,h=>⟨h.1,fun i hi=>wpOpIn_mono (fun a' w' h'=>⟨hS _ h'.1,k6_.imp hS fuel _ a' w' h'.2⟩) (h.2 i hi)⟩
theorem yZ_ (hF:∀ f,F.fn f) (hnd:ops.all qk_ = true) {i:Nat} {oi:Oper} {v:Value} (hi:ops[i]? = some oi) (hsel:∀ (j:Nat) (o:Oper) cs b,ops[j]? = some o→o.op ≠ .select cs b)
 (hQ:∀ c a w,Q (.panic c) (a.put oi.dst v) w→Q (.panic c) a w) :
 ∀ (fuel:Nat) (listed:Array Bool) (a:Act) (w:World),
  (∀ j oj,ops[j]? = some oj→j ≠ i→listed.getD j true = false→(∀ e ∈ oj.after,Region.binds md e = true→e.on ≠ i)→oi.apart ops oj = true) →
  i ∈ Region.ready md ops listed→YIf P ops S oi v a→S w →
  k6_ F n P md ops Q S fuel (listed.setIfInBounds i true) (a.put oi.dst v) w→k6_ F n P md ops Q S (fuel + 1) listed a w:=by
 have hno:∀ j o,ops[j]? = some o→qk_ o = true:=fun j o h=>by
  rw [Array.all_eq_true] at hnd
  obtain ⟨hj,rfl⟩:=ge_ h
  exact hnd j hj
 intro fuel
 induction fuel with
 | zero=>
   intro listed a w _ hr hy hS H
   refine ⟨fun h=>(by rw [h] at hr;cases hr),fun j hj=>?_⟩
   by_cases hji:j = i
   · subst hji;exact hy.wpOp hF hi (hno _ _ hi) hS ⟨hS,H⟩
   · have:=ready_mono hj hji
     rw [H.1] at this
     cases this
 | succ fuel ih=>
   intro listed a w hfree hr hy hS H
   refine ⟨fun h=>(by rw [h] at hr;cases hr),fun j hj=>?_⟩
   by_cases hji:j = i
   · subst hji;exact hy.wpOp hF hi (hno _ _ hi) hS ⟨hS,H⟩
   · have h1:=H.2 j (ready_mono hj hji)
     obtain ⟨hjun,oj,hoj,hall⟩:=mem_ready.1 hj
     have hnot:∀ e ∈ oj.after,Region.binds md e = true→e.on ≠ i:=fun e he hb heq=>by
      have h1:=hall e he hb
      have h0:=(mem_ready.1 hr).1
      rw [heq] at h1
      rcases Nat.lt_or_ge i listed.size with h' | h'
      · simp [h'] at h0 h1;rw [h0] at h1;cases h1
      · simp [Array.getElem?_eq_none h'] at h1
     have h2:=zM_ hoj (hno _ _ hoj) (hfree j oj hoj hji hjun hnot) (fun cs b=>hsel i oi cs b hi) (fun cs b=>hsel j oj cs b hoj) hQ hy h1
     have hfree':∀ k ok,ops[k]? = some ok→k ≠ i→(listed.setIfInBounds j true).getD k true = false →
      (∀ e ∈ ok.after,Region.binds md e = true→e.on ≠ i)→oi.apart ops ok = true:=fun k ok hk hki hun hno=>by
      refine hfree k ok hk hki ?_ hno
      by_cases hjk:j = k
      · subst hjk;exact hjun
      · rw [getD_set_ne true hjk] at hun;exact hun
     refine wpOpIn_mono (fun a' w' h3=>⟨h3.2.1,ih (listed.setIfInBounds j true) a' w' hfree' (ready_mono hr (Ne.symm hji)) h3.1 h3.2.1 ?_⟩) h2
     rw [Array.setIfInBounds_comm _ _ hji]
     exact h3.2.2
theorem AnyH_take (hF:∀ f,F.fn f) (hnd:ops.all qk_ = true) {i:Nat} {oi:Oper} {v:Value} {fuel:Nat} {listed:Array Bool} {a:Act} {w:World} (hi:ops[i]? = some oi)
 (hs:Region.noSelect ops = true) (hf:Region.free md ops listed i = true) (hr:(Region.ready md ops listed).contains i = true)
 (hQ:∀ c a w,Q (.panic c) (a.put oi.dst v) w→Q (.panic c) a w) (hy:YIf P ops S oi v a) (hS:S w)
 (h:k6_ F n P md ops Q S fuel (listed.setIfInBounds i true) (a.put oi.dst v) w):k6_ F n P md ops Q S (fuel + 1) listed a w:=
 yZ_ hF hnd hi (Region.noSelect_spec hs) hQ fuel listed a w (Region.free_spec hi hf) (by simpa using hr) hy hS h
theorem q3_ (hF:∀ f,F.fn f) (hnd:ops.all qk_ = true) (i t:Nat) (v:Value) {oi:Oper} {fuel:Nat} {listed:Array Bool} {a:Act} {w:World} (hi:ops[i]? = some oi) (hd:oi.dst = some t)
 (hs:Region.noSelect ops = true) (hf:Region.free md ops listed i = true) (hr:(Region.ready md ops listed).contains i = true)
 (hQ:∀ c a w,Q (.panic c) (a.put (some t) v) w→Q (.panic c) a w) (hy:YIf P ops S oi v a) (hS:S w)
 (h:k6_ F n P md ops Q S fuel (listed.setIfInBounds i true) (a.put (some t) v) w):k6_ F n P md ops Q S (fuel + 1) listed a w:=
 AnyH_take hF hnd hi hs hf hr (by rw [hd];exact hQ) hy hS (by rw [hd];exact h)
theorem tkY (i t:Nat) (v:Value) {oi:Oper} {fuel:Nat} {listed:Array Bool} {a:Act} {w:World} (hi:ops[i]? = some oi) (hd:oi.dst = some t) (hS:S w) (hy:∀ w,S w→(execOp a.eval oi).run P w = .ok (.value v) w)
 (h:k6_ F n P md ops Q S fuel (listed.setIfInBounds i true) (a.put (some t) v) w)
 (hF:∀ f,F.fn f:=by exact fun _=>trivial) (hnd:ops.all qk_ = true:=by kernel_rfl) (hs:Region.noSelect ops = true:=by kernel_rfl) (hf:Region.free md ops listed i = true:=by kernel_rfl) (hr:(Region.ready md ops listed).contains i = true:=by kernel_rfl)
 (hQ:∀ c a w,Q (.panic c) (a.put (some t) v) w→Q (.panic c) a w:=by exact fun _ _ _ h=>h) (hw:Region.wanted oi (yielded ops a.tmps) = true:=by kernel_rfl):k6_ F n P md ops Q S (fuel + 1) listed a w:=
 q3_ hF hnd i t v hi hd hs hf hr hQ (.inl ⟨hw,hy⟩) hS h
theorem qb_ {i:Nat} {o:Oper} {fuel:Nat} {listed:Array Bool} {a:Act} {w:World} (hr:Region.ready md ops listed = [i]) (ho:ops[i]? = some o) (hw:Region.wanted o (yielded ops a.tmps) = true)
 (h:∀ K:Act→World→Prop,(∀ a w,S w∧k6_ F n P md ops Q S fuel (listed.setIfInBounds i true) a w→K a w)→Oper.wpIn F n P o a w K Q):k6_ F n P md ops Q S (fuel + 1) listed a w:=
 ⟨fun h0=>(by rw [hr] at h0;cases h0),hr ▸ fun j hj=>by
   obtain rfl:j = i:=by simpa using hj
   unfold wpOpIn
   rw [ho]
   simp only [hw,if_true]
   exact h _ fun _ _ h=>h⟩
theorem aHO (i:Nat) {o:Oper} {fuel:Nat} {listed:Array Bool} {a:Act} {w:World} (ho:ops[i]? = some o)
 (h:∀ K:Act→World→Prop,(∀ a w,S w∧k6_ F n P md ops Q S fuel (listed.setIfInBounds i true) a w→K a w)→Oper.wpIn F n P o a w K Q) (hr:Region.ready md ops listed = [i]:=by kernel_rfl) (hw:Region.wanted o (yielded ops a.tmps) = true:=by kernel_rfl):k6_ F n P md ops Q S (fuel + 1) listed a w:=qb_ hr ho hw h
theorem tkZ (i t:Nat) (v:Value) {oi:Oper} {fuel:Nat} {listed:Array Bool} {a:Act} {w:World} (hi:ops[i]? = some oi) (hd:oi.dst = some t) (hS:S w)
 (h:k6_ F n P md ops Q S fuel (listed.setIfInBounds i true) (a.put (some t) v) w) (hy:∀ w,S w→(execOp a.eval oi).run P w = .ok (.value v) w:=by intro w hs;(repeat (obtain ⟨_,hs⟩:=hs));go_simp)
 (hF:∀ f,F.fn f:=by exact fun _=>trivial) (hnd:ops.all qk_ = true:=by kernel_rfl) (hs:Region.noSelect ops = true:=by kernel_rfl) (hf:Region.free md ops listed i = true:=by kernel_rfl) (hr:(Region.ready md ops listed).contains i = true:=by kernel_rfl)
 (hQ:∀ c a w,Q (.panic c) (a.put (some t) v) w→Q (.panic c) a w:=by exact fun _ _ _ h=>h) (hw:Region.wanted oi (yielded ops a.tmps) = true:=by kernel_rfl):k6_ F n P md ops Q S (fuel + 1) listed a w:=tkY i t v hi hd hS hy h hF hnd hs hf hr hQ hw
theorem tkN (i t:Nat) {oi:Oper} {fuel:Nat} {listed:Array Bool} {a:Act} {w:World} (hi:ops[i]? = some oi) (hd:oi.dst = some t) (hS:S w)
 (h:k6_ F n P md ops Q S fuel (listed.setIfInBounds i true) (a.put (some t) undef) w)
 (hF:∀ f,F.fn f:=by exact fun _=>trivial) (hnd:ops.all qk_ = true:=by kernel_rfl) (hs:Region.noSelect ops = true:=by kernel_rfl) (hf:Region.free md ops listed i = true:=by kernel_rfl) (hr:(Region.ready md ops listed).contains i = true:=by kernel_rfl)
 (hQ:∀ c a w,Q (.panic c) (a.put (some t) undef) w→Q (.panic c) a w:=by exact fun _ _ _ h=>h) (hw:Region.wanted oi (yielded ops a.tmps) = false:=by kernel_rfl):k6_ F n P md ops Q S (fuel + 1) listed a w:=
 q3_ hF hnd i t undef hi hd hs hf hr hQ (.inr ⟨hw,rfl⟩) hS h
theorem q7_ {fuel:Nat} {listed:Array Bool} {a:Act} {w:World} (hr:Region.ready md ops listed = []) (h:Q .normal a w):k6_ F n P md ops Q S fuel listed a w:=by
 cases fuel with
 | zero=>exact ⟨hr,h⟩
 | succ f=>exact ⟨fun _=>h,fun i hi=>(by rw [hr] at hi;cases hi)⟩
theorem q8_ {id:Nat} {a:Act} {w:World} (S:World→Prop) (hm:P.follows .mixedOrders = true)
 (h:k6_ F n P .any ops Q S ops.size (Array.replicate ops.size false) a w.drew):(Code.region id ops true).wpIn F n P Q a w:=
 wpIn_region_any hm (k9_ _ _ _ _ h)
end
def yR_:Nat→Nat→List Fl→Fo × Nat
 | 0,_,_=>(.nil,0)
 | _ + 1,_,[]=>(.nil,0)
 | f + 1,d,x :: l=>
   if h:x.p.length = d + 1 then
    let a:=yR_ f (d + 1) l
    let b:=yR_ f d (l.drop a.2)
    (.cons x.p[d].n x.l a.1 b.1,1 + a.2 + b.2)
   else (.nil,0)
theorem jm_:∀ (f d:Nat) (l:List Fl),(yR_ f d l).2 ≤ l.length
 | 0,_,_=>by simp [yR_]
 | _ + 1,_,[]=>by simp [yR_]
 | f + 1,d,x :: l=>by
   simp only [yR_]
   split
   · have h1:=jm_ f (d + 1) l
     have h2:=jm_ f d (l.drop (yR_ f (d + 1) l).2)
     rw [List.length_drop] at h2
     simp only [List.length_cons];omega
   · simp
theorem ks_:∀ (f d:Nat) (l:List Fl),l.length ≤ f→yR_ f d l = yR_ l.length d l
 | 0,_,[],_=>rfl
 | 0,_,_ :: _,h=>by simp at h
 | _ + 1,_,[],_=>by simp [yR_]
 | f + 1,d,x :: l,h=>by
   have h':l.length ≤ f:=by simpa using h
   simp only [yR_,List.length_cons]
   split
   · rw [ks_ f (d + 1) l h',ks_ f d _ (by rw [List.length_drop];omega),ks_ l.length d _ (by rw [List.length_drop];omega)]
   · rfl
def treF (d:Nat) (l:List Fl):Fo × Nat:=yR_ l.length d l
theorem treF_no {d:Nat} {x:Fl} {l:List Fl} (h:x.p.length ≠ d + 1):treF d (x :: l) = (.nil,0):=by
 simp [treF,yR_,h]
theorem yk_ {d:Nat} {x:Fl} {l:List Fl} (h:x.p.length = d + 1):treF d (x :: l) =
 (.cons x.p[d].n x.l (treF (d + 1) l).1 (treF d (l.drop (treF (d + 1) l).2)).1,1 + (treF (d + 1) l).2 + (treF d (l.drop (treF (d + 1) l).2)).2):=by
 simp only [treF,List.length_cons,yR_,h,dif_pos]
 rw [ks_ l.length d _ (by rw [List.length_drop];omega)]
theorem treF_le (d:Nat) (l:List Fl):(treF d l).2 ≤ l.length:=jm_ _ _ _
def flsL (up:List Ky) (y:Fo):List Fl:=(qa_ up y).map fun x=>⟨x.up ++ [kyOf x.n x.l],x.l⟩
theorem qY_ (up:List Ky):flsL up .nil = []:=rfl
theorem qt_ (up:List Ky) (n:List UInt8) (l:List Int) (s r:Fo):flsL up (.cons n l s r) = ⟨up ++ [kyOf n l],l⟩ :: (flsL (up ++ [kyOf n l]) s ++ flsL up r):=by
 simp [flsL,qa_]
theorem vF_ (up:List Ky) (y:Fo):(flsL up y).length = y.cnt:=by simp [flsL,qr_]
def Uf (w:World) (q:Nat):Prop:=∃ cs t,w.heap[q]? = some (.cells cs t (0,0))
def US (S:Nat→Prop) (w:World) (q:Nat):Prop:=S q∧Uf w q
abbrev IntU (S:Nat→Prop) (w:World) (v:Value) (l:List Int):Prop:=qF_ (US S w) w v l
abbrev FCsU (S:Nat→Prop) (w:World) (y:Fo) (cs:List Value):Prop:=FCs (US S w) w y cs
abbrev FSlU (S:Nat→Prop) (w:World) (v:Value) (y:Fo):Prop:=FSl (US S w) w v y
theorem US.agree {S:Nat→Prop} {w w':World} (ha:qd_ S w w'):qd_ (US S w) w w'∧∀ q,US S w q→US S w' q:=
 ⟨fun q hq=>ha q hq.1,fun q hq=>⟨hq.1,let ⟨cs,t,h⟩:=hq.2;⟨cs,t,(ha q hq.1).trans h⟩⟩⟩
theorem US.wide {S S':Nat→Prop} {w:World} (hs:∀ b,S b→S' b):∀ q,US S w q→US S' w q:=fun q hq=>⟨hs q hq.1,hq.2⟩
theorem IntU.agree {S:Nat→Prop} {w w':World} {v:Value} {l:List Int} (h:IntU S w v l) (ha:qd_ S w w'):IntU S w' v l:=(qF_.agree h (US.agree ha).1).wide (US.agree ha).2
theorem IntU.wide {S S':Nat→Prop} {w:World} {v:Value} {l:List Int} (h:IntU S w v l) (hs:∀ b,S b→S' b):IntU S' w v l:=qF_.wide h (US.wide hs)
theorem FCsU.agree {S:Nat→Prop} {w w':World} {y:Fo} {cs:List Value} (h:FCsU S w y cs) (ha:qd_ S w w'):FCsU S w' y cs:=(FCs.agree (US.agree ha).1 h).wide (US.agree ha).2
theorem FCsU.wide {S S':Nat→Prop} {w:World} {y:Fo} {cs:List Value} (h:FCsU S w y cs) (hs:∀ b,S b→S' b):FCsU S' w y cs:=FCs.wide (US.wide hs) h
theorem FSlU.agree {S:Nat→Prop} {w w':World} {v:Value} {y:Fo} (h:FSlU S w v y) (ha:qd_ S w w'):FSlU S w' v y:=(FSl.agree h (US.agree ha).1).wide (US.agree ha).2
theorem FSlU.wide {S S':Nat→Prop} {w:World} {v:Value} {y:Fo} (h:FSlU S w v y) (hs:∀ b,S b→S' b):FSlU S' w v y:=FSl.wide h (US.wide hs)
theorem FCsU.app {S:Nat→Prop} {w:World} {y z:Fo} {cs ds:List Value} (h:FCsU S w y cs) (k:FCsU S w z ds):FCsU S w (y.app z) (cs ++ ds):=FCs.app h k
theorem FCsU.one {S:Nat→Prop} {w:World} {n:List UInt8} {l:List Int} {s:Fo} {vn vs:Value} (h1:IntU S w vn l) (h2:FSlU S w vs s):FCsU S w (.cons n l s .nil) [.string (bs n),vn,vs]:=FCs.one h1 h2
theorem FSlU.fsl {S:Nat→Prop} {w:World} {v:Value} {y:Fo} (h:FSlU S w v y):FSl S w v y:=FSl.wide h fun q hq=>hq.1
theorem Stable.intu (v:Value) (l:List Int):Stable (fun S w=>IntU S w v l):=⟨fun h=>IntU.agree h,fun h=>IntU.wide h⟩
theorem Stable.fslu (v:Value) (y:Fo):Stable (fun S w=>FSlU S w v y):=⟨fun h=>FSlU.agree h,fun h=>FSlU.wide h⟩
theorem Stable.fcsu (y:Fo) (cs:List Value):Stable (fun S w=>FCsU S w y cs):=⟨fun h ha=>FCsU.agree h ha,fun h hw=>FCsU.wide h hw⟩
theorem SlC.of_owns_u {w:World} {base e k n:Nat} {v:Value} {xs:List Value} (h:w.ownsRow base e k v n xs):SlC (US (Rg base w.heap.size) w) w k v n xs:=by
 obtain ⟨h1,h2⟩:=h
 refine ⟨h1,?_⟩
 rcases h2 with ⟨rfl,rfl⟩ | ⟨g,cap,cur,rfl,hb,hg,hn,hc,hs,ht⟩
 · exact ⟨none,0,rfl,by omega,by simp [maxLen],fun _=>rfl, .inl rfl⟩
 · refine ⟨_,cap,rfl,hn,hc,(fun h=>by cases h), .inr ⟨g,0,rfl,⟨⟨hb,(ge_ hg).1⟩,_,_,hg⟩,fun j u hj=>?_⟩⟩
   simp only [World.cell?,hg,Nat.zero_add]
   rw [← ht,List.getElem?_take] at hj
   split at hj
   · simpa using hj
   · cases hj
structure Cmp {α:Type} (f:α→α→Int):Prop where
 refl:∀ a,f a a = 0
 eq:∀ {a b},f a b = 0→a = b
 flip:∀ {a b},f a b < 0→0 < f b a
 flop:∀ {a b},0 < f a b→f b a < 0
 trans:∀ {a b c},f a b < 0→f b c < 0→f a c < 0
theorem kf_:Cmp wy_ where
 refl a:=by simp [wy_]
 eq {a b} h:=by unfold wy_ at h;split at h <;> (try split at h) <;> omega
 flip {a b} h:=by unfold wy_ at *;split at h <;> (try split at h) <;> (repeat' split) <;> omega
 flop {a b} h:=by unfold wy_ at *;split at h <;> (try split at h) <;> (repeat' split) <;> omega
 trans {a b c} h k:=by
  unfold wy_ at *
  split at h <;> (try split at h) <;> split at k <;> (try split at k) <;> (repeat' split) <;> omega
theorem bl_cons (a b:UInt8) (x y:List UInt8):Op.bytesLess (a :: x) (b :: y) = (decide (a < b) || (a == b && Op.bytesLess x y)):=rfl
theorem y2_:∀ {a b:List UInt8},Op.bytesLess a b = true→Op.bytesLess b a = false
 | [],[],h=>by simp [Op.bytesLess] at h
 | [],_ :: _,_=>by simp [Op.bytesLess]
 | _ :: _,[],h=>by simp [Op.bytesLess] at h
 | a :: x,b :: y,h=>by
   rw [bl_cons] at *
   simp only [Bool.or_eq_true,decide_eq_true_eq,Bool.and_eq_true,beq_iff_eq,Bool.or_eq_false_iff,decide_eq_false_iff_not,Bool.and_eq_false_iff,beq_eq_false_iff_ne,ne_eq,UInt8.lt_iff_toNat_lt] at *
   rcases h with h | ⟨rfl,h⟩
   · exact ⟨by omega, .inl (fun e=>by subst e;omega)⟩
   · exact ⟨by omega, .inr (y2_ h)⟩
theorem yl_:∀ {a b c:List UInt8},Op.bytesLess a b = true→Op.bytesLess b c = true→Op.bytesLess a c = true
 | _,[],_,h,_=>by cases ‹List UInt8› <;> simp [Op.bytesLess] at h
 | _,_ :: _,[],_,k=>by simp [Op.bytesLess] at k
 | [],_ :: _,_ :: _,_,_=>by simp [Op.bytesLess]
 | a :: x,b :: y,c :: z,h,k=>by
   rw [bl_cons] at *
   simp only [Bool.or_eq_true,decide_eq_true_eq,Bool.and_eq_true,beq_iff_eq,UInt8.lt_iff_toNat_lt] at *
   rcases h with h | ⟨rfl,h⟩ <;> rcases k with k | ⟨rfl,k⟩
   · exact .inl (by omega)
   · exact .inl h
   · exact .inl k
   · exact .inr ⟨rfl,yl_ h k⟩
theorem kI_ {a b:List UInt8}:yT_ a b < 0 ↔ Op.bytesLess a b = true:=by
 unfold yT_
 cases h:Op.bytesLess a b <;> simp
 split <;> omega
theorem ja_ {a b:List UInt8}:0 < yT_ a b ↔ Op.bytesLess b a = true:=by
 unfold yT_
 cases h:Op.bytesLess a b
 · cases k:Op.bytesLess b a <;> simp
 · simp [y2_ h]
theorem kk_:Cmp yT_ where
 refl a:=by simp [yT_,vw_]
 eq {a b} h:=by
  have h1:Op.bytesLess a b = false:=by cases e:Op.bytesLess a b;rfl;have:=kI_.2 e;omega
  have h2:Op.bytesLess b a = false:=by cases e:Op.bytesLess b a;rfl;have:=ja_.2 e;omega
  exact xp_ h1 h2
 flip {a b} h:=ja_.2 (kI_.1 h)
 flop {a b} h:=kI_.2 (ja_.1 h)
 trans {a b c} h k:=kI_.2 (yl_ (kI_.1 h) (kI_.1 k))
theorem qH_ {a b:Ky} (hn:a.n = b.n) (hh:a.h = b.h):byK a b = wy_ a.x b.x:=by simp [byK,hn,hh]
theorem qv_ {a b:Ky} (hn:a.n ≠ b.n):byK a b = yT_ a.n b.n:=by simp [byK,hn]
theorem zd_ {a b:Ky} (hn:a.n = b.n) (hh:a.h ≠ b.h):byK a b = if b.h then -1 else 1:=by simp [byK,hn,hh]
theorem qR_:Cmp byK where
 refl a:=by rw [qH_ rfl rfl,kf_.refl]
 eq {a b} h:=by
  by_cases hn:a.n = b.n
  · by_cases hh:a.h = b.h
    · rw [qH_ hn hh] at h
      have hx:=kf_.eq h
      cases a;cases b;simp_all
    · rw [zd_ hn hh] at h;split at h <;> omega
  · rw [qv_ hn] at h;exact absurd (kk_.eq h) hn
 flip {a b} h:=by
  by_cases hn:a.n = b.n
  · by_cases hh:a.h = b.h
    · rw [qH_ hn hh] at h;rw [qH_ hn.symm hh.symm];exact kf_.flip h
    · rw [zd_ hn hh] at h;rw [zd_ hn.symm (Ne.symm hh)]
      cases h1:a.h <;> cases h2:b.h <;> simp_all
  · rw [qv_ hn] at h;rw [qv_ (Ne.symm hn)];exact kk_.flip h
 flop {a b} h:=by
  by_cases hn:a.n = b.n
  · by_cases hh:a.h = b.h
    · rw [qH_ hn hh] at h;rw [qH_ hn.symm hh.symm];exact kf_.flop h
    · rw [zd_ hn hh] at h;rw [zd_ hn.symm (Ne.symm hh)]
      cases h1:a.h <;> cases h2:b.h <;> simp_all
  · rw [qv_ hn] at h;rw [qv_ (Ne.symm hn)];exact kk_.flop h
 trans {a b c} h k:=by
  by_cases hn:a.n = b.n
  · by_cases kn:b.n = c.n
    · by_cases hh:a.h = b.h
      · by_cases kh:b.h = c.h
        · rw [qH_ hn hh] at h;rw [qH_ kn kh] at k;rw [qH_ (hn.trans kn) (hh.trans kh)];exact kf_.trans h k
        · rw [zd_ kn kh] at k;rw [zd_ (hn.trans kn) (by rw [hh];exact kh)];exact k
      · by_cases kh:b.h = c.h
        · rw [zd_ hn hh] at h;rw [zd_ (hn.trans kn) (by rw [← kh];exact hh),← kh];exact h
        · rw [zd_ hn hh] at h;rw [zd_ kn kh] at k
          cases h1:a.h <;> cases h2:b.h <;> cases h3:c.h <;> simp_all
    · rw [qv_ kn] at k;rw [qv_ (by rw [hn];exact kn),hn];exact k
  · by_cases kn:b.n = c.n
    · rw [qv_ hn] at h;rw [qv_ (by rw [← kn];exact hn),← kn];exact h
    · rw [qv_ hn] at h;rw [qv_ kn] at k
      have:=kk_.trans h k
      rw [qv_ (fun e=>by rw [e,kk_.refl] at this;omega)];exact this
theorem qj_:Cmp cmpP:=by
 have key:∀ (a b:List Ky),(cmpP a b < 0→0 < cmpP b a)∧(0 < cmpP a b→cmpP b a < 0)∧(cmpP a b = 0→a = b):=by
  intro a
  induction a with
  | nil=>intro b;cases b <;> simp [cmpP]
  | cons x a ih=>
    intro b
    cases b with
    | nil=>simp [cmpP]
    | cons y b=>
      simp only [cmpP]
      by_cases h:byK x y = 0
      · obtain rfl:=qR_.eq h
        simp only [h,ne_eq,not_true,if_false]
        have:=ih b
        exact ⟨this.1,this.2.1,fun e=>by rw [this.2.2 e]⟩
      · have h':byK y x ≠ 0:=fun e=>h (by rw [qR_.eq e,qR_.refl])
        simp only [ne_eq,h,h',not_false_eq_true,if_true]
        exact ⟨qR_.flip,qR_.flop,fun e=>absurd e (by simpa using h)⟩
 have rf:∀ a:List Ky,cmpP a a = 0:=by
  intro a
  induction a with
  | nil=>rfl
  | cons x a ih=>simp [cmpP,qR_.refl,ih]
 refine ⟨rf,fun {a b}=>(key a b).2.2,fun {a b}=>(key a b).1,fun {a b}=>(key a b).2.1,fun {a b c}=>?_⟩
 induction a generalizing b c with
 | nil=>
   intro h k
   cases b with
   | nil=>simp [cmpP] at h
   | cons y b=>cases c with
     | nil=>simp [cmpP] at k
     | cons z c=>simp [cmpP]
 | cons x a ih=>
   intro h k
   cases b with
   | nil=>simp [cmpP] at h
   | cons y b=>cases c with
     | nil=>simp [cmpP] at k
     | cons z c=>
       simp only [cmpP] at h k ⊢
       by_cases h1:byK x y = 0
       · obtain rfl:=qR_.eq h1
         simp only [h1,ne_eq,not_true,if_false] at h
         by_cases h2:byK x z = 0
         · simp only [h2,ne_eq,not_true,if_false] at k ⊢;exact ih h k
         · simp only [h2,ne_eq,not_false_eq_true,if_true] at k ⊢;exact k
       · simp only [h1,ne_eq,not_false_eq_true,if_true] at h
         by_cases h2:byK y z = 0
         · obtain rfl:=qR_.eq h2
           simp only [h1,ne_eq,not_false_eq_true,if_true];exact h
         · simp only [h2,ne_eq,not_false_eq_true,if_true] at k
           have h3:=qR_.trans h k
           have h4:byK x z ≠ 0:=by omega
           simp only [h4,ne_eq,not_false_eq_true,if_true];exact h3
theorem LSl.on {α:Type} {k:Nat} {r:Rd α k} {w w':World} {v:Value} {xs:List α} (h:LSl r (fun q=>q < w.heap.size) w v xs) (hb:Below w.heap.size w w'):LSl r (fun q=>q < w'.heap.size) w' v xs:=
 (h.agree (q9_ hb fun q hq=>hq)).wide fun q hq=>Nat.lt_of_lt_of_le hq hb.size
theorem FSl.on {w w':World} {v:Value} {y:Fo} (h:FSl (fun q=>q < w.heap.size) w v y) (hb:Below w.heap.size w w'):FSl (fun q=>q < w'.heap.size) w' v y:=
 (h.agree (q9_ hb fun q hq=>hq)).wide fun q hq=>Nat.lt_of_lt_of_le hq hb.size
variable {P:Program}
theorem ins_cells {cur:List Value} {cs news:List Value} {i n k cap:Nat} (hk:news.length = k) (hcs:cur.take (n * k) = cs) (hcl:cs.length = n * k) (hi:i ≤ n) (hc:n + 1 ≤ cap) (hs:cur.length = cap * k)
 {c1:List Value} (h1:c1 = cur.take ((i + 1) * k) ++ cs.drop (i * k) ++ cur.drop ((i + 1) * k + (cs.drop (i * k)).length)) :
 (c1.take (i * k) ++ news ++ c1.drop (i * k + news.length)).take ((n + 1) * k) = cs.take (i * k) ++ (news ++ cs.drop (i * k))∧(c1.take (i * k) ++ news ++ c1.drop (i * k + news.length)).length = cap * k∧c1.length = cap * k:=by
 have hik:i * k ≤ n * k:=Nat.mul_le_mul_right k hi
 have hnk:n * k + k ≤ cap * k:=by have:=Nat.mul_le_mul_right k hc;rw [Nat.add_mul] at this;omega
 have e1:(i + 1) * k = i * k + k:=by rw [Nat.add_mul];omega
 have e2:(n + 1) * k = n * k + k:=by rw [Nat.add_mul];omega
 obtain ⟨A,hA⟩:∃ A,i * k = A:=⟨_,rfl⟩
 obtain ⟨N,hN⟩:∃ N,n * k = N:=⟨_,rfl⟩
 obtain ⟨C,hC⟩:∃ C,cap * k = C:=⟨_,rfl⟩
 rw [e1,hA] at h1
 rw [e2,hA,hN]
 rw [hA,hN] at hik
 rw [hN] at hnk hcs hcl
 rw [hC] at hnk hs ⊢
 subst hk
 have hdl:(cs.drop A).length = N - A:=by rw [List.length_drop,hcl]
 have l1:c1.length = C:=by
  rw [h1];simp only [List.length_append,List.length_take,List.length_drop,hcl,hs];omega
 have hcA:cs.take A = cur.take A:=by rw [← hcs,List.take_take,Nat.min_eq_left hik]
 have t1:c1.take A = cs.take A:=by
  rw [h1,List.append_assoc,List.take_append_of_le_length (by rw [List.length_take];omega),List.take_take,Nat.min_eq_left (by omega),hcA]
 have t2:c1.drop (A + news.length) = cs.drop A ++ cur.drop (A + news.length + (N - A)):=by
  rw [h1,hdl,List.append_assoc]
  have e3:(cur.take (A + news.length)).length = A + news.length:=by rw [List.length_take];omega
  rw [List.drop_append_of_le_length (by omega),List.drop_of_length_le (by omega),List.nil_append]
 refine ⟨?_,?_,l1⟩
 · rw [t1,t2]
   have hl:(cs.take A ++ (news ++ cs.drop A)).length = N + news.length:=by
    simp only [List.length_append,List.length_take,hdl,hcl];omega
   rw [show cs.take A ++ news ++ (cs.drop A ++ cur.drop (A + news.length + (N - A))) = (cs.take A ++ (news ++ cs.drop A)) ++ cur.drop (A + news.length + (N - A)) by simp]
   rw [← hl,List.take_left']
   rfl
 · simp only [List.length_append,List.length_take,List.length_drop,l1];omega
theorem w5_ {cs news z:List Value} {i n k:Nat} (hk:news.length = k) (hcl:cs.length = n * k) (hi:i ≤ n) {r0 c1:List Value} (h0:r0 = cs.take (i * k) ++ z) (hz:(n + 1 - i) * k ≤ z.length)
 (h1:c1 = r0.take (i * k) ++ news ++ r0.drop (i * k + news.length)) :
 (c1.take ((i + 1) * k) ++ cs.drop (i * k) ++ c1.drop ((i + 1) * k + (cs.drop (i * k)).length)).take ((n + 1) * k) = cs.take (i * k) ++ (news ++ cs.drop (i * k))∧(c1.take ((i + 1) * k) ++ cs.drop (i * k) ++ c1.drop ((i + 1) * k + (cs.drop (i * k)).length)).length = r0.length∧c1.length = r0.length:=by
 have hik:i * k ≤ n * k:=Nat.mul_le_mul_right k hi
 have e1:(i + 1) * k = i * k + k:=by rw [Nat.add_mul];omega
 have e2:(n + 1) * k = n * k + k:=by rw [Nat.add_mul];omega
 have e3:(n + 1 - i) * k = n * k + k - i * k:=by rw [Nat.mul_comm,Nat.mul_sub,Nat.mul_comm k,Nat.mul_comm k,e2]
 rw [e1,e2]
 rw [e3] at hz
 obtain ⟨A,hA⟩:∃ A,i * k = A:=⟨_,rfl⟩
 obtain ⟨N,hN⟩:∃ N,n * k = N:=⟨_,rfl⟩
 rw [hA] at h0 h1 ⊢
 rw [hA,hN] at hz hik
 rw [hN] at hcl ⊢
 subst hk
 have hdl:(cs.drop A).length = N - A:=by rw [List.length_drop,hcl]
 have hta:(cs.take A).length = A:=by rw [List.length_take];omega
 have l0:r0.length = A + z.length:=by rw [h0,List.length_append,hta]
 have t0:r0.take A = cs.take A:=by rw [h0,List.take_append_of_le_length (by omega),List.take_of_length_le (by omega)]
 have l1:c1.length = r0.length:=by rw [h1];simp only [List.length_append,List.length_take,List.length_drop];omega
 have t1:c1.take (A + news.length) = cs.take A ++ news:=by
  rw [h1,t0,List.take_append_of_le_length (by rw [List.length_append];omega),List.take_of_length_le (by rw [List.length_append];omega)]
 refine ⟨?_,?_,l1⟩
 · rw [t1]
   have hl:(cs.take A ++ (news ++ cs.drop A)).length = N + news.length:=by
    simp only [List.length_append,hta,hdl];omega
   rw [show cs.take A ++ news ++ cs.drop A ++ c1.drop (A + news.length + (cs.drop A).length) = (cs.take A ++ (news ++ cs.drop A)) ++ c1.drop (A + news.length + (cs.drop A).length) by simp]
   rw [← hl,List.take_left']
   rfl
 · simp only [List.length_append,List.length_take,List.length_drop,l1];omega
theorem kX_ {w:World} {ops:Array Oper} {o:Oper} {a:Act} {K:Act→World→Prop} {Q:Exit→Act→World→Prop} {E:Prop} (hgd:o.guard = none) (d s:Operand) (dT sT:TypeId)
 (ho:o.op = .call { callee := .builtin .copy,args:=#[d,s],argTypes:=#[dT,sT] }) (v u:Value) (hd:a.eval d = v) (hs:a.eval s = u) {v':Value} {w':World}
 (hr:(Builtin.copy_ #[dT,sT] o.type #[v,u]).run P w = .ok v' w') (h:K (a.put o.dst v') w'):if Region.wanted o (yielded ops a.tmps) = true then Oper.wp P o a w K Q else E:=by
 have hw:Region.wanted o (yielded ops a.tmps) = true:=by simp [Region.wanted,hgd]
 rw [if_pos hw]
 unfold Oper.wp execOp
 simp only [ho,resolve,invoke,builtin,Sem.run_bind,Sem.run_pure,Result.andThen_ok,List.map_toArray,List.map_cons,List.map_nil,hd,hs,hr]
 exact h
theorem k4_ {w:World} {ops:Array Oper} {rest:List Oper} {o:Oper} {a:Act} {Q:Exit→Act→World→Prop} (hgd:o.guard = none) (d s:Operand) (dT sT:TypeId)
 (ho:o.op = .call { callee := .builtin .copy,args:=#[d,s],argTypes:=#[dT,sT] }) (v u:Value) (hd:a.eval d = v) (hs:a.eval s = u) {v':Value} {w':World}
 (hr:(Builtin.copy_ #[dT,sT] o.type #[v,u]).run P w = .ok v' w') (h:wpList P ops Q rest (a.put o.dst v') w'):wpList P ops Q (o :: rest) a w:=by
 refine wpList_plain hgd fun K hK=>?_
 unfold Oper.wp execOp
 simp only [ho,resolve,invoke,builtin,Sem.run_bind,Sem.run_pure,Result.andThen_ok,List.map_toArray,List.map_cons,List.map_nil,hd,hs,hr]
 exact hK _ _ h
variable {α:Type} {k:Nat}
variable {r:Rd α k} {e:TypeId} {S:Nat→Prop} {lo:Nat} {W:World} {v:Value} {xs:List α}
end Go.Proofs.LF
namespace Go.Proofs.LF
open Go.RowKit
set_option maxHeartbeats 1000000
set_option maxRecDepth 100000
attribute [local go_sem] q1_
def qJ_ (k:Nat) (cs:List Value) (i:Nat):Value:=if k = 1 then cs.getD i undef else .agg ((List.range k).map fun j=>cs.getD (i * k + j) undef).toArray
def z5_ (g:Nat):Prop:=∀ (args:Array Value) (W:World),Sem.run Tryz.prog (callFunc g args) W = .ok (.enter g args) W
def ka_ (g:Nat) (caps:List Value) (w:World) (args:List Value) (b:Bool):Prop:=
 ∀ W,Below w.heap.size w W→Calls Tryz.prog g (args ++ caps).toArray W fun e w'=>e = .returned (.bool b)∧Below W.heap.size W w'
theorem qn_ {l:List Value} {i:Nat} (h:i < l.length):l[i]? = some (l.getD i undef):=by
 rw [List.getD_eq_getElem?_getD,List.getElem?_eq_getElem h];rfl
theorem idx_int (g:Nat) (hE:z5_ g) (p:Nat→Bool) (caps:List Value) (n:Nat) (a:Option Addr) (c:Nat) (cs:List Value) (S:Nat→Prop) (w:World) (hl:SlC S w 1 (.slice a n c) n cs) (hS:∀ b,S b→b < w.heap.size) (hlen:n ≤ 100000)
 (hp:∀ i,i < n→ka_ g caps w [qJ_ 1 cs i] (p i)) :
 Calls Tryz.prog 206 #[.slice a n c, .func (.func g) #[] caps.toArray] w fun e w'=>e = .returned (.int .i64 (idxN p n))∧Below w.heap.size w w':=by
 have hE':∀ (args:Array Value) (W:World),Sem.run Tryz.prog (callFunc g args) W = .ok (.enter g args) W:=hE
 clear hE
 go_enter Tryz.func206,Tryz.ntmps206
 go_wp2_with fail
 go_loopw [8] (fun i wr=>∃ k:Nat,k ≤ n∧i = .int .i64 k∧Hid (∀ j,j < k→p j = false)∧Below w.heap.size w wr) (fun i _=>n - (intOf i).toNat)
 case atStart=>exact ⟨0,by omega,rfl,by intro j hj;omega,Below.refl _ _⟩
 case round=>
  obtain ⟨k,hk,rfl,H2,hB⟩:=hrel
  have HP:=hid hp
  clear hp
  by_cases hlt:k < n
  · obtain ⟨g',o,rfl,hg,_,_,hcell⟩:=SlC.cells hl (by omega)
    have hx0:=(q9_ (S:=S) hB hS).cell hg (hcell k _ (qn_ (by have:=hl.1;omega)))
    clear hcell
    go_wp2_with fail
    refine (HP.out k hlt _ hB).mono ?_
    rintro e w' ⟨rfl,hb'⟩
    cases hpx:p k with
    | true=>
      have HX:=hid hpx
      clear hpx
      go_wp2_with fail
      go_ret
      exact ⟨qe_ (z8_ H2.out hlt HX.out).symm,hB.trans (hb'.mono hB.size)⟩
    | false=>
      have HX:=hid hpx
      clear hpx
      go_wp2_with fail
      go_roundw
      case rel=>exact ⟨k + 1,by omega,by go_num,fun j hj=>by rcases Nat.lt_succ_iff_lt_or_eq.1 hj with h | h;exact H2.out j h;rw [h];exact HX.out,hB.trans (hb'.mono hB.size)⟩
      case measure=>simp [intOf];omega
  · go_wp2_with fail
    go_ret
    obtain rfl:k = n:=by omega
    exact ⟨qe_ (zu_ H2.out).symm,hB⟩
theorem cont_int (g:Nat) (hE:z5_ g) (p:Nat→Bool) (caps:List Value) (n:Nat) (a:Option Addr) (c:Nat) (cs:List Value) (S:Nat→Prop) (w:World) (hl:SlC S w 1 (.slice a n c) n cs) (hS:∀ b,S b→b < w.heap.size) (hlen:n ≤ 100000)
 (hp:∀ i,i < n→ka_ g caps w [qJ_ 1 cs i] (p i)) :
 Calls Tryz.prog 175 #[.slice a n c, .func (.func g) #[] caps.toArray] w fun e w'=>e = .returned (.bool (anyN p n))∧Below w.heap.size w w':=by
 have HP:=hid hp
 clear hp
 go_enter Tryz.func175,Tryz.ntmps175
 go_wp2_with fail
 refine (idx_int g hE p caps n a c cs S w hl hS hlen HP.out).mono ?_
 rintro e w' ⟨rfl,hb⟩
 go_wp2_with fail
 go_ret
 exact ⟨qf_ (kn_ p n),hb⟩
theorem idx_flat (g:Nat) (hE:z5_ g) (p:Nat→Bool) (caps:List Value) (n:Nat) (a:Option Addr) (c:Nat) (cs:List Value) (S:Nat→Prop) (w:World) (hl:SlC S w 2 (.slice a n c) n cs) (hS:∀ b,S b→b < w.heap.size) (hlen:n ≤ 100000)
 (hp:∀ i,i < n→ka_ g caps w [qJ_ 2 cs i] (p i)) :
 Calls Tryz.prog 47 #[.slice a n c, .func (.func g) #[] caps.toArray] w fun e w'=>e = .returned (.int .i64 (idxN p n))∧Below w.heap.size w w':=by
 have hE':∀ (args:Array Value) (W:World),Sem.run Tryz.prog (callFunc g args) W = .ok (.enter g args) W:=hE
 clear hE
 go_enter Tryz.func47,Tryz.ntmps47
 go_wp2_with fail
 go_loopw [8] (fun i wr=>∃ k:Nat,k ≤ n∧i = .int .i64 k∧Hid (∀ j,j < k→p j = false)∧Below w.heap.size w wr) (fun i _=>n - (intOf i).toNat)
 case atStart=>exact ⟨0,by omega,rfl,by intro j hj;omega,Below.refl _ _⟩
 case round=>
  obtain ⟨k,hk,rfl,H2,hB⟩:=hrel
  have HP:=hid hp
  clear hp
  by_cases hlt:k < n
  · obtain ⟨g',o,rfl,hg,_,_,hcell⟩:=SlC.cells hl (by omega)
    have hx0:=(q9_ (S:=S) hB hS).cell hg (hcell (k * 2) _ (qn_ (by have:=hl.1;omega)))
    have hx1:=(q9_ (S:=S) hB hS).cell hg (hcell (k * 2 + 1) _ (qn_ (by have:=hl.1;omega)))
    simp only [← Nat.add_assoc] at hx1
    clear hcell
    go_wp2_with fail
    refine (HP.out k hlt _ hB).mono ?_
    rintro e w' ⟨rfl,hb'⟩
    cases hpx:p k with
    | true=>
      have HX:=hid hpx
      clear hpx
      go_wp2_with fail
      go_ret
      exact ⟨qe_ (z8_ H2.out hlt HX.out).symm,hB.trans (hb'.mono hB.size)⟩
    | false=>
      have HX:=hid hpx
      clear hpx
      go_wp2_with fail
      go_roundw
      case rel=>exact ⟨k + 1,by omega,by go_num,fun j hj=>by rcases Nat.lt_succ_iff_lt_or_eq.1 hj with h | h;exact H2.out j h;rw [h];exact HX.out,hB.trans (hb'.mono hB.size)⟩
      case measure=>simp [intOf];omega
  · go_wp2_with fail
    go_ret
    obtain rfl:k = n:=by omega
    exact ⟨qe_ (zu_ H2.out).symm,hB⟩
theorem yd_ (g:Nat) (hE:z5_ g) (p:Nat→Bool) (caps:List Value) (n:Nat) (a:Option Addr) (c:Nat) (cs:List Value) (S:Nat→Prop) (w:World) (hl:SlC S w 3 (.slice a n c) n cs) (hS:∀ b,S b→b < w.heap.size) (hlen:n ≤ 100000)
 (hp:∀ i,i < n→ka_ g caps w [qJ_ 3 cs i] (p i)) :
 Calls Tryz.prog 122 #[.slice a n c, .func (.func g) #[] caps.toArray] w fun e w'=>e = .returned (.int .i64 (idxN p n))∧Below w.heap.size w w':=by
 have hE':∀ (args:Array Value) (W:World),Sem.run Tryz.prog (callFunc g args) W = .ok (.enter g args) W:=hE
 clear hE
 go_enter Tryz.func122,Tryz.ntmps122
 go_wp2_with fail
 go_loopw [8] (fun i wr=>∃ k:Nat,k ≤ n∧i = .int .i64 k∧Hid (∀ j,j < k→p j = false)∧Below w.heap.size w wr) (fun i _=>n - (intOf i).toNat)
 case atStart=>exact ⟨0,by omega,rfl,by intro j hj;omega,Below.refl _ _⟩
 case round=>
  obtain ⟨k,hk,rfl,H2,hB⟩:=hrel
  have HP:=hid hp
  clear hp
  by_cases hlt:k < n
  · obtain ⟨g',o,rfl,hg,_,_,hcell⟩:=SlC.cells hl (by omega)
    have hx0:=(q9_ (S:=S) hB hS).cell hg (hcell (k * 3) _ (qn_ (by have:=hl.1;omega)))
    have hx1:=(q9_ (S:=S) hB hS).cell hg (hcell (k * 3 + 1) _ (qn_ (by have:=hl.1;omega)))
    have hx2:=(q9_ (S:=S) hB hS).cell hg (hcell (k * 3 + 2) _ (qn_ (by have:=hl.1;omega)))
    simp only [← Nat.add_assoc] at hx1 hx2
    clear hcell
    go_wp2_with fail
    refine (HP.out k hlt _ hB).mono ?_
    rintro e w' ⟨rfl,hb'⟩
    cases hpx:p k with
    | true=>
      have HX:=hid hpx
      clear hpx
      go_wp2_with fail
      go_ret
      exact ⟨qe_ (z8_ H2.out hlt HX.out).symm,hB.trans (hb'.mono hB.size)⟩
    | false=>
      have HX:=hid hpx
      clear hpx
      go_wp2_with fail
      go_roundw
      case rel=>exact ⟨k + 1,by omega,by go_num,fun j hj=>by rcases Nat.lt_succ_iff_lt_or_eq.1 hj with h | h;exact H2.out j h;rw [h];exact HX.out,hB.trans (hb'.mono hB.size)⟩
      case measure=>simp [intOf];omega
  · go_wp2_with fail
    go_ret
    obtain rfl:k = n:=by omega
    exact ⟨qe_ (zu_ H2.out).symm,hB⟩
theorem idx_path (g:Nat) (hE:z5_ g) (p:Nat→Bool) (caps:List Value) (n:Nat) (a:Option Addr) (c:Nat) (cs:List Value) (S:Nat→Prop) (w:World) (hl:SlC S w 1 (.slice a n c) n cs) (hS:∀ b,S b→b < w.heap.size) (hlen:n ≤ 100000)
 (hp:∀ i,i < n→ka_ g caps w [qJ_ 1 cs i] (p i)) :
 Calls Tryz.prog 79 #[.slice a n c, .func (.func g) #[] caps.toArray] w fun e w'=>e = .returned (.int .i64 (idxN p n))∧Below w.heap.size w w':=by
 have hE':∀ (args:Array Value) (W:World),Sem.run Tryz.prog (callFunc g args) W = .ok (.enter g args) W:=hE
 clear hE
 go_enter Tryz.func79,Tryz.ntmps79
 go_wp2_with fail
 go_loopw [8] (fun i wr=>∃ k:Nat,k ≤ n∧i = .int .i64 k∧Hid (∀ j,j < k→p j = false)∧Below w.heap.size w wr) (fun i _=>n - (intOf i).toNat)
 case atStart=>exact ⟨0,by omega,rfl,by intro j hj;omega,Below.refl _ _⟩
 case round=>
  obtain ⟨k,hk,rfl,H2,hB⟩:=hrel
  have HP:=hid hp
  clear hp
  by_cases hlt:k < n
  · obtain ⟨g',o,rfl,hg,_,_,hcell⟩:=SlC.cells hl (by omega)
    have hx0:=(q9_ (S:=S) hB hS).cell hg (hcell k _ (qn_ (by have:=hl.1;omega)))
    clear hcell
    go_wp2_with fail
    refine (HP.out k hlt _ hB).mono ?_
    rintro e w' ⟨rfl,hb'⟩
    cases hpx:p k with
    | true=>
      have HX:=hid hpx
      clear hpx
      go_wp2_with fail
      go_ret
      exact ⟨qe_ (z8_ H2.out hlt HX.out).symm,hB.trans (hb'.mono hB.size)⟩
    | false=>
      have HX:=hid hpx
      clear hpx
      go_wp2_with fail
      go_roundw
      case rel=>exact ⟨k + 1,by omega,by go_num,fun j hj=>by rcases Nat.lt_succ_iff_lt_or_eq.1 hj with h | h;exact H2.out j h;rw [h];exact HX.out,hB.trans (hb'.mono hB.size)⟩
      case measure=>simp [intOf];omega
  · go_wp2_with fail
    go_ret
    obtain rfl:k = n:=by omega
    exact ⟨qe_ (zu_ H2.out).symm,hB⟩
theorem cont_path (g:Nat) (hE:z5_ g) (p:Nat→Bool) (caps:List Value) (n:Nat) (a:Option Addr) (c:Nat) (cs:List Value) (S:Nat→Prop) (w:World) (hl:SlC S w 1 (.slice a n c) n cs) (hS:∀ b,S b→b < w.heap.size) (hlen:n ≤ 100000)
 (hp:∀ i,i < n→ka_ g caps w [qJ_ 1 cs i] (p i)) :
 Calls Tryz.prog 34 #[.slice a n c, .func (.func g) #[] caps.toArray] w fun e w'=>e = .returned (.bool (anyN p n))∧Below w.heap.size w w':=by
 have HP:=hid hp
 clear hp
 go_enter Tryz.func34,Tryz.ntmps34
 go_wp2_with fail
 refine (idx_path g hE p caps n a c cs S w hl hS hlen HP.out).mono ?_
 rintro e w' ⟨rfl,hb⟩
 go_wp2_with fail
 go_ret
 exact ⟨qf_ (kn_ p n),hb⟩
end Go.Proofs.LF
namespace Go.Proofs.LF
open Go.RowKit
def qT_ (E:TypeId):(Nat→Prop)→World→Fo→List Value→Prop
 | _,_, .nil,cs=>cs = []
 | S,w, .cons n l s r,cs=>∃ (vn vs:Value) (cs':List Value) (S1 S2 S3:Nat→Prop),cs = .string (bs n) :: vn :: vs :: cs' ∧
    (∀ b,S1 b ∨ S2 b ∨ S3 b→S b)∧(∀ b,S1 b→¬ S2 b)∧(∀ b,S1 b→¬ S3 b)∧(∀ b,S2 b→¬ S3 b)∧IntU S1 w vn l ∧
    (∃ ds,w.ownsRow 0 E 3 vs s.len ds∧(∀ g,vs.ownBlock = some g→S2 g)∧qT_ E (fun b=>S2 b∧vs.ownBlock ≠ some b) w s ds)∧qT_ E S3 w r cs'
def FOw (E:TypeId) (S:Nat→Prop) (w:World) (v:Value) (y:Fo):Prop:=
 ∃ ds,w.ownsRow 0 E 3 v y.len ds∧(∀ g,v.ownBlock = some g→S g)∧qT_ E (fun b=>S b∧v.ownBlock ≠ some b) w y ds
theorem owns_agree {w w':World} {base e k n:Nat} {v:Value} {xs:List Value} (h:w.ownsRow base e k v n xs) (ha:∀ g,v.ownBlock = some g→w'.heap[g]? = w.heap[g]?):w'.ownsRow base e k v n xs:=by
 refine ⟨h.1,?_⟩
 rcases h.2 with hn | ⟨g,cap,cur,rfl,hb,hgg,rest⟩
 · exact .inl hn
 · exact .inr ⟨g,cap,cur,rfl,hb,(ha g rfl).trans hgg,rest⟩
theorem qp_ {w:World} {base base' e k n:Nat} {v:Value} {xs:List Value} (h:w.ownsRow base e k v n xs) (hb:∀ g,v.ownBlock = some g→base' ≤ g):w.ownsRow base' e k v n xs:=by
 refine ⟨h.1,?_⟩
 rcases h.2 with hn | ⟨g,cap,cur,rfl,hb',hgg,rest⟩
 · exact .inl hn
 · exact .inr ⟨g,cap,cur,rfl,hb g rfl,hgg,rest⟩
theorem qT_.agree {E:TypeId} {w w':World}:∀ {y:Fo} {S:Nat→Prop} {cs:List Value},qT_ E S w y cs→qd_ S w w'→qT_ E S w' y cs
 | .nil,_,_,h,_=>h
 | .cons n l s r,S,cs,⟨vn,vs,cs',S1,S2,S3,h1,hs,d1,d2,d3,h2,⟨ds,h3,h4,h5⟩,h6⟩,ha=>
   ⟨vn,vs,cs',S1,S2,S3,h1,hs,d1,d2,d3,IntU.agree h2 (fun b hb=>ha b (hs b (.inl hb))),
     ⟨ds,owns_agree h3 (fun g hg=>ha g (hs g (.inr (.inl (h4 g hg))))),h4,h5.agree (fun b hb=>ha b (hs b (.inr (.inl hb.1))))⟩,h6.agree (fun b hb=>ha b (hs b (.inr (.inr hb))))⟩
theorem qT_.wide {E:TypeId} {w:World}:∀ {y:Fo} {S S':Nat→Prop} {cs:List Value},qT_ E S w y cs→(∀ b,S b→S' b)→qT_ E S' w y cs
 | .nil,_,_,_,h,_=>h
 | .cons n l s r,S,S',cs,⟨vn,vs,cs',S1,S2,S3,h1,hs,d1,d2,d3,h2,h3,h6⟩,hw=>
   ⟨vn,vs,cs',S1,S2,S3,h1,fun b hb=>hw b (hs b hb),d1,d2,d3,h2,h3,h6⟩
theorem qT_.app {E:TypeId} {w:World}:∀ {y z:Fo} {S S':Nat→Prop} {cs ds:List Value},qT_ E S w y cs→qT_ E S' w z ds→(∀ b,S b→¬ S' b)→qT_ E (fun b=>S b ∨ S' b) w (y.app z) (cs ++ ds)
 | .nil,z,_,_,_,_,h,h',_=>by rw [show _ = [] from h];exact h'.wide (fun b hb => .inr hb)
 | .cons n l s r,z,S,S',cs,ds,⟨vn,vs,cs',S1,S2,S3,h1,hs,d1,d2,d3,h2,h3,h6⟩,h',hd=>
   ⟨vn,vs,cs' ++ ds,S1,S2,fun b=>S3 b ∨ S' b,by rw [h1];rfl,fun b hb=>by
     rcases hb with hb | hb | hb | hb
     · exact .inl (hs b (.inl hb))
     · exact .inl (hs b (.inr (.inl hb)))
     · exact .inl (hs b (.inr (.inr hb)))
     · exact .inr hb,
     d1,fun b hb h=>h.elim (d2 b hb) (hd b (hs b (.inl hb))),fun b hb h=>h.elim (d3 b hb) (hd b (hs b (.inr (.inl hb)))),h2,h3,
     h6.app h' (fun b hb=>hd b (hs b (.inr (.inr hb))))⟩
theorem qT_.fcs {E:TypeId} {w:World}:∀ {y:Fo} {S:Nat→Prop} {cs:List Value},qT_ E S w y cs→FCs S w y cs
 | .nil,_,_,h=>h
 | .cons n l s r,S,cs,⟨vn,vs,cs',S1,S2,S3,h1,hs,_,_,_,h2,⟨ds,h3,h4,h5⟩,h6⟩=>by
   refine ⟨vn,vs,cs',h1,qF_.wide h2 (fun b hb=>hs b (.inl hb.1)),⟨ds,?_,h5.fcs.wide (fun b hb=>hs b (.inr (.inl hb.1)))⟩,h6.fcs.wide (fun b hb=>hs b (.inr (.inr hb)))⟩
   exact owns_slc h3 (fun g hg=>hs g (.inr (.inl (h4 g hg))))
 where
 owns_slc {w:World} {base e k n:Nat} {v:Value} {xs:List Value} {S:Nat→Prop} (h:w.ownsRow base e k v n xs) (hS:∀ g,v.ownBlock = some g→S g):SlC S w k v n xs:=by
  obtain ⟨h1,h2⟩:=h
  refine ⟨h1,?_⟩
  rcases h2 with ⟨rfl,rfl⟩ | ⟨g,cap,cur,rfl,hb,hg,hn,hc,hs,ht⟩
  · exact ⟨none,0,rfl,by omega,by simp [maxLen],fun _=>rfl, .inl rfl⟩
  · refine ⟨_,cap,rfl,hn,hc,(fun h=>by cases h), .inr ⟨g,0,rfl,hS g rfl,fun j u hj=>?_⟩⟩
    simp only [World.cell?,hg,Nat.zero_add]
    rw [← ht,List.getElem?_take] at hj
    split at hj
    · simpa using hj
    · cases hj
theorem FOw.agree {E:TypeId} {S:Nat→Prop} {w w':World} {v:Value} {y:Fo} (h:FOw E S w v y) (ha:qd_ S w w'):FOw E S w' v y:=
 let ⟨ds,h1,h2,h3⟩:=h;⟨ds,owns_agree h1 (fun g hg=>ha g (h2 g hg)),h2,h3.agree (fun b hb=>ha b hb.1)⟩
theorem FOw.wide {E:TypeId} {S S':Nat→Prop} {w:World} {v:Value} {y:Fo} (h:FOw E S w v y) (hw:∀ b,S b→S' b):FOw E S' w v y:=
 let ⟨ds,h1,h2,h3⟩:=h;⟨ds,h1,fun g hg=>hw g (h2 g hg),h3.wide (fun b hb=>⟨hw b hb.1,hb.2⟩)⟩
theorem FOw.fsl {E:TypeId} {S:Nat→Prop} {w:World} {v:Value} {y:Fo} (h:FOw E S w v y):FSl S w v y:=
 let ⟨ds,h1,h2,h3⟩:=h;⟨ds,qT_.fcs.owns_slc h1 h2,h3.fcs.wide (fun b hb=>hb.1)⟩
theorem qT_.one {E:TypeId} {S1 S2:Nat→Prop} {w:World} {n:List UInt8} {l:List Int} {s:Fo} {vn vs:Value} (h1:IntU S1 w vn l) (h2:FOw E S2 w vs s) (hd:∀ b,S1 b→¬ S2 b):qT_ E (fun b=>S1 b ∨ S2 b) w (.cons n l s .nil) [.string (bs n),vn,vs]:=by
 obtain ⟨ds,h3,h4,h5⟩:=h2
 exact ⟨vn,vs,[],S1,S2,fun _=>False,rfl,fun b hb=>by rcases hb with hb | hb | hb;exact .inl hb;exact .inr hb;exact hb.elim,hd,fun _ _ h=>h,fun _ _ h=>h,h1,⟨ds,h3,h4,h5⟩,rfl⟩
def bsG (lt:Nat→Bool):Nat→Nat→Nat→Nat
 | 0,i,_=>i
 | f + 1,i,j=>if i < j then (if lt ((i + j) / 2) then bsG lt f ((i + j) / 2 + 1) j else bsG lt f i ((i + j) / 2)) else i
theorem zT_ (lt:Nat→Bool):∀ (f i j:Nat),j - i ≤ f→bsG lt f i j = bsG lt (j - i) i j
 | 0,i,j,h=>by rw [show j - i = 0 by omega]
 | f + 1,i,j,h=>by
   by_cases hij:i < j
   · obtain ⟨d,hd⟩:∃ d,j - i = d + 1:=⟨j - i - 1,by omega⟩
     rw [hd]
     simp only [bsG,hij,if_true]
     split
     · rw [zT_ lt f _ _ (by omega),zT_ lt d _ _ (by omega)]
     · rw [zT_ lt f _ _ (by omega),zT_ lt d _ _ (by omega)]
   · rw [show j - i = 0 by omega]
     simp [bsG,hij]
def bsF (lt:Nat→Bool) (i j:Nat):Nat:=bsG lt (j - i) i j
theorem zk_ {lt:Nat→Bool} {i j:Nat} (h:¬ i < j):bsF lt i j = i:=by
 unfold bsF;rw [show j - i = 0 by omega];rfl
theorem yu_ {lt:Nat→Bool} {i j:Nat} (h:i < j):bsF lt i j = if lt ((i + j) / 2) then bsF lt ((i + j) / 2 + 1) j else bsF lt i ((i + j) / 2):=by
 unfold bsF
 obtain ⟨d,hd⟩:∃ d,j - i = d + 1:=⟨j - i - 1,by omega⟩
 rw [hd]
 simp only [bsG,h,if_true]
 rw [zT_ lt d _ _ (by omega),zT_ lt d _ _ (by omega)]
theorem bsF_le {lt:Nat→Bool}:∀ (n i j:Nat),j - i ≤ n→i ≤ j→i ≤ bsF lt i j∧bsF lt i j ≤ j
 | 0,i,j,h,h2=>by rw [zk_ (by omega)];omega
 | n + 1,i,j,h,h2=>by
   by_cases hij:i < j
   · rw [yu_ hij]
     split
     · have:=bsF_le (lt:=lt) n ((i + j) / 2 + 1) j (by omega) (by omega);omega
     · have:=bsF_le (lt:=lt) n i ((i + j) / 2) (by omega) (by omega);omega
   · rw [zk_ hij];omega
def fl0:Fl:=⟨[],[]⟩
def fndI (l:List Fl) (p:List Ky):Nat:=bsF (fun h=>decide (cmpP (l.getD h fl0).p p < 0)) 0 l.length
def fnd (l:List Fl) (p:List Ky):Option Fl:=match l[fndI l p]? with | some x=>if cmpP x.p p = 0 then some x else none | none=>none
def smF (a b:List Fl) (p:List Ky):Bool:=match fnd a p,fnd b p with | some x,some y=>decide (x.l = y.l) | none,none=>true | _,_=>false
def yr_ (k:Ky):List UInt8:=47 :: k.n ++ (if k.h then 58 :: Lib.itoa k.x else if k.x ≠ 0 then 63 :: Lib.itoa k.x else [])
def sptL (p:List Ky):List UInt8:=(p.map yr_).flatten
def ddP:List (List Ky)→List (List Ky)→List (List Ky)
 | acc,[]=>acc
 | acc,p :: r=>if sptL p ∈ acc.map sptL then ddP acc r else ddP (acc ++ [p]) r
def insP (p:List Ky):List (List Ky)→List (List Ky)
 | []=>[p]
 | q :: r=>if cmpP q p < 0 then q :: insP p r else p :: q :: r
def j9_:List (List Ky)→List (List Ky)
 | []=>[]
 | p :: r=>insP p (j9_ r)
def pthsF (l:List (List Fl)):List (List Ky):=j9_ (ddP [] (l.flatten.map Fl.p))
def chD (a b:List Fl) (p:List Ky):Option Ch:=
 if smF a b p then none else some ⟨p,(fnd a p).isSome,(fnd b p).isSome,((fnd a p).getD fl0).l,((fnd b p).getD fl0).l⟩
def dfF (a b:List Fl):List Ch:=(pthsF [a,b]).filterMap (chD a b)
def lsF:List Fl→List (List Ky)→List Fl→List Fl × List (List Ky)
 | kept,out,[]=>(kept,out)
 | kept,out,f :: r=>if (fnd kept f.p.dropLast).isSome ∨ f.p.length = 1 then lsF (kept ++ [f]) out r else lsF kept (out ++ [f.p]) r
def jnF (o a b:List Fl):List Fl→List (List Ky)→List (List Ky)→List Fl × List (List Ky)
 | all,con,[]=>(all,con)
 | all,con,p :: r=>
   let st:=if smF a b p ∨ smF o b p then (a,con) else if smF o a p then (b,con) else (o,con ++ [p])
   jnF o a b (match fnd st.1 p with | some f=>all ++ [f] | none=>all) st.2 r
def cnF (con:List (List Ky)):List (List Ky)→List (List Ky)
 | []=>con
 | p :: r=>cnF (if con.any (fun q=>decide (cmpP q p = 0)) then con else con ++ [p]) r
def joF (o a b:Fo):List Fl × List (List Ky):=
 let l:=[flsL [] o,flsL [] a,flsL [] b]
 let j:=jnF (flsL [] o) (flsL [] a) (flsL [] b) [] [] (pthsF l)
 let k:=lsF [] [] j.1
 (k.1,j9_ (cnF j.2 k.2))
theorem vH_ (p:List Ky):∀ l,(insP p l).Perm (p :: l)
 | []=>List.Perm.refl _
 | q :: r=>by
   simp only [insP]
   split
   · exact ((vH_ p r).cons q).trans (List.Perm.swap _ _ _)
   · exact List.Perm.refl _
theorem z2_:∀ l,(j9_ l).Perm l
 | []=>List.Perm.refl _
 | p :: r=>(vH_ p _).trans ((z2_ r).cons p)
theorem vG_ (p:List Ky):∀ l:List (List Ky),l.Pairwise (fun a b=>cmpP a b ≤ 0)→(insP p l).Pairwise (fun a b=>cmpP a b ≤ 0)
 | [],_=>by simp [insP]
 | q :: r,h=>by
   obtain ⟨h1,h2⟩:=List.pairwise_cons.1 h
   simp only [insP]
   split
   · rename_i hq
     refine List.pairwise_cons.2 ⟨fun x hx=>?_,vG_ p r h2⟩
     rcases List.mem_cons.1 ((vH_ p r).mem_iff.1 hx) with rfl | hx
     · omega
     · exact h1 x hx
   · rename_i hq
     have hpq:cmpP p q ≤ 0:=by
      rcases Int.lt_trichotomy (cmpP p q) 0 with h' | h' | h'
      · omega
      · omega
      · exact absurd (qj_.flop h') hq
     refine List.pairwise_cons.2 ⟨fun x hx=>?_,h⟩
     rcases List.mem_cons.1 hx with rfl | hx
     · exact hpq
     · have:=h1 x hx
       rcases Int.lt_or_eq_of_le hpq with a | a
       · rcases Int.lt_or_eq_of_le this with b | b
         · exact Int.le_of_lt (qj_.trans a b)
         · rw [← qj_.eq b];omega
       · rw [qj_.eq a];exact this
theorem k7_:∀ l,(j9_ l).Pairwise (fun a b=>cmpP a b ≤ 0)
 | []=>List.Pairwise.nil
 | p :: r=>vG_ p _ (k7_ r)
theorem srtP_of {l l':List (List Ky)} (hp:l'.Perm l) (hs:l'.Pairwise (fun a b=>cmpP a b ≤ 0)):l' = j9_ l:=
 List.Perm.eq_of_pairwise (le:=fun a b=>cmpP a b ≤ 0) (fun a b _ _ h k=>by
  rcases Int.lt_or_eq_of_le h with h | h
  · have:=qj_.flip h;omega
  · exact qj_.eq h) hs (k7_ l) (hp.trans (z2_ l).symm)
section
variable {F:Fence} {n:Nat} {P:Program} {ops:Array Oper} {Q:Exit→Act→World→Prop} {md:Region.Mode} {S:World→Prop} {L:Nat}
def yK_ (F:Fence) (n:Nat) (P:Program) (md:Region.Mode) (ops:Array Oper) (Q:Exit→Act→World→Prop) (S:World→Prop) (L:Nat):Nat→Array Bool→Act→World→Prop
 | 0,listed,a,w=>Region.ready md ops listed = []∧Q .normal a w
 | fuel + 1,listed,a,w=>
   (Region.ready md ops listed = []→Q .normal a w) ∧
   ∀ i ∈ Region.ready md ops listed,wpOpIn F n P ops Q i (fun a' w'=>if i = L then wpAnyIn F n P md ops Q fuel (listed.setIfInBounds i true) a' w' else S w'∧yK_ F n P md ops Q S L fuel (listed.setIfInBounds i true) a' w') a w
theorem yD_:∀ (fuel:Nat) (listed:Array Bool) (a:Act) (w:World),yK_ F n P md ops Q S L fuel listed a w→wpAnyIn F n P md ops Q fuel listed a w
 | 0,_,_,_,h=>h
 | fuel + 1,_,_,_,h=>⟨h.1,fun i hi=>wpOpIn_mono (fun a' w' h'=>by
    split at h'
    · exact h'
    · exact yD_ fuel _ a' w' h'.2) (h.2 i hi)⟩
theorem yS_ (hF:∀ f,F.fn f) (hnd:ops.all qk_ = true) {i:Nat} {oi:Oper} {v:Value} (hi:ops[i]? = some oi) (hsel:∀ (j:Nat) (o:Oper) cs b,ops[j]? = some o→o.op ≠ .select cs b)
 (hQ:∀ c a w,Q (.panic c) (a.put oi.dst v) w→Q (.panic c) a w) (hiL:i ≠ L) (hL:∀ (listed:Array Bool),i ∈ Region.ready md ops listed→L ∉ Region.ready md ops listed) :
 ∀ (fuel:Nat) (listed:Array Bool) (a:Act) (w:World),
  (∀ j oj,ops[j]? = some oj→j ≠ i→listed.getD j true = false→(∀ e ∈ oj.after,Region.binds md e = true→e.on ≠ i)→oi.apart ops oj = true) →
  i ∈ Region.ready md ops listed→YIf P ops S oi v a→S w →
  yK_ F n P md ops Q S L fuel (listed.setIfInBounds i true) (a.put oi.dst v) w→yK_ F n P md ops Q S L (fuel + 1) listed a w:=by
 have hno:∀ j o,ops[j]? = some o→qk_ o = true:=fun j o h=>by
  rw [Array.all_eq_true] at hnd
  obtain ⟨hj,rfl⟩:=ge_ h
  exact hnd j hj
 intro fuel
 induction fuel with
 | zero=>
   intro listed a w _ hr hy hS H
   refine ⟨fun h=>(by rw [h] at hr;cases hr),fun j hj=>?_⟩
   by_cases hji:j = i
   · subst hji;exact hy.wpOp hF hi (hno _ _ hi) hS (by rw [if_neg hiL];exact ⟨hS,H⟩)
   · have:=ready_mono hj hji
     rw [H.1] at this
     cases this
 | succ fuel ih=>
   intro listed a w hfree hr hy hS H
   refine ⟨fun h=>(by rw [h] at hr;cases hr),fun j hj=>?_⟩
   by_cases hji:j = i
   · subst hji;exact hy.wpOp hF hi (hno _ _ hi) hS (by rw [if_neg hiL];exact ⟨hS,H⟩)
   · have hjL:j ≠ L:=fun e=>hL listed hr (e ▸ hj)
     have h1:=H.2 j (ready_mono hj hji)
     simp only [if_neg hjL] at h1 ⊢
     obtain ⟨hjun,oj,hoj,hall⟩:=mem_ready.1 hj
     have hnot:∀ e ∈ oj.after,Region.binds md e = true→e.on ≠ i:=fun e he hb heq=>by
      have h1:=hall e he hb
      have h0:=(mem_ready.1 hr).1
      rw [heq] at h1
      rcases Nat.lt_or_ge i listed.size with h' | h'
      · simp [h'] at h0 h1;rw [h0] at h1;cases h1
      · simp [Array.getElem?_eq_none h'] at h1
     have h2:=zM_ hoj (hno _ _ hoj) (hfree j oj hoj hji hjun hnot) (fun cs b=>hsel i oi cs b hi) (fun cs b=>hsel j oj cs b hoj) hQ hy h1
     have hfree':∀ k ok,ops[k]? = some ok→k ≠ i→(listed.setIfInBounds j true).getD k true = false →
      (∀ e ∈ ok.after,Region.binds md e = true→e.on ≠ i)→oi.apart ops ok = true:=fun k ok hk hki hun hno=>by
      refine hfree k ok hk hki ?_ hno
      by_cases hjk:j = k
      · subst hjk;exact hjun
      · rw [getD_set_ne true hjk] at hun;exact hun
     refine wpOpIn_mono (fun a' w' h3=>⟨h3.2.1,ih (listed.setIfInBounds j true) a' w' hfree' (ready_mono hr (Ne.symm hji)) h3.1 h3.2.1 ?_⟩) h2
     rw [Array.setIfInBounds_comm _ _ hji]
     exact h3.2.2
def xV_ (md:Region.Mode) (ops:Array Oper) (L i:Nat):Bool:=match ops[L]? with | some o=>o.after.any (fun e=>Region.binds md e && e.on == i) | none=>true
theorem yY_ {i:Nat} (h:xV_ md ops L i = true) (listed:Array Bool) (hr:i ∈ Region.ready md ops listed):L ∉ Region.ready md ops listed:=fun hl=>by
 obtain ⟨_,o,ho,hall⟩:=mem_ready.1 hl
 unfold xV_ at h
 rw [ho] at h
 simp only [Array.any_eq_true,Bool.and_eq_true,beq_iff_eq] at h
 obtain ⟨k,hk,hb,he⟩:=h
 have h1:=hall _ (Array.getElem_mem hk) hb
 have h0:=(mem_ready.1 hr).1
 rw [he] at h1
 rcases Nat.lt_or_ge i listed.size with h' | h'
 · simp [h'] at h0 h1;rw [h0] at h1;cases h1
 · simp [Array.getElem?_eq_none h'] at h1
theorem qV_ (hF:∀ f,F.fn f) (hnd:ops.all qk_ = true) (i t:Nat) (v:Value) {oi:Oper} {fuel:Nat} {listed:Array Bool} {a:Act} {w:World} (hi:ops[i]? = some oi) (hd:oi.dst = some t)
 (hs:Region.noSelect ops = true) (hf:Region.free md ops listed i = true) (hr:(Region.ready md ops listed).contains i = true) (hiL:i ≠ L) (hw:xV_ md ops L i = true)
 (hQ:∀ c a w,Q (.panic c) (a.put (some t) v) w→Q (.panic c) a w) (hy:YIf P ops S oi v a) (hS:S w)
 (h:yK_ F n P md ops Q S L fuel (listed.setIfInBounds i true) (a.put (some t) v) w):yK_ F n P md ops Q S L (fuel + 1) listed a w:=
 yS_ hF hnd hi (Region.noSelect_spec hs) (by rw [hd];exact hQ) hiL (yY_ hw) fuel listed a w (Region.free_spec hi hf) (by simpa using hr) hy hS (by rw [hd];exact h)
theorem tkT (i t:Nat) (v:Value) {oi:Oper} {fuel:Nat} {listed:Array Bool} {a:Act} {w:World} (hi:ops[i]? = some oi) (hd:oi.dst = some t) (hS:S w) (hy:∀ w,S w→(execOp a.eval oi).run P w = .ok (.value v) w)
 (h:yK_ F n P md ops Q S L fuel (listed.setIfInBounds i true) (a.put (some t) v) w)
 (hF:∀ f,F.fn f:=by exact fun _=>trivial) (hnd:ops.all qk_ = true:=by kernel_rfl) (hs:Region.noSelect ops = true:=by kernel_rfl) (hf:Region.free md ops listed i = true:=by kernel_rfl) (hr:(Region.ready md ops listed).contains i = true:=by kernel_rfl)
 (hiL:i ≠ L:=by decide) (hw2:xV_ md ops L i = true:=by kernel_rfl) (hQ:∀ c a w,Q (.panic c) (a.put (some t) v) w→Q (.panic c) a w:=by exact fun _ _ _ h=>h) (hw:Region.wanted oi (yielded ops a.tmps) = true:=by kernel_rfl):yK_ F n P md ops Q S L (fuel + 1) listed a w:=
 qV_ hF hnd i t v hi hd hs hf hr hiL hw2 hQ (.inl ⟨hw,hy⟩) hS h
theorem tkU (i t:Nat) (v:Value) {oi:Oper} {fuel:Nat} {listed:Array Bool} {a:Act} {w:World} (hi:ops[i]? = some oi) (hd:oi.dst = some t) (hS:S w)
 (h:yK_ F n P md ops Q S L fuel (listed.setIfInBounds i true) (a.put (some t) v) w) (hy:∀ w,S w→(execOp a.eval oi).run P w = .ok (.value v) w:=by intro w hs;(repeat (obtain ⟨_,hs⟩:=hs));go_simp)
 (hF:∀ f,F.fn f:=by exact fun _=>trivial) (hnd:ops.all qk_ = true:=by kernel_rfl) (hs:Region.noSelect ops = true:=by kernel_rfl) (hf:Region.free md ops listed i = true:=by kernel_rfl) (hr:(Region.ready md ops listed).contains i = true:=by kernel_rfl)
 (hiL:i ≠ L:=by decide) (hw2:xV_ md ops L i = true:=by kernel_rfl) (hQ:∀ c a w,Q (.panic c) (a.put (some t) v) w→Q (.panic c) a w:=by exact fun _ _ _ h=>h) (hw:Region.wanted oi (yielded ops a.tmps) = true:=by kernel_rfl):yK_ F n P md ops Q S L (fuel + 1) listed a w:=tkT i t v hi hd hS hy h hF hnd hs hf hr hiL hw2 hQ hw
theorem qg_ {i:Nat} {o:Oper} {fuel:Nat} {listed:Array Bool} {a:Act} {w:World} (hr:Region.ready md ops listed = [i]) (ho:ops[i]? = some o) (hw:Region.wanted o (yielded ops a.tmps) = true) (hiL:i ≠ L)
 (h:∀ K:Act→World→Prop,(∀ a w,S w∧yK_ F n P md ops Q S L fuel (listed.setIfInBounds i true) a w→K a w)→Oper.wpIn F n P o a w K Q):yK_ F n P md ops Q S L (fuel + 1) listed a w:=
 ⟨fun h0=>(by rw [hr] at h0;cases h0),hr ▸ fun j hj=>by
   obtain rfl:j = i:=by simpa using hj
   unfold wpOpIn
   rw [ho]
   simp only [hw,if_true,if_neg hiL]
   exact h _ fun _ _ h=>h⟩
theorem z1_ {o:Oper} {fuel:Nat} {listed:Array Bool} {a:Act} {w:World} (hr:Region.ready md ops listed = [L]) (ho:ops[L]? = some o) (hw:Region.wanted o (yielded ops a.tmps) = true) (hend:Region.ready md ops (listed.setIfInBounds L true) = [])
 (h:∀ K:Act→World→Prop,(∀ a w,Q .normal a w→K a w)→Oper.wpIn F n P o a w K Q):yK_ F n P md ops Q S L (fuel + 1) listed a w:=
 ⟨fun h0=>(by rw [hr] at h0;cases h0),hr ▸ fun j hj=>by
   obtain rfl:j = L:=by simpa using hj
   unfold wpOpIn
   rw [ho]
   simp only [hw,if_true]
   exact h _ fun a w hq=>k9_ (S:=fun _=>True) _ _ _ _ (q7_ hend hq)⟩
theorem zw_ {o:Oper} {a:Act} {w w':World} {v:Value} {K:Act→World→Prop} (hF:∀ f,F.fn f) (hnd:qk_ o = true) (h:(execOp a.eval o).run P w = .ok (.value v) w') (hk:K (a.put o.dst v) w'):Oper.wpIn F n P o a w K Q:=by
 simp only [Oper.wpIn,zP_ hnd,h,Oper.uponIn]
 exact ⟨fun f _=>hF f,hk⟩
theorem zc_ {o:Oper} {a:Act} {w w':World} {s x:Operand} {t:TypeId} {v1 v2 r:Value} (ho:o.op = .call { callee := .builtin .append,args:=#[s,x],argTypes:=#[t,t] }) (hs:a.eval s = v1) (hx:a.eval x = v2)
 (hr:(Builtin.append_ #[t,t] o.type #[v1,v2]).run P w = .ok r w'):(execOp a.eval o).run P w = .ok (.value r) w':=by
 unfold execOp
 simp only [ho,resolve,invoke,builtin,Sem.run_bind,Sem.run_pure,Result.andThen_ok,List.map_toArray,List.map_cons,List.map_nil,hs,hx,hr]
theorem wa_ {o:Oper} {a:Act} {w w':World} {s x:Operand} {t:TypeId} {v1 v2 r:Value} {K:Act→World→Prop} (ho:o.op = .call { callee := .builtin .append,args:=#[s,x],argTypes:=#[t,t] }) (hs:a.eval s = v1) (hx:a.eval x = v2)
 (hr:(Builtin.append_ #[t,t] o.type #[v1,v2]).run P w = .ok r w') (hk:K (a.put o.dst r) w') (hF:∀ f,F.fn f:=by exact fun _=>trivial) (hnd:qk_ o = true:=by rfl):Oper.wpIn F n P o a w K Q:=zw_ hF hnd (zc_ ho hs hx hr) hk
theorem zh_ {id:Nat} {a:Act} {w:World} (S:World→Prop) (L:Nat) (hm:P.follows .mixedOrders = true)
 (h:yK_ F n P .any ops Q S L ops.size (Array.replicate ops.size false) a w.drew):(Code.region id ops true).wpIn F n P Q a w:=
 wpIn_region_any hm (yD_ _ _ _ _ h)
end
def Kd (u u':Value):Prop:=u' = u ∨ (∃ x y,u = .int .i64 x∧u' = .int .i64 y) ∨ ∃ s t,u = .string s∧u' = .string t
theorem Kd.slice {a:Option Addr} {n c:Nat} {u:Value} (h:Kd (.slice a n c) u):u = .slice a n c:=by
 rcases h with rfl | ⟨x,y,h,_⟩ | ⟨x,y,h,_⟩
 · rfl
 · cases h
 · cases h
theorem Kd.int {x:Int} {u:Value} (h:Kd (.int .i64 x) u):∃ y,u = .int .i64 y:=by
 rcases h with rfl | ⟨x,y,h,rfl⟩ | ⟨x,y,h,_⟩
 · exact ⟨_,rfl⟩
 · exact ⟨_,rfl⟩
 · cases h
def KP (w w':World):Prop:=∀ (b:Nat) (cs:Array Value) (t:TypeId) (fr:Nat × Nat),w.heap[b]? = some (.cells cs t fr)→∃ cs',w'.heap[b]? = some (.cells cs' t fr)∧∀ (o:Nat) u,cs[o]? = some u→∃ u',cs'[o]? = some u'∧Kd u u'
end Go.Proofs.LF
namespace Go.Proofs.LF
open Go.RowKit
set_option maxHeartbeats 1000000
set_option maxRecDepth 100000
attribute [local go_sem] q1_
theorem q6_ (s:List UInt8) (k:Nat) (h:k < s.length):(bs s)[k]'(by rw [q2_];exact h) = s[k]:=by
 show (bs s).data[k]'_ = _
 simp [bs]
theorem named_any (s:List UInt8) (w:World) (hlen:s.length ≤ 1000000) :
 Calls Tryz.prog 138 #[.string (bs s)] w fun e w'=>e = .returned (.bool (!zN_ s))∧Below w.heap.size w w':=by
 go_enter Tryz.func138,Tryz.ntmps138
 go_wp2_with fail
 go_loopw [4] (fun _ wr=>∃ k:Nat,k ≤ s.length∧wr = w.iter (bs s) k∧Hid (∀ j (h:j < s.length),j < k→¬ ((s[j].toNat:Int) < 97 ∨ 122 < (s[j].toNat:Int)))) (fun _ wr=>s.length - wr.iterPos w.heap.size)
 case atStart=>exact ⟨0,by omega,rfl,fun j _ h=>by omega⟩
 case round=>
  obtain ⟨k,hk,rfl,H2⟩:=hrel
  have hb1:Below w.heap.size w (w.iter (bs s) k):=(Below.refl _ _).alloc (nl_ _) _
  by_cases hlt:k < s.length
  · have hg:=q6_ s k hlt
    by_cases hok:(s[k].toNat:Int) < 97 ∨ 122 < (s[k].toNat:Int)
    · have hbad:zN_ s = true:=by
       simp only [zN_,Bool.or_eq_true,List.any_eq_true]
       exact .inl (.inl ⟨s[k]'hlt,List.getElem_mem hlt,by simpa using hok⟩)
      have HB:=hid hbad
      clear hbad
      have hsz:k < (bs s).size:=by rw [q2_];exact hlt
      by_cases ha:s[k].toNat < 128
      · have hn:=fun ty=>run_next_ascii (P:=Tryz.prog) w (bs s) k ty hsz (by rw [hg];exact ha)
        rw [hg] at hn
        clear hg
        by_cases h97:(s[k].toNat:Int) < 97
        · clear hok
          go_wp2_with fail
          go_ret
          exact ⟨qf_ (by rw [HB.out];rfl),(Below.refl _ _).alloc (nl_ _) _⟩
        · have h122:122 < (s[k].toNat:Int):=by omega
          clear hok
          go_wp2_with fail
          go_ret
          exact ⟨qf_ (by rw [HB.out];rfl),(Below.refl _ _).alloc (nl_ _) _⟩
      · have hn:=fun ty=>run_next_any (P:=Tryz.prog) w (bs s) k ty hsz
        have hd:=(decode_high (bs s) k hsz (by rw [hg];omega)).1
        generalize (Utf8.decode (bs s) k).1 = dc at hn hd
        have hd1:(122:Int) < (dc:Int):=by omega
        have hd2:¬ (dc:Int) < 97:=by omega
        clear hg hok hd
        go_wp2_with fail
        go_ret
        exact ⟨qf_ (by rw [HB.out];rfl),(Below.refl _ _).alloc (nl_ _) _⟩
    · have hn:=fun ty=>run_next_ascii (P:=Tryz.prog) w (bs s) k ty (by rw [q2_];exact hlt) (by rw [hg];omega)
      rw [hg] at hn
      have h1:¬ (s[k].toNat:Int) < 97:=by omega
      have h2:¬ 122 < (s[k].toNat:Int):=by omega
      have HO:=hid hok
      clear hg hok
      go_wp2_with fail
      go_roundw
      case rel=>exact ⟨k + 1,by omega,rfl,fun j hj h=>by rcases Nat.lt_succ_iff_lt_or_eq.1 h with h' | h';exact H2.out j hj h';subst h';exact HO.out⟩
      case measure=>simp;omega
  · have hn:=fun ty=>run_next_end (P:=Tryz.prog) w (bs s) k ty (by rw [q2_];exact hlt)
    go_wp2_with (go_at_call 174;refine (v2_ _ _ _ _).mono ?_;rintro e w' ⟨rfl,rfl⟩)
    go_ret
    refine ⟨qf_ ?_,hb1⟩
    have:s.any (fun c=>decide ((c.toNat:Int) < 97) || decide (122 < (c.toNat:Int))) = false:=by
     rw [List.any_eq_false]
     intro c hc
     obtain ⟨j,hj,rfl⟩:=List.getElem_of_mem hc
     have:=H2.out j hj (by omega)
     simpa using this
    simp only [zN_,this,inB,Bool.false_or,q2_]
    rw [Bool.eq_iff_iff];simp
theorem w6_ (g:Nat) (hE:z5_ g) (caps:List Value) (x:Value) (b:Bool) (bx:Nat) (W:World) (hbx:W.cell? ⟨bx,0,none⟩ = some (.func (.func g) #[] caps.toArray))
 (h:Calls Tryz.prog g (x :: caps).toArray W fun e w'=>e = .returned (.bool b)∧Below W.heap.size W w') :
 Calls Tryz.prog 176 #[x, .pointer (some ⟨bx,0,none⟩)] W fun e w'=>e = .returned (.bool (!b))∧Below W.heap.size W w':=by
 have hE':∀ (args:Array Value) (W:World),Sem.run Tryz.prog (callFunc g args) W = .ok (.enter g args) W:=hE
 have H:=hid h
 clear hE h
 go_enter Tryz.func176,Tryz.ntmps176
 go_wp2_with fail
 refine H.out.mono ?_
 rintro e w' ⟨rfl,hb⟩
 go_wp2_with fail
 go_ret
 exact ⟨rfl,hb⟩
theorem enters209:z5_ 176:=by
 intro args W
 simp [go_sem]
theorem vx_:z5_ 140:=by
 intro args W
 simp [go_sem]
def allN (p:Nat→Bool) (n:Nat):Bool:=!anyN (fun i=>!p i) n
theorem every_int (g:Nat) (hE:z5_ g) (p:Nat→Bool) (caps:List Value) (n:Nat) (a:Option Addr) (c:Nat) (cs:List Value) (S:Nat→Prop) (w:World) (hl:SlC S w 1 (.slice a n c) n cs) (hS:∀ b,S b→b < w.heap.size) (hlen:n ≤ 100000)
 (hp:∀ i,i < n→ka_ g caps w [qJ_ 1 cs i] (p i)) :
 Calls Tryz.prog 139 #[.slice a n c, .func (.func g) #[] caps.toArray] w fun e w'=>e = .returned (.bool (allN p n))∧Below w.heap.size w w':=by
 have HP:=hid hp
 clear hp
 go_enter Tryz.func139,Tryz.ntmps139
 go_wp2_with fail
 refine (cont_int 176 enters209 (fun i=>!p i) [.pointer (some ⟨w.heap.size,0,none⟩)] n a c cs S _ (SlC.agree hl (q9_ (B:=w.heap.size) ((Below.refl _ _).alloc (nl_ _) _) hS)) ?_ hlen ?_).mono ?_
 · intro b hb;have:=hS b hb;simp;omega
 · intro i hi W hW
   refine w6_ g hE caps _ (p i) w.heap.size W (bc_ hW (by simp) (by simp)) (HP.out i hi W ?_)
   exact ((Below.refl _ _).alloc (nl_ _) _).trans (hW.mono (by simp))
 · rintro e w' ⟨rfl,hb⟩
   go_wp2_with fail
   go_ret
   exact ⟨rfl,((Below.refl _ _).alloc (nl_ _) _).trans (hb.mono (by simp))⟩
theorem jj_ (l:List Int) (an:Option Addr) (cn:Nat) (S:Nat→Prop) (w:World) (hl:qF_ S w (.slice an l.length cn) l) (hS:∀ b,S b→b < w.heap.size) (hlen:l.length ≤ 1000) :
 Calls Tryz.prog 139 #[.slice an l.length cn, .func (.func 140) #[] #[]] w fun e w'=>e = .returned (.bool (!kb_ l))∧Below w.heap.size w w':=by
 refine (every_int 140 vx_ (fun i=>inB (l.getD i 0) 0 9999) [] l.length an cn _ S w hl hS (by omega) ?_).mono ?_
 · intro i hi W hW
   have:qJ_ 1 (l.map (Value.int .i64)) i = .int .i64 (l.getD i 0):=by simp [qJ_,hi]
   rw [this]
   exact (wp_ _ W).mono fun e w' ⟨he,hw⟩=>⟨he,by rw [← hw];exact Below.refl _ _⟩
 · rintro e w' ⟨rfl,hb⟩
   refine ⟨qf_ ?_,hb⟩
   unfold allN kb_
   rw [vg_ (fun x=>offB x 9999) _ l (fun i hi=>by simp [hi,inB,offB];rw [Bool.eq_iff_iff];simp)]
end Go.Proofs.LF
namespace Go.Proofs.LF
open Go.RowKit
section
variable {F:Fence} {n:Nat} {P:Program} {ops:Array Oper} {Q:Exit→Act→World→Prop} {md:Region.Mode} {S:Array Bool→World→Prop}
def LstC (md:Region.Mode) (ops:Array Oper) (listed:Array Bool):Prop:=∀ j o,ops[j]? = some o→listed.getD j false = true→∀ e ∈ o.after,Region.binds md e = true→listed.getD e.on false = true
def lstB (md:Region.Mode) (ops:Array Oper) (listed:Array Bool):Bool:=(List.range ops.size).all fun j=>!listed.getD j false || match ops[j]? with | some o=>o.after.all (fun e=>!Region.binds md e || listed.getD e.on false) | none=>true
theorem lstB_spec {listed:Array Bool} (h:lstB md ops listed = true):LstC md ops listed:=fun j o ho hl e he hb=>by
 unfold lstB at h
 rw [List.all_eq_true] at h
 have hj:j < ops.size:=(ge_ ho).1
 have h1:=h j (List.mem_range.2 hj)
 rw [hl,ho] at h1
 simp only [Bool.not_true,Bool.false_or,Array.all_eq_true] at h1
 obtain ⟨k,hk,rfl⟩:=Array.getElem_of_mem he
 have h2:=h1 k hk
 rw [hb] at h2
 simpa using h2
theorem LstC.set {listed:Array Bool} (h:LstC md ops listed) {i:Nat} (hi:i ∈ Region.ready md ops listed):LstC md ops (listed.setIfInBounds i true):=fun j o ho hl e he hb=>by
 obtain ⟨_,o',ho',hall⟩:=mem_ready.1 hi
 by_cases hji:i = j
 · subst hji
   rw [ho] at ho'
   cases ho'
   exact getD_set_true (hall e he hb)
 · rw [getD_set_ne false hji] at hl
   exact getD_set_true (h j o ho hl e he hb)
theorem waits_at {i k:Nat} {o:Oper} (hk:ops[k]? = some o) (h:xV_ md ops k i = true):∃ e ∈ o.after,Region.binds md e = true∧e.on = i:=by
 unfold xV_ at h
 rw [hk] at h
 simp only [Array.any_eq_true,Bool.and_eq_true,beq_iff_eq] at h
 obtain ⟨m,hm,hb,he⟩:=h
 exact ⟨_,Array.getElem_mem hm,hb,he⟩
def Unl (listed:Array Bool) (i:Nat):Prop:=listed.getD i false = false
theorem ve_ {listed:Array Bool} {i:Nat} (hr:i ∈ Region.ready md ops listed):Unl listed i:=by
 have h0:=(mem_ready.1 hr).1
 unfold Unl
 rcases Nat.lt_or_ge i listed.size with h' | h'
 · simp [h'] at h0 ⊢;exact h0
 · simp [Array.getElem?_eq_none h']
theorem vM_ {listed:Array Bool} (hc:LstC md ops listed) {i k:Nat} {ok:Oper} (hk:ops[k]? = some ok) (h:xV_ md ops k i = true) (hu:Unl listed i):Unl listed k:=by
 unfold Unl at *
 cases hl:listed.getD k false with
 | false=>rfl
 | true=>
   obtain ⟨e,he,hb,rfl⟩:=waits_at hk h
   have:=hc _ _ hk hl e he hb
   rw [hu] at this
   cases this
theorem qS_ {listed:Array Bool} {i k:Nat} (h:i ≠ k):Unl (listed.setIfInBounds i true) k ↔ Unl listed k:=by unfold Unl;rw [getD_set_ne false h]
def AnyG (F:Fence) (n:Nat) (P:Program) (md:Region.Mode) (ops:Array Oper) (Q:Exit→Act→World→Prop) (S:Array Bool→World→Prop):Nat→Array Bool→Act→World→Prop
 | 0,listed,a,w=>Region.ready md ops listed = []∧Q .normal a w
 | fuel + 1,listed,a,w=>
   (Region.ready md ops listed = []→Q .normal a w) ∧
   ∀ i ∈ Region.ready md ops listed,wpOpIn F n P ops Q i (fun a' w'=>S (listed.setIfInBounds i true) w'∧AnyG F n P md ops Q S fuel (listed.setIfInBounds i true) a' w') a w
theorem yw_:∀ (fuel:Nat) (listed:Array Bool) (a:Act) (w:World),AnyG F n P md ops Q S fuel listed a w→wpAnyIn F n P md ops Q fuel listed a w
 | 0,_,_,_,h=>h
 | fuel + 1,_,_,_,h=>⟨h.1,fun i hi=>wpOpIn_mono (fun a' w' h'=>yw_ fuel _ a' w' h'.2) (h.2 i hi)⟩
def AtSome (md:Region.Mode) (ops:Array Oper) (S:Array Bool→World→Prop) (i:Nat) (w:World):Prop:=∃ listed,LstC md ops listed∧i ∈ Region.ready md ops listed∧S listed w
theorem w0_ (hF:∀ f,F.fn f) (hnd:ops.all qk_ = true) {i:Nat} {oi:Oper} {v:Value} (hi:ops[i]? = some oi) (hsel:∀ (j:Nat) (o:Oper) cs b,ops[j]? = some o→o.op ≠ .select cs b)
 (hQ:∀ c a w,Q (.panic c) (a.put oi.dst v) w→Q (.panic c) a w) (hins:∀ listed w,S (listed.setIfInBounds i true) w ↔ S listed w) :
 ∀ (fuel:Nat) (listed:Array Bool) (a:Act) (w:World),LstC md ops listed →
  (∀ j oj,ops[j]? = some oj→j ≠ i→listed.getD j true = false→(∀ e ∈ oj.after,Region.binds md e = true→e.on ≠ i)→oi.apart ops oj = true) →
  i ∈ Region.ready md ops listed→YIf P ops (AtSome md ops S i) oi v a→S listed w →
  AnyG F n P md ops Q S fuel (listed.setIfInBounds i true) (a.put oi.dst v) w→AnyG F n P md ops Q S (fuel + 1) listed a w:=by
 have hno:∀ j o,ops[j]? = some o→qk_ o = true:=fun j o h=>by
  rw [Array.all_eq_true] at hnd
  obtain ⟨hj,rfl⟩:=ge_ h
  exact hnd j hj
 intro fuel
 induction fuel with
 | zero=>
   intro listed a w hcl _ hr hy hS H
   refine ⟨fun h=>(by rw [h] at hr;cases hr),fun j hj=>?_⟩
   by_cases hji:j = i
   · subst hji;exact hy.wpOp hF hi (hno _ _ hi) ⟨listed,hcl,hr,hS⟩ ⟨(hins _ _).2 hS,H⟩
   · have:=ready_mono hj hji
     rw [H.1] at this
     cases this
 | succ fuel ih=>
   intro listed a w hcl hfree hr hy hS H
   refine ⟨fun h=>(by rw [h] at hr;cases hr),fun j hj=>?_⟩
   by_cases hji:j = i
   · subst hji;exact hy.wpOp hF hi (hno _ _ hi) ⟨listed,hcl,hr,hS⟩ ⟨(hins _ _).2 hS,H⟩
   · have h1:=H.2 j (ready_mono hj hji)
     obtain ⟨hjun,oj,hoj,hall⟩:=mem_ready.1 hj
     have hnot:∀ e ∈ oj.after,Region.binds md e = true→e.on ≠ i:=fun e he hb heq=>by
      have h1:=hall e he hb
      have h0:=(mem_ready.1 hr).1
      rw [heq] at h1
      rcases Nat.lt_or_ge i listed.size with h' | h'
      · simp [h'] at h0 h1;rw [h0] at h1;cases h1
      · simp [Array.getElem?_eq_none h'] at h1
     have h2:=zM_ hoj (hno _ _ hoj) (hfree j oj hoj hji hjun hnot) (fun cs b=>hsel i oi cs b hi) (fun cs b=>hsel j oj cs b hoj) hQ hy h1
     have hfree':∀ k ok,ops[k]? = some ok→k ≠ i→(listed.setIfInBounds j true).getD k true = false →
      (∀ e ∈ ok.after,Region.binds md e = true→e.on ≠ i)→oi.apart ops ok = true:=fun k ok hk hki hun hno=>by
      refine hfree k ok hk hki ?_ hno
      by_cases hjk:j = k
      · subst hjk;exact hjun
      · rw [getD_set_ne true hjk] at hun;exact hun
     refine wpOpIn_mono (fun a' w' h3=>?_) h2
     rw [Array.setIfInBounds_comm _ _ (Ne.symm hji)] at h3
     have hs':=(hins _ _).1 h3.2.1
     exact ⟨hs',ih (listed.setIfInBounds j true) a' w' (hcl.set hj) hfree' (ready_mono hr (Ne.symm hji)) h3.1 hs' h3.2.2⟩
theorem qi_ (hF:∀ f,F.fn f) (hnd:ops.all qk_ = true) (i t:Nat) (v:Value) {oi:Oper} {fuel:Nat} {listed:Array Bool} {a:Act} {w:World} (hi:ops[i]? = some oi) (hd:oi.dst = some t)
 (hs:Region.noSelect ops = true) (hf:Region.free md ops listed i = true) (hr:(Region.ready md ops listed).contains i = true) (hc:lstB md ops listed = true) (hins:∀ listed w,S (listed.setIfInBounds i true) w ↔ S listed w)
 (hQ:∀ c a w,Q (.panic c) (a.put (some t) v) w→Q (.panic c) a w) (hy:YIf P ops (AtSome md ops S i) oi v a) (hS:S listed w)
 (h:AnyG F n P md ops Q S fuel (listed.setIfInBounds i true) (a.put (some t) v) w):AnyG F n P md ops Q S (fuel + 1) listed a w:=
 w0_ hF hnd hi (Region.noSelect_spec hs) (by rw [hd];exact hQ) hins fuel listed a w (lstB_spec hc) (Region.free_spec hi hf) (by simpa using hr) hy hS (by rw [hd];exact h)
theorem qA_ {i:Nat} {o:Oper} {fuel:Nat} {listed:Array Bool} {a:Act} {w:World} (hr:Region.ready md ops listed = [i]) (ho:ops[i]? = some o) (hw:Region.wanted o (yielded ops a.tmps) = true)
 (h:∀ K:Act→World→Prop,(∀ a w,S (listed.setIfInBounds i true) w∧AnyG F n P md ops Q S fuel (listed.setIfInBounds i true) a w→K a w)→Oper.wpIn F n P o a w K Q):AnyG F n P md ops Q S (fuel + 1) listed a w:=
 ⟨fun h0=>(by rw [hr] at h0;cases h0),hr ▸ fun j hj=>by
   obtain rfl:j = i:=by simpa using hj
   unfold wpOpIn
   rw [ho]
   simp only [hw,if_true]
   exact h _ fun _ _ h=>h⟩
theorem xL_ {fuel:Nat} {listed:Array Bool} {a:Act} {w:World} (hr:Region.ready md ops listed = []) (h:Q .normal a w):AnyG F n P md ops Q S fuel listed a w:=by
 cases fuel with
 | zero=>exact ⟨hr,h⟩
 | succ f=>exact ⟨fun _=>h,fun i hi=>(by rw [hr] at hi;cases hi)⟩
theorem yF_ {id:Nat} {a:Act} {w:World} (S:Array Bool→World→Prop) (hm:P.follows .mixedOrders = true)
 (h:AnyG F n P .any ops Q S ops.size (Array.replicate ops.size false) a w.drew):(Code.region id ops true).wpIn F n P Q a w:=
 wpIn_region_any hm (yw_ _ _ _ _ h)
end
def Srt (l:List Fl):Prop:=l.Pairwise (fun a b=>cmpP a.p b.p < 0)
def Clo (l:List Fl):Prop:=∀ x ∈ l,x.p.dropLast ≠ []→∃ z ∈ l,z.p = x.p.dropLast
theorem ye_:∀ (u t:List Ky),t ≠ []→cmpP u (u ++ t) < 0
 | [],t,h=>by cases t with | nil=>exact absurd rfl h | cons _ _=>simp [cmpP]
 | a :: u,t,h=>by simp only [List.cons_append,cmpP,qR_.refl,ne_eq,not_true,if_false];exact ye_ u t h
theorem vC_ (x y:List Ky):∀ (u:List Ky),cmpP (u ++ x) (u ++ y) = cmpP x y
 | []=>rfl
 | a :: u=>by simp only [List.cons_append,cmpP,qR_.refl,ne_eq,not_true,if_false];exact vC_ x y u
theorem flsL_pre:∀ (y:Fo) (u:List Ky),∀ x ∈ flsL u y,∃ k t,x.p = u ++ k :: t
 | .nil,u,x,h=>by simp [qY_] at h
 | .cons n l s r,u,x,h=>by
   rw [qt_] at h
   rcases List.mem_cons.1 h with rfl | h
   · exact ⟨_,[],rfl⟩
   · rcases List.mem_append.1 h with h | h
     · obtain ⟨k,t,hp⟩:=flsL_pre s _ x h
       exact ⟨kyOf n l,k :: t,by rw [hp];simp⟩
     · exact flsL_pre r u x h
theorem Fo.take_drop:∀ (i:Nat) (y:Fo),(y.take i).app (y.drop i) = y
 | 0,_=>rfl
 | _ + 1, .nil=>rfl
 | i + 1, .cons n l s r=>by simp [Fo.take,Fo.drop,Fo.app,Fo.take_drop i r]
theorem Fo.len_drop:∀ (i:Nat) (y:Fo),(y.drop i).len = y.len - i
 | 0,_=>rfl
 | _ + 1, .nil=>by simp [Fo.drop,Fo.len]
 | i + 1, .cons n l s r=>by simp only [Fo.drop,Fo.len,Fo.len_drop i r];omega
theorem Fo.drop_one:∀ (i:Nat) (y:Fo),(y.drop i).drop 1 = y.drop (i + 1)
 | 0,_=>rfl
 | _ + 1, .nil=>rfl
 | i + 1, .cons _ _ _ r=>Fo.drop_one i r
def Fo.setN (y:Fo) (i:Nat) (n:List UInt8) (l:List Int) (s:Fo):Fo:=(y.take i).app (.cons n l s (y.drop (i + 1)))
def Fo.insN (y:Fo) (i:Nat) (n:List UInt8) (l:List Int) (s:Fo):Fo:=(y.take i).app (.cons n l s (y.drop i))
theorem Fo.len_setN {i:Nat} {n:List UInt8} {l:List Int} {s y:Fo} (h:i < y.len):(y.setN i n l s).len = y.len:=by
 simp only [Fo.setN,Fo.len_app,Fo.len_take (Nat.le_of_lt h),Fo.len,Fo.len_drop];omega
theorem Fo.len_insN {i:Nat} {n:List UInt8} {l:List Int} {s y:Fo} (h:i ≤ y.len):(y.insN i n l s).len = y.len + 1:=by
 simp only [Fo.insN,Fo.len_app,Fo.len_take h,Fo.len,Fo.len_drop];omega
theorem qT_.length {E:TypeId} {S:Nat→Prop} {w:World} {y:Fo} {cs:List Value} (h:qT_ E S w y cs):cs.length = y.len * 3:=h.fcs.length
theorem qT_.split {E:TypeId} {w:World}:∀ {i:Nat} {y:Fo} {S:Nat→Prop} {cs:List Value},qT_ E S w y cs→∃ Sa Sb:Nat→Prop,(∀ b,Sa b→S b)∧(∀ b,Sb b→S b)∧(∀ b,Sa b→¬ Sb b) ∧
 qT_ E Sa w (y.take i) (cs.take (i * 3))∧qT_ E Sb w (y.drop i) (cs.drop (i * 3))
 | 0,y,S,cs,h=>⟨fun _=>False,S,fun _ h=>h.elim,fun _ h=>h,fun _ h=>h.elim,by simp [Fo.take,qT_],by simpa [Fo.drop] using h⟩
 | i + 1, .nil,S,cs,h=>⟨fun _=>False,S,fun _ h=>h.elim,fun _ h=>h,fun _ h=>h.elim,by rw [show cs = [] from h];simp [Fo.take,qT_],by rw [show cs = [] from h];simp [Fo.drop,qT_]⟩
 | i + 1, .cons n l s r,S,cs,⟨vn,vs,cs',S1,S2,S3,h1,hs,d1,d2,d3,h2,h3,h6⟩=>by
   obtain ⟨Sa,Sb,ha,hb,hd,hfa,hfb⟩:=h6.split (i:=i)
   refine ⟨fun b=>S1 b ∨ S2 b ∨ Sa b,Sb,fun b hb=>?_,fun b h=>hs b (.inr (.inr (hb b h))),fun b h h'=>?_,?_,?_⟩
   · rcases hb with h | h | h
     · exact hs b (.inl h)
     · exact hs b (.inr (.inl h))
     · exact hs b (.inr (.inr (ha b h)))
   · rcases h with h | h | h
     · exact d2 b h (hb b h')
     · exact d3 b h (hb b h')
     · exact hd b h h'
   · rw [h1,show (i + 1) * 3 = i * 3 + 1 + 1 + 1 from by omega]
     exact ⟨vn,vs,_,S1,S2,Sa,rfl,fun _ h=>h,d1,fun b h h'=>d2 b h (ha b h'),fun b h h'=>d3 b h (ha b h'),h2,h3,hfa⟩
   · rw [h1,show (i + 1) * 3 = i * 3 + 1 + 1 + 1 from by omega]
     exact hfb
theorem qT_.cons {E:TypeId} {Sn S:Nat→Prop} {w:World} {n:List UInt8} {l:List Int} {s r:Fo} {cs ds:List Value} (h:qT_ E Sn w (.cons n l s .nil) cs) (h':qT_ E S w r ds) (hd:∀ b,Sn b→¬ S b):qT_ E (fun b=>Sn b ∨ S b) w (.cons n l s r) (cs ++ ds):=qT_.app h h' hd
theorem qT_.ins {E:TypeId} {S Sn:Nat→Prop} {w:World} {y s:Fo} {i:Nat} {n:List UInt8} {l:List Int} {cs ds:List Value} (h:qT_ E S w y cs) (hn:qT_ E Sn w (.cons n l s .nil) ds) (hd:∀ b,S b→¬ Sn b) :
 qT_ E (fun b=>S b ∨ Sn b) w (y.insN i n l s) (cs.take (i * 3) ++ (ds ++ cs.drop (i * 3))):=by
 obtain ⟨Sa,Sb,ha,hb,hab,hfa,hfb⟩:=h.split (i:=i)
 refine (qT_.app hfa (qT_.cons hn hfb (fun b h1 h2=>hd b (hb b h2) h1)) (fun b h1 h2=>h2.elim (fun h2=>hd b (ha b h1) h2) (hab b h1))).wide ?_
 rintro b (h | h | h)
 · exact .inl (ha b h)
 · exact .inr h
 · exact .inl (hb b h)
theorem qT_.set {E:TypeId} {S Sn:Nat→Prop} {w:World} {y s:Fo} {i:Nat} {n:List UInt8} {l:List Int} {cs ds:List Value} (h:qT_ E S w y cs) (hn:qT_ E Sn w (.cons n l s .nil) ds) (hd:∀ b,S b→¬ Sn b) :
 qT_ E (fun b=>S b ∨ Sn b) w (y.setN i n l s) (cs.take (i * 3) ++ (ds ++ cs.drop ((i + 1) * 3))):=by
 obtain ⟨Sa,Sb,ha,hb,hab,hfa,hfb⟩:=h.split (i:=i)
 have e1:(cs.drop (i * 3)).drop (1 * 3) = cs.drop ((i + 1) * 3):=by rw [List.drop_drop];congr 1;omega
 have e2:(y.drop i).drop 1 = y.drop (i + 1):=Fo.drop_one i y
 obtain ⟨Sc,Sd,hc,hd',hcd,_,hfd⟩:=hfb.split (i:=1)
 rw [e1,e2] at hfd
 refine (qT_.app hfa (qT_.cons hn hfd (fun b h1 h2=>hd b (hb b (hd' b h2)) h1)) (fun b h1 h2=>h2.elim (fun h2=>hd b (ha b h1) h2) (fun h2=>hab b h1 (hd' b h2)))).wide ?_
 rintro b (h | h | h)
 · exact .inl (ha b h)
 · exact .inr h
 · exact .inl (hb b (hd' b h))
theorem qT_.hole {E:TypeId} {w:World}:∀ {i:Nat} {y s r:Fo} {n:List UInt8} {l:List Int} {S:Nat→Prop} {cs:List Value},qT_ E S w y cs→y.drop i = .cons n l s r→∃ (vn vs:Value) (T:Nat→Prop),cs[i * 3]? = some (.string (bs n))∧cs[i * 3 + 1]? = some vn∧cs[i * 3 + 2]? = some vs∧(∀ b,T b→S b)∧qF_ (fun b=>S b∧¬ T b) w vn l∧FOw E T w vs s ∧
 ∀ (w':World) (vs':Value) (s':Fo) (T':Nat→Prop),qd_ (fun b=>S b∧¬ T b) w w'→FOw E T' w' vs' s'→(∀ b,T' b→S b→T b)→qT_ E (fun b=>S b ∨ T' b) w' (y.setN i n l s') (cs.set (i * 3 + 2) vs')
 | 0, .cons n l s r,s0,r0,n0,l0,S,cs,⟨vn,vs,cs',S1,S2,S3,h1,hs,d1,d2,d3,h2,h3,h6⟩,hd=>by
   simp only [Fo.drop,Fo.cons.injEq] at hd
   obtain ⟨rfl,rfl,rfl,rfl⟩:=hd
   refine ⟨vn,vs,S2,by rw [h1];rfl,by rw [h1];rfl,by rw [h1];rfl,fun b h=>hs b (.inr (.inl h)),qF_.wide h2 (fun b h=>⟨hs b (.inl h.1),d1 b h.1⟩),h3,fun w' vs' s' T' ha hF hT=>?_⟩
   rw [h1]
   refine ⟨vn,vs',cs',S1,T',S3,rfl,fun b h=>?_,fun b h h'=>d1 b h (hT b h' (hs b (.inl h))),d2,fun b h h'=>d3 b (hT b h (hs b (.inr (.inr h')))) h',h2.agree (fun b h=>ha b ⟨hs b (.inl h),d1 b h⟩),hF,?_⟩
   · rcases h with h | h | h
     · exact .inl (hs b (.inl h))
     · exact .inr h
     · exact .inl (hs b (.inr (.inr h)))
   · exact h6.agree (fun b h=>ha b ⟨hs b (.inr (.inr h)),fun h'=>d3 b h' h⟩)
 | i + 1, .cons n l s r,s0,r0,n0,l0,S,cs,⟨vn,vs,cs',S1,S2,S3,h1,hs,d1,d2,d3,h2,h3,h6⟩,hd=>by
   obtain ⟨vn',vs',T,g0,g1,g2,hT,hI,hF,hk⟩:=h6.hole (i:=i) hd
   refine ⟨vn',vs',T,?_,?_,?_,fun b h=>hs b (.inr (.inr (hT b h))),hI.wide (fun b h=>⟨hs b (.inr (.inr h.1)),h.2⟩),hF,fun w' vs'' s' T' ha hF' hT'=>?_⟩
   · rw [h1,show (i + 1) * 3 = i * 3 + 1 + 1 + 1 from by omega];exact g0
   · rw [h1,show (i + 1) * 3 + 1 = i * 3 + 1 + 1 + 1 + 1 from by omega];exact g1
   · rw [h1,show (i + 1) * 3 + 2 = i * 3 + 2 + 1 + 1 + 1 from by omega];exact g2
   · have hnT:∀ b,T' b→¬ S1 b∧¬ S2 b:=fun b h=>⟨fun h'=>d2 b h' (hT b (hT' b h (hs b (.inl h')))),fun h'=>d3 b h' (hT b (hT' b h (hs b (.inr (.inl h')))))⟩
     have hk':=hk w' vs'' s' T' (fun b h=>ha b ⟨hs b (.inr (.inr h.1)),h.2⟩) hF' (fun b h h'=>hT' b h (hs b (.inr (.inr h'))))
     rw [h1,show (i + 1) * 3 + 2 = i * 3 + 2 + 1 + 1 + 1 from by omega]
     refine ⟨vn,vs,_,S1,S2,fun b=>S3 b ∨ T' b,rfl,fun b h=>?_,d1,fun b h h'=>h'.elim (d2 b h) (fun h'=>(hnT b h').1 h),fun b h h'=>h'.elim (d3 b h) (fun h'=>(hnT b h').2 h),h2.agree (fun b h=>ha b ⟨hs b (.inl h),fun h'=>d2 b h (hT b h')⟩),?_,hk'⟩
     · rcases h with h | h | h | h
       · exact .inl (hs b (.inl h))
       · exact .inl (hs b (.inr (.inl h)))
       · exact .inl (hs b (.inr (.inr h)))
       · exact .inr h
     · exact FOw.agree (S:=S2) h3 (fun b h=>ha b ⟨hs b (.inr (.inl h)),fun h'=>d3 b h (hT b h')⟩)
theorem xa_ {w:World} {base e k n:Nat} {v:Value} {xs:List Value} {S:Nat→Prop} (h:w.ownsRow base e k v n xs) (hS:∀ g,v.ownBlock = some g→S g):SlC (US S w) w k v n xs:=by
 obtain ⟨h1,h2⟩:=h
 refine ⟨h1,?_⟩
 rcases h2 with ⟨rfl,rfl⟩ | ⟨g,cap,cur,rfl,hb,hg,hn,hc,hs,ht⟩
 · exact ⟨none,0,rfl,by omega,by simp [maxLen],fun _=>rfl, .inl rfl⟩
 · refine ⟨_,cap,rfl,hn,hc,(fun h=>by cases h), .inr ⟨g,0,rfl,⟨hS g rfl,_,_,hg⟩,fun j u hj=>?_⟩⟩
   simp only [World.cell?,hg,Nat.zero_add]
   rw [← ht,List.getElem?_take] at hj
   split at hj
   · simpa using hj
   · cases hj
theorem qT_.fcsu {E:TypeId} {w:World}:∀ {y:Fo} {S:Nat→Prop} {cs:List Value},qT_ E S w y cs→FCsU S w y cs
 | .nil,_,_,h=>h
 | .cons n l s r,S,cs,⟨vn,vs,cs',S1,S2,S3,h1,hs,_,_,_,h2,⟨ds,h3,h4,h5⟩,h6⟩=>
   ⟨vn,vs,cs',h1,IntU.wide h2 (fun b hb=>hs b (.inl hb)),⟨ds,xa_ h3 (fun g hg=>hs g (.inr (.inl (h4 g hg)))),FCsU.wide h5.fcsu (fun b hb=>hs b (.inr (.inl hb.1)))⟩,FCsU.wide h6.fcsu (fun b hb=>hs b (.inr (.inr hb)))⟩
theorem FOw.fslu {E:TypeId} {S:Nat→Prop} {w:World} {v:Value} {y:Fo} (h:FOw E S w v y):FSlU S w v y:=
 let ⟨ds,h1,h2,h3⟩:=h;⟨ds,xa_ h1 h2,FCsU.wide h3.fcsu (fun b hb=>hb.1)⟩
end Go.Proofs.LF