/- Parts of the proof of a law of layer 11 (file): LfW2, LfHeld, LfTree, LfU, LfOrd, LfIns, LfRow, LfNm, LfOnw, LfIdx, LfOw, LfChg, LfHeld2, LfKp. The conditions stand in each theorem. -/
import Derived.Laws.World
import Derived.Lib.AppendZerosOnto
import Derived.Test.YtadkpjgpefcphaaGreatDoorProg
import Derived.Test.YtadkpjgpefcphaaGreatDoorNoaa
set_option linter.all false
set_option linter.unusedVariables false
set_option linter.unusedSimpArgs false
namespace Go.Proofs.LF
open Go.RowKit
set_option maxHeartbeats 1000000
set_option maxRecDepth 100000
attribute [local go_sem] bs_toList
theorem key_any (n:List UInt8) (l:List Int) (an:Option Addr) (cn:Nat) (vs:Value) (S:Nat→Prop) (w:World) (hl:Ints S w (.slice an l.length cn) l) (hS:∀ b,S b→b < w.heap.size) (sa:Option Addr) (sl sc:Nat) (hvs:vs = .slice sa sl sc) :
 Calls Tryz.prog 136 #[.agg #[.string (bs n), .slice an l.length cn,vs]] w fun e w'=>e = .returned (.agg #[.string (bs (kyOf n l).n), .bool (kyOf n l).h, .int .i64 (kyOf n l).x])∧Below w.heap.size w w':=by
 subst hvs
 cases l with
 | nil=>
   go_enter Tryz.func136,Tryz.ntmps136
   go_wp2
   exact bodyPost_ret (v := .agg #[.string (bs n), .bool false, .int .i64 0]) (by simp [results,Tryz.results136,go_sem]) rfl ⟨rfl,((Below.refl _ _).alloc (nl_ _) _).alloc (by simp) _⟩
 | cons x l=>
   obtain ⟨g,o,rfl,hg,_,_,hcell⟩:=SlC.cells hl (by simp)
   · have hx:w.cell? ⟨g,o,none⟩ = some (.int .i64 x):=hcell 0 _ rfl
     have hg':=hS g hg
     clear hcell
     go_enter Tryz.func136,Tryz.ntmps136
     go_wp2_with fail
     go_region_held3 (fun w'=>w'.cell? ⟨w.heap.size,0,none⟩ = some (.string (bs n))∧w'.cell? ⟨w.heap.size,1,none⟩ = some (.slice (some ⟨g,o,none⟩) (l.length + 1) cn)∧w'.cell? ⟨g,o,none⟩ = some (.int .i64 x)) (go_keep) (fail)
     go_wp2
     exact bodyPost_ret (v := .agg #[.string (bs n), .bool true, .int .i64 x]) (by simp [results,Tryz.results136,go_sem]) rfl ⟨rfl,(((Below.refl _ _).alloc (nl_ _) _).alloc (by simp) _).drew⟩
theorem KeyOf_any (n:List UInt8) (l:List Int) (an:Option Addr) (cn:Nat) (S:Nat→Prop) (w:World) (hl:Ints S w (.slice an l.length cn) l) (hS:∀ b,S b→b < w.heap.size) :
 Calls Tryz.prog 107 #[.string (bs n), .slice an l.length cn] w fun e w'=>e = .returned (.agg #[.string (bs (kyOf n l).n), .bool (kyOf n l).h, .int .i64 (kyOf n l).x])∧Below w.heap.size w w':=by
 cases l with
 | nil=>
   go_enter Tryz.func107,Tryz.ntmps107
   go_wp2
   exact bodyPost_ret (v := .agg #[.string (bs n), .bool false, .int .i64 0]) (by simp [results,Tryz.results107,go_sem]) rfl ⟨rfl,((Below.refl _ _).alloc (nl_ _) _)⟩
 | cons x l=>
   obtain ⟨g,o,rfl,hg,_,_,hcell⟩:=SlC.cells hl (by simp)
   · have hx:w.cell? ⟨g,o,none⟩ = some (.int .i64 x):=hcell 0 _ rfl
     have hg':=hS g hg
     clear hcell
     go_enter Tryz.func107,Tryz.ntmps107
     go_wp2_with fail
     exact bodyPost_ret (v := .agg #[.string (bs n), .bool true, .int .i64 x]) (by simp [results,Tryz.results107,go_sem]) rfl ⟨rfl,((Below.refl _ _).alloc (nl_ _) _)⟩
theorem badNumbers_any (l:List Int) (an:Option Addr) (cn:Nat) (S:Nat→Prop) (w:World) (hl:Ints S w (.slice an l.length cn) l) (hlen:l.length ≤ 1000) :
 Calls Tryz.prog 147 #[.slice an l.length cn] w fun e w'=>e = .returned (.bool (badNs l))∧w = w':=by
 go_enter Tryz.func147,Tryz.ntmps147
 go_wp2_with fail
 go_loop [3] (fun i=>∃ k:Nat,k ≤ l.length∧i = .int .i64 k∧Hid ((l.take k).any (fun x=>offB x 9999) = false)) (fun i=>l.length - (intOf i).toNat)
 case atStart=>exact ⟨0,by omega,rfl,by simp [Hid]⟩
 case round=>
  obtain ⟨k,hk,rfl,hh2⟩:=hrel
  by_cases hlt:k < l.length
  · obtain ⟨g,o,rfl,_,_,_,hcell⟩:=SlC.cells hl (by omega)
    have hx:w.cell? ⟨g,o + k,none⟩ = some (.int .i64 l[k]):=hcell k _ (by simp [hlt])
    clear hcell
    have hs:(l.take (k + 1)).any (fun x=>offB x 9999) = ((l.take k).any (fun x=>offB x 9999) || offB l[k] 9999):=by rw [List.take_succ_eq_append_getElem hlt,List.any_append];simp
    have HS:=hid hs
    clear hs
    by_cases hb:offB l[k] 9999 = true
    · go_wp2_with (go_at_call 146;refine (off_any _ _ _).mono ?_;rintro e w' ⟨rfl,rfl⟩)
      go_ret
      exact ⟨ret_bool (by simp only [badNs];symm;rw [List.any_eq_true];exact ⟨l[k],by simp,hb⟩),rfl⟩
    · have hb':offB l[k] 9999 = false:=by simpa using hb
      go_wp2_with (go_at_call 146;refine (off_any _ _ _).mono ?_;rintro e w' ⟨rfl,rfl⟩)
      go_round
      case rel=>exact ⟨k + 1,by omega,by go_num,by rw [Hid,HS.out,hh2.out,hb'];rfl⟩
      case measure=>simp [intOf];omega
  · go_wp2
    go_ret
    obtain rfl:k = l.length:=by omega
    have:=hh2.out
    rw [List.take_length] at this
    exact ⟨ret_bool this.symm,rfl⟩
theorem Tryz.info3:(Tryz.prog.info? 3).map (fun i=>(i.zero,i.size,i.bytes)) = some (some (.int .i64 0),1,8):=by kernel_rfl
theorem dup_any (l:List Int) (an:Option Addr) (cn:Nat) (S:Nat→Prop) (w:World) (hl:Ints S w (.slice an l.length cn) l) (hS:∀ b,S b→b < w.heap.size) (hlen:l.length ≤ 1000) :
 Calls Tryz.prog 85 #[.slice an l.length cn] w fun e w'=>∃ a c,e = .returned (.slice a l.length c)∧Ints (Rg w.heap.size w'.heap.size) w' (.slice a l.length c) l∧Below w.heap.size w w':=by
 obtain ⟨i0,hi0,hz0,hz1,hz2⟩:=info_parts Tryz.info3
 have hcap:=SlC.caps hl
 have hl0:(l.map (Value.int .i64)).length = l.length * 1:=by simp
 go_enter Tryz.func85,Tryz.ntmps85
 go_wp2_with (first | (at_make;refine wpList_make_own _ rfl _ _ 66 rfl w.heap.size 3 i0 _ 1 Tryz.underlying66 hi0 hz0 hz1 .i64 .i64 l.length l.length rfl rfl rfl (by rw [hz2];omega) (by unfold maxLen;omega) (nl_ _) ?_;intro w1 hown1 hgrow1) | (at_builtin;refine wpList_append_fits_any _ rfl _ _ 66 rfl w.heap.size 3 i0 1 Tryz.underlying66 hi0 hz1 w.heap.size 0 l.length [] rfl hown1 an l.length cn (l.map (Value.int .i64)) rfl hl0 hcap.2.2 (SlC.news hl (Agree.grown hgrow1 fun b hb=>⟨hS b hb,by simp⟩)) (one_ints l) (by omega) ?_;intro w2 hown2 hgrow2))
 go_ret
 have h2:=hown2
 simp only [Nat.zero_add,List.nil_append] at h2
 exact ⟨_,_,rfl,SlC.of_owns h2,((Below.refl _ _).grown hgrow1 (nl_ _) (by simp)).grown hgrow2 hgrow1.size (fun k hk=>by cases hk;exact nl_ _)⟩
end Go.Proofs.LF
namespace Go.Proofs.LF
open Go.RowKit
section
variable {F:Fence} {n:Nat} {P:Program} {ops:Array Oper} {Q:Exit→Act→World→Prop} {md:Region.Mode} {S:World→Prop}
def YIf (P:Program) (ops:Array Oper) (S:World→Prop) (o:Oper) (v:Value) (a:Act):Prop:=
 (Region.wanted o (yielded ops a.tmps) = true∧∀ w,S w→(execOp a.eval o).run P w = .ok (.value v) w) ∨
 (Region.wanted o (yielded ops a.tmps) = false∧v = undef)
def notDefer (o:Oper):Bool:=match o.op with | .defer _=>false | _=>true
theorem semAt_of {o:Oper} (h:notDefer o = true) {r:Option Nat} {ρ:Operand→Value}:Oper.semAt r ρ o = execOp ρ o:=
 Oper.semAt_eq r ρ o fun c e=>by simp [notDefer,e] at h
theorem YIf.of_same {o:Oper} {v:Value} {a a':Act} (hy:YIf P ops S o v a) (he:execOp a'.eval o = execOp a.eval o)
 (hw:Region.wanted o (yielded ops a'.tmps) = Region.wanted o (yielded ops a.tmps)):YIf P ops S o v a':=by
 unfold YIf at *
 rw [he,hw]
 exact hy
theorem YIf.wpOp (hF:∀ f,F.fn f) {i:Nat} {o:Oper} {v:Value} {a:Act} (hi:ops[i]? = some o) (hnd:notDefer o = true) (hy:YIf P ops S o v a)
 {K:Act→World→Prop} {w:World} (hS:S w) (h:K (a.put o.dst v) w):wpOpIn F n P ops Q i K a w:=by
 unfold wpOpIn
 simp only [hi]
 rcases hy with ⟨hw,hv⟩ | ⟨hw,rfl⟩
 · simp only [hw,if_true,Oper.wpIn,semAt_of hnd,hv w hS,Oper.uponIn];exact ⟨fun f _=>hF f,h⟩
 · simp only [hw,Bool.false_eq_true,if_false];exact ⟨fun f _=>hF f,h⟩
theorem wpOpIn_putIf {j:Nat} {oi oj:Oper} {v:Value} (hj:ops[j]? = some oj) (hnd:notDefer oj = true) (hap:oi.apart ops oj = true)
 (hsi:∀ cs b,oi.op ≠ .select cs b) (hsj:∀ cs b,oj.op ≠ .select cs b)
 (hQ:∀ c a w,Q (.panic c) (a.put oi.dst v) w→Q (.panic c) a w) {K:Act→World→Prop} {a:Act} {w:World}
 (hy:YIf P ops S oi v a) (h:wpOpIn F n P ops Q j K (a.put oi.dst v) w) :
 wpOpIn F n P ops Q j (fun a' w'=>YIf P ops S oi v a'∧K (a'.put oi.dst v) w') a w:=by
 obtain ⟨h1,h2,h3⟩:=Oper.apart_spec hap
 have keep:∀ (a:Act),YIf P ops S oi v a→∀ u,YIf P ops S oi v (a.put oj.dst u):=fun a hy u=>
  hy.of_same (execOp_put oi hsi a oj.dst u h3) (wanted_put oi a oj.dst u h3)
 have keepD:∀ d,YIf P ops S oi v { a with defers:=d :: a.defers }:=fun d=>hy.of_same rfl rfl
 unfold wpOpIn at *
 simp only [hj] at *
 rw [wanted_put oj a oi.dst v h1,about_put oj w a oi.dst v h1] at h
 split
 · rename_i hw
   simp only [hw,if_true] at h
   unfold Oper.wpIn at *
   rw [about_put oj w a oi.dst v h1] at h
   refine ⟨h.1,?_⟩
   have h:=h.2
   rw [semAt_of hnd,execOp_put oj hsj a oi.dst v h1] at h
   rw [semAt_of hnd]
   generalize (execOp a.eval oj).run P w = r at *
   cases r with
   | ok x w'=>
     cases x <;> simp only [Oper.uponIn] at h ⊢
     case value u=>exact ⟨keep a hy u,by rw [← Act.put_comm a v u h2];exact h⟩
     case skip=>exact ⟨keep a hy _,by rw [← Act.put_comm a v undef h2];exact h⟩
     case defer d=>
      refine ⟨keep _ (keepD d) _,?_⟩
      rw [← Act.put_comm _ v undef h2,← Act.put_defers]
      exact h
     case enter f args=>
      refine ⟨h.1,CallsIn.mono h.2 fun e w'' he=>?_⟩
      cases e with
      | returned u=>exact ⟨keep a hy u,by rw [← Act.put_comm a v u h2];exact he⟩
      | panicked c=>exact hQ _ _ _ he
      | outgrown=>exact he
     case row row args=>exact ⟨h.1,RowsIn.mono h.2 fun u w'' he=>⟨keep a hy u,by rw [← Act.put_comm a v u h2];exact he⟩⟩
     case round l f tmps assign body=>
      refine ⟨h.1,RoundIn.mono h.2 fun e w'' he=>?_⟩
      cases e with
      | returned u=>exact ⟨keep a hy u,by rw [← Act.put_comm a v u h2];exact he⟩
      | panicked c=>exact hQ _ _ _ he
      | outgrown=>exact he
   | halt x w'=>
     cases x <;> simp only [Oper.uponIn] at h ⊢
     case panic u=>exact hQ _ _ _ h
 · rename_i hw
   simp only [hw] at h
   exact ⟨h.1,keep a hy _,by rw [← Act.put_comm a v undef h2];exact h.2⟩
def AnyH (F:Fence) (n:Nat) (P:Program) (md:Region.Mode) (ops:Array Oper) (Q:Exit→Act→World→Prop) (S:World→Prop):Nat→Array Bool→Act→World→Prop
 | 0,listed,a,w=>Region.ready md ops listed = []∧Q .normal a w
 | fuel + 1,listed,a,w=>
   (Region.ready md ops listed = []→Q .normal a w) ∧
   ∀ i ∈ Region.ready md ops listed,wpOpIn F n P ops Q i (fun a' w'=>S w'∧AnyH F n P md ops Q S fuel (listed.setIfInBounds i true) a' w') a w
theorem any_of_held:∀ (fuel:Nat) (listed:Array Bool) (a:Act) (w:World),AnyH F n P md ops Q S fuel listed a w→wpAnyIn F n P md ops Q fuel listed a w
 | 0,_,_,_,h=>h
 | fuel + 1,_,_,_,h=>⟨h.1,fun i hi=>wpOpIn_mono (fun a' w' h'=>any_of_held fuel _ a' w' h'.2) (h.2 i hi)⟩
theorem AnyH.imp {S':World→Prop} (hS:∀ w,S w→S' w):∀ (fuel:Nat) (listed:Array Bool) (a:Act) (w:World),AnyH F n P md ops Q S fuel listed a w→AnyH F n P md ops Q S' fuel listed a w
 | 0,_,_,_,h=>h
 | fuel + 1,_,_,_,h=>⟨h.1,fun i hi=>wpOpIn_mono (fun a' w' h'=>⟨hS _ h'.1,AnyH.imp hS fuel _ a' w' h'.2⟩) (h.2 i hi)⟩
theorem AnyH_first (hF:∀ f,F.fn f) (hnd:ops.all notDefer = true) {i:Nat} {oi:Oper} {v:Value} (hi:ops[i]? = some oi) (hsel:∀ (j:Nat) (o:Oper) cs b,ops[j]? = some o→o.op ≠ .select cs b)
 (hQ:∀ c a w,Q (.panic c) (a.put oi.dst v) w→Q (.panic c) a w) :
 ∀ (fuel:Nat) (listed:Array Bool) (a:Act) (w:World),
  (∀ j oj,ops[j]? = some oj→j ≠ i→listed.getD j true = false→(∀ e ∈ oj.after,Region.binds md e = true→e.on ≠ i)→oi.apart ops oj = true) →
  i ∈ Region.ready md ops listed→YIf P ops S oi v a→S w →
  AnyH F n P md ops Q S fuel (listed.setIfInBounds i true) (a.put oi.dst v) w→AnyH F n P md ops Q S (fuel + 1) listed a w:=by
 have hno:∀ j o,ops[j]? = some o→notDefer o = true:=fun j o h=>by
  rw [Array.all_eq_true] at hnd
  obtain ⟨hj,rfl⟩:=Array.getElem?_eq_some_iff.1 h
  exact hnd j hj
 intro fuel
 induction fuel with
 | zero=>
   intro listed a w _ hr hy hS H
   refine ⟨fun h=>(by rw [h] at hr;cases hr),fun j hj=>?_⟩
   by_cases hji:j = i
   · subst hji;exact hy.wpOp hF hi (hno _ _ hi) hS ⟨hS,H⟩
   · have:=ready_mono hj hji
     rw [H.1] at this
     cases this
 | succ fuel ih=>
   intro listed a w hfree hr hy hS H
   refine ⟨fun h=>(by rw [h] at hr;cases hr),fun j hj=>?_⟩
   by_cases hji:j = i
   · subst hji;exact hy.wpOp hF hi (hno _ _ hi) hS ⟨hS,H⟩
   · have h1:=H.2 j (ready_mono hj hji)
     obtain ⟨hjun,oj,hoj,hall⟩:=mem_ready.1 hj
     have hnot:∀ e ∈ oj.after,Region.binds md e = true→e.on ≠ i:=fun e he hb heq=>by
      have h1:=hall e he hb
      have h0:=(mem_ready.1 hr).1
      rw [heq] at h1
      rcases Nat.lt_or_ge i listed.size with h' | h'
      · simp [h'] at h0 h1;rw [h0] at h1;cases h1
      · simp [Array.getElem?_eq_none h'] at h1
     have h2:=wpOpIn_putIf hoj (hno _ _ hoj) (hfree j oj hoj hji hjun hnot) (fun cs b=>hsel i oi cs b hi) (fun cs b=>hsel j oj cs b hoj) hQ hy h1
     have hfree':∀ k ok,ops[k]? = some ok→k ≠ i→(listed.setIfInBounds j true).getD k true = false →
      (∀ e ∈ ok.after,Region.binds md e = true→e.on ≠ i)→oi.apart ops ok = true:=fun k ok hk hki hun hno=>by
      refine hfree k ok hk hki ?_ hno
      by_cases hjk:j = k
      · subst hjk;exact hjun
      · rw [getD_set_ne true hjk] at hun;exact hun
     refine wpOpIn_mono (fun a' w' h3=>⟨h3.2.1,ih (listed.setIfInBounds j true) a' w' hfree' (ready_mono hr (Ne.symm hji)) h3.1 h3.2.1 ?_⟩) h2
     rw [Array.setIfInBounds_comm _ _ hji]
     exact h3.2.2
theorem AnyH_take (hF:∀ f,F.fn f) (hnd:ops.all notDefer = true) {i:Nat} {oi:Oper} {v:Value} {fuel:Nat} {listed:Array Bool} {a:Act} {w:World} (hi:ops[i]? = some oi)
 (hs:Region.noSelect ops = true) (hf:Region.free md ops listed i = true) (hr:(Region.ready md ops listed).contains i = true)
 (hQ:∀ c a w,Q (.panic c) (a.put oi.dst v) w→Q (.panic c) a w) (hy:YIf P ops S oi v a) (hS:S w)
 (h:AnyH F n P md ops Q S fuel (listed.setIfInBounds i true) (a.put oi.dst v) w):AnyH F n P md ops Q S (fuel + 1) listed a w:=
 AnyH_first hF hnd hi (Region.noSelect_spec hs) hQ fuel listed a w (Region.free_spec hi hf) (by simpa using hr) hy hS h
theorem AnyH_takeD (hF:∀ f,F.fn f) (hnd:ops.all notDefer = true) (i t:Nat) (v:Value) {oi:Oper} {fuel:Nat} {listed:Array Bool} {a:Act} {w:World} (hi:ops[i]? = some oi) (hd:oi.dst = some t)
 (hs:Region.noSelect ops = true) (hf:Region.free md ops listed i = true) (hr:(Region.ready md ops listed).contains i = true)
 (hQ:∀ c a w,Q (.panic c) (a.put (some t) v) w→Q (.panic c) a w) (hy:YIf P ops S oi v a) (hS:S w)
 (h:AnyH F n P md ops Q S fuel (listed.setIfInBounds i true) (a.put (some t) v) w):AnyH F n P md ops Q S (fuel + 1) listed a w:=
 AnyH_take hF hnd hi hs hf hr (by rw [hd];exact hQ) hy hS (by rw [hd];exact h)
theorem tkY (i t:Nat) (v:Value) {oi:Oper} {fuel:Nat} {listed:Array Bool} {a:Act} {w:World} (hi:ops[i]? = some oi) (hd:oi.dst = some t) (hS:S w) (hy:∀ w,S w→(execOp a.eval oi).run P w = .ok (.value v) w)
 (h:AnyH F n P md ops Q S fuel (listed.setIfInBounds i true) (a.put (some t) v) w)
 (hF:∀ f,F.fn f:=by exact fun _=>trivial) (hnd:ops.all notDefer = true:=by kernel_rfl) (hs:Region.noSelect ops = true:=by kernel_rfl) (hf:Region.free md ops listed i = true:=by kernel_rfl) (hr:(Region.ready md ops listed).contains i = true:=by kernel_rfl)
 (hQ:∀ c a w,Q (.panic c) (a.put (some t) v) w→Q (.panic c) a w:=by exact fun _ _ _ h=>h) (hw:Region.wanted oi (yielded ops a.tmps) = true:=by kernel_rfl):AnyH F n P md ops Q S (fuel + 1) listed a w:=
 AnyH_takeD hF hnd i t v hi hd hs hf hr hQ (.inl ⟨hw,hy⟩) hS h
theorem tkN (i t:Nat) {oi:Oper} {fuel:Nat} {listed:Array Bool} {a:Act} {w:World} (hi:ops[i]? = some oi) (hd:oi.dst = some t) (hS:S w)
 (h:AnyH F n P md ops Q S fuel (listed.setIfInBounds i true) (a.put (some t) undef) w)
 (hF:∀ f,F.fn f:=by exact fun _=>trivial) (hnd:ops.all notDefer = true:=by kernel_rfl) (hs:Region.noSelect ops = true:=by kernel_rfl) (hf:Region.free md ops listed i = true:=by kernel_rfl) (hr:(Region.ready md ops listed).contains i = true:=by kernel_rfl)
 (hQ:∀ c a w,Q (.panic c) (a.put (some t) undef) w→Q (.panic c) a w:=by exact fun _ _ _ h=>h) (hw:Region.wanted oi (yielded ops a.tmps) = false:=by kernel_rfl):AnyH F n P md ops Q S (fuel + 1) listed a w:=
 AnyH_takeD hF hnd i t undef hi hd hs hf hr hQ (.inr ⟨hw,rfl⟩) hS h
theorem AnyH_one {i:Nat} {o:Oper} {fuel:Nat} {listed:Array Bool} {a:Act} {w:World} (hr:Region.ready md ops listed = [i]) (ho:ops[i]? = some o) (hw:Region.wanted o (yielded ops a.tmps) = true)
 (h:∀ K:Act→World→Prop,(∀ a w,S w∧AnyH F n P md ops Q S fuel (listed.setIfInBounds i true) a w→K a w)→Oper.wpIn F n P o a w K Q):AnyH F n P md ops Q S (fuel + 1) listed a w:=
 ⟨fun h0=>(by rw [hr] at h0;cases h0),hr ▸ fun j hj=>by
   obtain rfl:j = i:=by simpa using hj
   unfold wpOpIn
   rw [ho]
   simp only [hw,if_true]
   exact h _ fun _ _ h=>h⟩
theorem AnyH_done {fuel:Nat} {listed:Array Bool} {a:Act} {w:World} (hr:Region.ready md ops listed = []) (h:Q .normal a w):AnyH F n P md ops Q S fuel listed a w:=by
 cases fuel with
 | zero=>exact ⟨hr,h⟩
 | succ f=>exact ⟨fun _=>h,fun i hi=>(by rw [hr] at hi;cases hi)⟩
theorem region_held {id:Nat} {a:Act} {w:World} (S:World→Prop) (hm:P.follows .mixedOrders = true)
 (h:AnyH F n P .any ops Q S ops.size (Array.replicate ops.size false) a w.drew):(Code.region id ops true).wpIn F n P Q a w:=
 wpIn_region_any hm (any_of_held _ _ _ _ h)
end
end Go.Proofs.LF
namespace Go.Proofs.LF
def treG:Nat→Nat→List Fl→Fo × Nat
 | 0,_,_=>(.nil,0)
 | _ + 1,_,[]=>(.nil,0)
 | f + 1,d,x :: l=>
   if h:x.p.length = d + 1 then
    let a:=treG f (d + 1) l
    let b:=treG f d (l.drop a.2)
    (.cons x.p[d].n x.l a.1 b.1,1 + a.2 + b.2)
   else (.nil,0)
theorem treG_le:∀ (f d:Nat) (l:List Fl),(treG f d l).2 ≤ l.length
 | 0,_,_=>by simp [treG]
 | _ + 1,_,[]=>by simp [treG]
 | f + 1,d,x :: l=>by
   simp only [treG]
   split
   · have h1:=treG_le f (d + 1) l
     have h2:=treG_le f d (l.drop (treG f (d + 1) l).2)
     rw [List.length_drop] at h2
     simp only [List.length_cons];omega
   · simp
theorem treG_fuel:∀ (f d:Nat) (l:List Fl),l.length ≤ f→treG f d l = treG l.length d l
 | 0,_,[],_=>rfl
 | 0,_,_ :: _,h=>by simp at h
 | _ + 1,_,[],_=>by simp [treG]
 | f + 1,d,x :: l,h=>by
   have h':l.length ≤ f:=by simpa using h
   simp only [treG,List.length_cons]
   split
   · rw [treG_fuel f (d + 1) l h',treG_fuel f d _ (by rw [List.length_drop];omega),treG_fuel l.length d _ (by rw [List.length_drop];omega)]
   · rfl
def treF (d:Nat) (l:List Fl):Fo × Nat:=treG l.length d l
theorem treF_nil (d:Nat):treF d [] = (.nil,0):=rfl
theorem treF_no {d:Nat} {x:Fl} {l:List Fl} (h:x.p.length ≠ d + 1):treF d (x :: l) = (.nil,0):=by
 simp [treF,treG,h]
theorem treF_yes {d:Nat} {x:Fl} {l:List Fl} (h:x.p.length = d + 1):treF d (x :: l) =
 (.cons x.p[d].n x.l (treF (d + 1) l).1 (treF d (l.drop (treF (d + 1) l).2)).1,1 + (treF (d + 1) l).2 + (treF d (l.drop (treF (d + 1) l).2)).2):=by
 simp only [treF,List.length_cons,treG,h,dif_pos]
 rw [treG_fuel l.length d _ (by rw [List.length_drop];omega)]
theorem treF_le (d:Nat) (l:List Fl):(treF d l).2 ≤ l.length:=treG_le _ _ _
def flsL (up:List Ky) (y:Fo):List Fl:=(nodesL up y).map fun x=>⟨x.up ++ [kyOf x.n x.l],x.l⟩
theorem flsL_nil (up:List Ky):flsL up .nil = []:=rfl
theorem flsL_cons (up:List Ky) (n:List UInt8) (l:List Int) (s r:Fo):flsL up (.cons n l s r) = ⟨up ++ [kyOf n l],l⟩ :: (flsL (up ++ [kyOf n l]) s ++ flsL up r):=by
 simp [flsL,nodesL]
theorem flsL_length (up:List Ky) (y:Fo):(flsL up y).length = y.cnt:=by simp [flsL,nodesL_length]
def Above (d:Nat) (l:List Fl):Prop:=∀ x,l.head? = some x→x.p.length ≤ d
theorem treF_fls:∀ (y:Fo) (up:List Ky) (rest:List Fl),Above up.length rest→treF up.length (flsL up y ++ rest) = (y,y.cnt)
 | .nil,up,rest,h=>by
   cases rest with
   | nil=>rfl
   | cons x rest=>exact treF_no (by have:=h x rfl;omega)
 | .cons n l s r,up,rest,h=>by
   rw [flsL_cons,List.cons_append,List.append_assoc,treF_yes (by simp)]
   have h1:treF (up.length + 1) (flsL (up ++ [kyOf n l]) s ++ (flsL up r ++ rest)) = (s,s.cnt):=by
    have:=treF_fls s (up ++ [kyOf n l]) (flsL up r ++ rest) (fun x hx=>by
     cases r with
     | nil=>have:=h x (by simpa [flsL_nil] using hx);simp;omega
     | cons n' l' s' r'=>rw [flsL_cons] at hx;simp at hx;subst hx;simp)
    simpa using this
   rw [h1]
   simp only
   rw [show (flsL (up ++ [kyOf n l]) s ++ (flsL up r ++ rest)).drop s.cnt = flsL up r ++ rest by rw [← flsL_length (up ++ [kyOf n l]) s];simp]
   rw [treF_fls r up rest h]
   simp [kyOf_n,Fo.cnt]
theorem treF_flsL (y:Fo):(treF 0 (flsL [] y)).1 = y:=by
 have:=treF_fls y [] [] (fun x hx=>by cases hx)
 simp only [List.append_nil,List.length_nil] at this
 rw [this]
end Go.Proofs.LF
namespace Go.Proofs.LF
open Go.RowKit
def Uf (w:World) (q:Nat):Prop:=∃ cs t,w.heap[q]? = some (.cells cs t (0,0))
def US (S:Nat→Prop) (w:World) (q:Nat):Prop:=S q∧Uf w q
abbrev IntU (S:Nat→Prop) (w:World) (v:Value) (l:List Int):Prop:=Ints (US S w) w v l
abbrev FCsU (S:Nat→Prop) (w:World) (y:Fo) (cs:List Value):Prop:=FCs (US S w) w y cs
abbrev FSlU (S:Nat→Prop) (w:World) (v:Value) (y:Fo):Prop:=FSl (US S w) w v y
theorem US.agree {S:Nat→Prop} {w w':World} (ha:Agree S w w'):Agree (US S w) w w'∧∀ q,US S w q→US S w' q:=
 ⟨fun q hq=>ha q hq.1,fun q hq=>⟨hq.1,let ⟨cs,t,h⟩:=hq.2;⟨cs,t,(ha q hq.1).trans h⟩⟩⟩
theorem US.wide {S S':Nat→Prop} {w:World} (hs:∀ b,S b→S' b):∀ q,US S w q→US S' w q:=fun q hq=>⟨hs q hq.1,hq.2⟩
theorem IntU.agree {S:Nat→Prop} {w w':World} {v:Value} {l:List Int} (h:IntU S w v l) (ha:Agree S w w'):IntU S w' v l:=(Ints.agree h (US.agree ha).1).wide (US.agree ha).2
theorem IntU.wide {S S':Nat→Prop} {w:World} {v:Value} {l:List Int} (h:IntU S w v l) (hs:∀ b,S b→S' b):IntU S' w v l:=Ints.wide h (US.wide hs)
theorem FCsU.agree {S:Nat→Prop} {w w':World} {y:Fo} {cs:List Value} (h:FCsU S w y cs) (ha:Agree S w w'):FCsU S w' y cs:=(FCs.agree (US.agree ha).1 h).wide (US.agree ha).2
theorem FCsU.wide {S S':Nat→Prop} {w:World} {y:Fo} {cs:List Value} (h:FCsU S w y cs) (hs:∀ b,S b→S' b):FCsU S' w y cs:=FCs.wide (US.wide hs) h
theorem FSlU.agree {S:Nat→Prop} {w w':World} {v:Value} {y:Fo} (h:FSlU S w v y) (ha:Agree S w w'):FSlU S w' v y:=(FSl.agree h (US.agree ha).1).wide (US.agree ha).2
theorem FSlU.wide {S S':Nat→Prop} {w:World} {v:Value} {y:Fo} (h:FSlU S w v y) (hs:∀ b,S b→S' b):FSlU S' w v y:=FSl.wide h (US.wide hs)
theorem FCsU.app {S:Nat→Prop} {w:World} {y z:Fo} {cs ds:List Value} (h:FCsU S w y cs) (k:FCsU S w z ds):FCsU S w (y.app z) (cs ++ ds):=FCs.app h k
theorem FCsU.one {S:Nat→Prop} {w:World} {n:List UInt8} {l:List Int} {s:Fo} {vn vs:Value} (h1:IntU S w vn l) (h2:FSlU S w vs s):FCsU S w (.cons n l s .nil) [.string (bs n),vn,vs]:=FCs.one h1 h2
theorem FSlU.fsl {S:Nat→Prop} {w:World} {v:Value} {y:Fo} (h:FSlU S w v y):FSl S w v y:=FSl.wide h fun q hq=>hq.1
theorem Stable.intu (v:Value) (l:List Int):Stable (fun S w=>IntU S w v l):=⟨fun h=>IntU.agree h,fun h=>IntU.wide h⟩
theorem Stable.fslu (v:Value) (y:Fo):Stable (fun S w=>FSlU S w v y):=⟨fun h=>FSlU.agree h,fun h=>FSlU.wide h⟩
theorem Stable.fcsu (y:Fo) (cs:List Value):Stable (fun S w=>FCsU S w y cs):=⟨fun h ha=>FCsU.agree h ha,fun h hw=>FCsU.wide h hw⟩
theorem SlC.of_owns_u {w:World} {base e k n:Nat} {v:Value} {xs:List Value} (h:w.ownsRow base e k v n xs):SlC (US (Rg base w.heap.size) w) w k v n xs:=by
 obtain ⟨h1,h2⟩:=h
 refine ⟨h1,?_⟩
 rcases h2 with ⟨rfl,rfl⟩ | ⟨g,cap,cur,rfl,hb,hg,hn,hc,hs,ht⟩
 · exact ⟨none,0,rfl,by omega,by simp [maxLen],fun _=>rfl, .inl rfl⟩
 · refine ⟨_,cap,rfl,hn,hc,(fun h=>by cases h), .inr ⟨g,0,rfl,⟨⟨hb,(Array.getElem?_eq_some_iff.1 hg).1⟩,_,_,hg⟩,fun j u hj=>?_⟩⟩
   simp only [World.cell?,hg,Nat.zero_add]
   rw [← ht,List.getElem?_take] at hj
   split at hj
   · simpa using hj
   · cases hj
end Go.Proofs.LF
namespace Go.Proofs.LF
structure Cmp {α:Type} (f:α→α→Int):Prop where
 refl:∀ a,f a a = 0
 eq:∀ {a b},f a b = 0→a = b
 flip:∀ {a b},f a b < 0→0 < f b a
 flop:∀ {a b},0 < f a b→f b a < 0
 trans:∀ {a b c},f a b < 0→f b c < 0→f a c < 0
theorem cmpI_ord:Cmp cmpI where
 refl a:=by simp [cmpI]
 eq {a b} h:=by unfold cmpI at h;split at h <;> (try split at h) <;> omega
 flip {a b} h:=by unfold cmpI at *;split at h <;> (try split at h) <;> (repeat' split) <;> omega
 flop {a b} h:=by unfold cmpI at *;split at h <;> (try split at h) <;> (repeat' split) <;> omega
 trans {a b c} h k:=by
  unfold cmpI at *
  split at h <;> (try split at h) <;> split at k <;> (try split at k) <;> (repeat' split) <;> omega
theorem bl_cons (a b:UInt8) (x y:List UInt8):Op.bytesLess (a :: x) (b :: y) = (decide (a < b) || (a == b && Op.bytesLess x y)):=rfl
theorem bl_asymm:∀ {a b:List UInt8},Op.bytesLess a b = true→Op.bytesLess b a = false
 | [],[],h=>by simp [Op.bytesLess] at h
 | [],_ :: _,_=>by simp [Op.bytesLess]
 | _ :: _,[],h=>by simp [Op.bytesLess] at h
 | a :: x,b :: y,h=>by
   rw [bl_cons] at *
   simp only [Bool.or_eq_true,decide_eq_true_eq,Bool.and_eq_true,beq_iff_eq,Bool.or_eq_false_iff,decide_eq_false_iff_not,Bool.and_eq_false_iff,beq_eq_false_iff_ne,ne_eq,UInt8.lt_iff_toNat_lt] at *
   rcases h with h | ⟨rfl,h⟩
   · exact ⟨by omega, .inl (fun e=>by subst e;omega)⟩
   · exact ⟨by omega, .inr (bl_asymm h)⟩
theorem bl_trans:∀ {a b c:List UInt8},Op.bytesLess a b = true→Op.bytesLess b c = true→Op.bytesLess a c = true
 | _,[],_,h,_=>by cases ‹List UInt8› <;> simp [Op.bytesLess] at h
 | _,_ :: _,[],_,k=>by simp [Op.bytesLess] at k
 | [],_ :: _,_ :: _,_,_=>by simp [Op.bytesLess]
 | a :: x,b :: y,c :: z,h,k=>by
   rw [bl_cons] at *
   simp only [Bool.or_eq_true,decide_eq_true_eq,Bool.and_eq_true,beq_iff_eq,UInt8.lt_iff_toNat_lt] at *
   rcases h with h | ⟨rfl,h⟩ <;> rcases k with k | ⟨rfl,k⟩
   · exact .inl (by omega)
   · exact .inl h
   · exact .inl k
   · exact .inr ⟨rfl,bl_trans h k⟩
theorem cmpB_lt {a b:List UInt8}:cmpB a b < 0 ↔ Op.bytesLess a b = true:=by
 unfold cmpB
 cases h:Op.bytesLess a b <;> simp
 split <;> omega
theorem cmpB_gt {a b:List UInt8}:0 < cmpB a b ↔ Op.bytesLess b a = true:=by
 unfold cmpB
 cases h:Op.bytesLess a b
 · cases k:Op.bytesLess b a <;> simp
 · simp [bl_asymm h]
theorem cmpB_ord:Cmp cmpB where
 refl a:=by simp [cmpB,bl_irrefl]
 eq {a b} h:=by
  have h1:Op.bytesLess a b = false:=by cases e:Op.bytesLess a b;rfl;have:=cmpB_lt.2 e;omega
  have h2:Op.bytesLess b a = false:=by cases e:Op.bytesLess b a;rfl;have:=cmpB_gt.2 e;omega
  exact bl_total h1 h2
 flip {a b} h:=cmpB_gt.2 (cmpB_lt.1 h)
 flop {a b} h:=cmpB_lt.2 (cmpB_gt.1 h)
 trans {a b c} h k:=cmpB_lt.2 (bl_trans (cmpB_lt.1 h) (cmpB_lt.1 k))
theorem byK_same {a b:Ky} (hn:a.n = b.n) (hh:a.h = b.h):byK a b = cmpI a.x b.x:=by simp [byK,hn,hh]
theorem byK_name {a b:Ky} (hn:a.n ≠ b.n):byK a b = cmpB a.n b.n:=by simp [byK,hn]
theorem byK_has {a b:Ky} (hn:a.n = b.n) (hh:a.h ≠ b.h):byK a b = if b.h then -1 else 1:=by simp [byK,hn,hh]
theorem byK_ord:Cmp byK where
 refl a:=by rw [byK_same rfl rfl,cmpI_ord.refl]
 eq {a b} h:=by
  by_cases hn:a.n = b.n
  · by_cases hh:a.h = b.h
    · rw [byK_same hn hh] at h
      have hx:=cmpI_ord.eq h
      cases a;cases b;simp_all
    · rw [byK_has hn hh] at h;split at h <;> omega
  · rw [byK_name hn] at h;exact absurd (cmpB_ord.eq h) hn
 flip {a b} h:=by
  by_cases hn:a.n = b.n
  · by_cases hh:a.h = b.h
    · rw [byK_same hn hh] at h;rw [byK_same hn.symm hh.symm];exact cmpI_ord.flip h
    · rw [byK_has hn hh] at h;rw [byK_has hn.symm (Ne.symm hh)]
      cases h1:a.h <;> cases h2:b.h <;> simp_all
  · rw [byK_name hn] at h;rw [byK_name (Ne.symm hn)];exact cmpB_ord.flip h
 flop {a b} h:=by
  by_cases hn:a.n = b.n
  · by_cases hh:a.h = b.h
    · rw [byK_same hn hh] at h;rw [byK_same hn.symm hh.symm];exact cmpI_ord.flop h
    · rw [byK_has hn hh] at h;rw [byK_has hn.symm (Ne.symm hh)]
      cases h1:a.h <;> cases h2:b.h <;> simp_all
  · rw [byK_name hn] at h;rw [byK_name (Ne.symm hn)];exact cmpB_ord.flop h
 trans {a b c} h k:=by
  by_cases hn:a.n = b.n
  · by_cases kn:b.n = c.n
    · by_cases hh:a.h = b.h
      · by_cases kh:b.h = c.h
        · rw [byK_same hn hh] at h;rw [byK_same kn kh] at k;rw [byK_same (hn.trans kn) (hh.trans kh)];exact cmpI_ord.trans h k
        · rw [byK_has kn kh] at k;rw [byK_has (hn.trans kn) (by rw [hh];exact kh)];exact k
      · by_cases kh:b.h = c.h
        · rw [byK_has hn hh] at h;rw [byK_has (hn.trans kn) (by rw [← kh];exact hh),← kh];exact h
        · rw [byK_has hn hh] at h;rw [byK_has kn kh] at k
          cases h1:a.h <;> cases h2:b.h <;> cases h3:c.h <;> simp_all
    · rw [byK_name kn] at k;rw [byK_name (by rw [hn];exact kn),hn];exact k
  · by_cases kn:b.n = c.n
    · rw [byK_name hn] at h;rw [byK_name (by rw [← kn];exact hn),← kn];exact h
    · rw [byK_name hn] at h;rw [byK_name kn] at k
      have:=cmpB_ord.trans h k
      rw [byK_name (fun e=>by rw [e,cmpB_ord.refl] at this;omega)];exact this
theorem cmpP_ord:Cmp cmpP:=by
 have key:∀ (a b:List Ky),(cmpP a b < 0→0 < cmpP b a)∧(0 < cmpP a b→cmpP b a < 0)∧(cmpP a b = 0→a = b):=by
  intro a
  induction a with
  | nil=>intro b;cases b <;> simp [cmpP]
  | cons x a ih=>
    intro b
    cases b with
    | nil=>simp [cmpP]
    | cons y b=>
      simp only [cmpP]
      by_cases h:byK x y = 0
      · obtain rfl:=byK_ord.eq h
        simp only [h,ne_eq,not_true,if_false]
        have:=ih b
        exact ⟨this.1,this.2.1,fun e=>by rw [this.2.2 e]⟩
      · have h':byK y x ≠ 0:=fun e=>h (by rw [byK_ord.eq e,byK_ord.refl])
        simp only [ne_eq,h,h',not_false_eq_true,if_true]
        exact ⟨byK_ord.flip,byK_ord.flop,fun e=>absurd e (by simpa using h)⟩
 have rf:∀ a:List Ky,cmpP a a = 0:=by
  intro a
  induction a with
  | nil=>rfl
  | cons x a ih=>simp [cmpP,byK_ord.refl,ih]
 refine ⟨rf,fun {a b}=>(key a b).2.2,fun {a b}=>(key a b).1,fun {a b}=>(key a b).2.1,fun {a b c}=>?_⟩
 induction a generalizing b c with
 | nil=>
   intro h k
   cases b with
   | nil=>simp [cmpP] at h
   | cons y b=>cases c with
     | nil=>simp [cmpP] at k
     | cons z c=>simp [cmpP]
 | cons x a ih=>
   intro h k
   cases b with
   | nil=>simp [cmpP] at h
   | cons y b=>cases c with
     | nil=>simp [cmpP] at k
     | cons z c=>
       simp only [cmpP] at h k ⊢
       by_cases h1:byK x y = 0
       · obtain rfl:=byK_ord.eq h1
         simp only [h1,ne_eq,not_true,if_false] at h
         by_cases h2:byK x z = 0
         · simp only [h2,ne_eq,not_true,if_false] at k ⊢;exact ih h k
         · simp only [h2,ne_eq,not_false_eq_true,if_true] at k ⊢;exact k
       · simp only [h1,ne_eq,not_false_eq_true,if_true] at h
         by_cases h2:byK y z = 0
         · obtain rfl:=byK_ord.eq h2
           simp only [h1,ne_eq,not_false_eq_true,if_true];exact h
         · simp only [h2,ne_eq,not_false_eq_true,if_true] at k
           have h3:=byK_ord.trans h k
           have h4:byK x z ≠ 0:=by omega
           simp only [h4,ne_eq,not_false_eq_true,if_true];exact h3
end Go.Proofs.LF
namespace Go.Proofs.LF
open Go.RowKit
variable {P:Program}
theorem ins_cells {cur:List Value} {cs news:List Value} {i n k cap:Nat} (hk:news.length = k) (hcs:cur.take (n * k) = cs) (hcl:cs.length = n * k) (hi:i ≤ n) (hc:n + 1 ≤ cap) (hs:cur.length = cap * k)
 {c1:List Value} (h1:c1 = cur.take ((i + 1) * k) ++ cs.drop (i * k) ++ cur.drop ((i + 1) * k + (cs.drop (i * k)).length)) :
 (c1.take (i * k) ++ news ++ c1.drop (i * k + news.length)).take ((n + 1) * k) = cs.take (i * k) ++ (news ++ cs.drop (i * k))∧(c1.take (i * k) ++ news ++ c1.drop (i * k + news.length)).length = cap * k∧c1.length = cap * k:=by
 have hik:i * k ≤ n * k:=Nat.mul_le_mul_right k hi
 have hnk:n * k + k ≤ cap * k:=by have:=Nat.mul_le_mul_right k hc;rw [Nat.add_mul] at this;omega
 have e1:(i + 1) * k = i * k + k:=by rw [Nat.add_mul];omega
 have e2:(n + 1) * k = n * k + k:=by rw [Nat.add_mul];omega
 obtain ⟨A,hA⟩:∃ A,i * k = A:=⟨_,rfl⟩
 obtain ⟨N,hN⟩:∃ N,n * k = N:=⟨_,rfl⟩
 obtain ⟨C,hC⟩:∃ C,cap * k = C:=⟨_,rfl⟩
 rw [e1,hA] at h1
 rw [e2,hA,hN]
 rw [hA,hN] at hik
 rw [hN] at hnk hcs hcl
 rw [hC] at hnk hs ⊢
 subst hk
 have hdl:(cs.drop A).length = N - A:=by rw [List.length_drop,hcl]
 have l1:c1.length = C:=by
  rw [h1];simp only [List.length_append,List.length_take,List.length_drop,hcl,hs];omega
 have hcA:cs.take A = cur.take A:=by rw [← hcs,List.take_take,Nat.min_eq_left hik]
 have t1:c1.take A = cs.take A:=by
  rw [h1,List.append_assoc,List.take_append_of_le_length (by rw [List.length_take];omega),List.take_take,Nat.min_eq_left (by omega),hcA]
 have t2:c1.drop (A + news.length) = cs.drop A ++ cur.drop (A + news.length + (N - A)):=by
  rw [h1,hdl,List.append_assoc]
  have e3:(cur.take (A + news.length)).length = A + news.length:=by rw [List.length_take];omega
  rw [List.drop_append_of_le_length (by omega),List.drop_of_length_le (by omega),List.nil_append]
 refine ⟨?_,?_,l1⟩
 · rw [t1,t2]
   have hl:(cs.take A ++ (news ++ cs.drop A)).length = N + news.length:=by
    simp only [List.length_append,List.length_take,hdl,hcl];omega
   rw [show cs.take A ++ news ++ (cs.drop A ++ cur.drop (A + news.length + (N - A))) = (cs.take A ++ (news ++ cs.drop A)) ++ cur.drop (A + news.length + (N - A)) by simp]
   rw [← hl,List.take_left']
   rfl
 · simp only [List.length_append,List.length_take,List.length_drop,l1];omega
theorem ins_cells2 {cs news z:List Value} {i n k:Nat} (hk:news.length = k) (hcl:cs.length = n * k) (hi:i ≤ n) {r0 c1:List Value} (h0:r0 = cs.take (i * k) ++ z) (hz:(n + 1 - i) * k ≤ z.length)
 (h1:c1 = r0.take (i * k) ++ news ++ r0.drop (i * k + news.length)) :
 (c1.take ((i + 1) * k) ++ cs.drop (i * k) ++ c1.drop ((i + 1) * k + (cs.drop (i * k)).length)).take ((n + 1) * k) = cs.take (i * k) ++ (news ++ cs.drop (i * k))∧(c1.take ((i + 1) * k) ++ cs.drop (i * k) ++ c1.drop ((i + 1) * k + (cs.drop (i * k)).length)).length = r0.length∧c1.length = r0.length:=by
 have hik:i * k ≤ n * k:=Nat.mul_le_mul_right k hi
 have e1:(i + 1) * k = i * k + k:=by rw [Nat.add_mul];omega
 have e2:(n + 1) * k = n * k + k:=by rw [Nat.add_mul];omega
 have e3:(n + 1 - i) * k = n * k + k - i * k:=by rw [Nat.mul_comm,Nat.mul_sub,Nat.mul_comm k,Nat.mul_comm k,e2]
 rw [e1,e2]
 rw [e3] at hz
 obtain ⟨A,hA⟩:∃ A,i * k = A:=⟨_,rfl⟩
 obtain ⟨N,hN⟩:∃ N,n * k = N:=⟨_,rfl⟩
 rw [hA] at h0 h1 ⊢
 rw [hA,hN] at hz hik
 rw [hN] at hcl ⊢
 subst hk
 have hdl:(cs.drop A).length = N - A:=by rw [List.length_drop,hcl]
 have hta:(cs.take A).length = A:=by rw [List.length_take];omega
 have l0:r0.length = A + z.length:=by rw [h0,List.length_append,hta]
 have t0:r0.take A = cs.take A:=by rw [h0,List.take_append_of_le_length (by omega),List.take_of_length_le (by omega)]
 have l1:c1.length = r0.length:=by rw [h1];simp only [List.length_append,List.length_take,List.length_drop];omega
 have t1:c1.take (A + news.length) = cs.take A ++ news:=by
  rw [h1,t0,List.take_append_of_le_length (by rw [List.length_append];omega),List.take_of_length_le (by rw [List.length_append];omega)]
 refine ⟨?_,?_,l1⟩
 · rw [t1]
   have hl:(cs.take A ++ (news ++ cs.drop A)).length = N + news.length:=by
    simp only [List.length_append,hta,hdl];omega
   rw [show cs.take A ++ news ++ cs.drop A ++ c1.drop (A + news.length + (cs.drop A).length) = (cs.take A ++ (news ++ cs.drop A)) ++ c1.drop (A + news.length + (cs.drop A).length) by simp]
   rw [← hl,List.take_left']
   rfl
 · simp only [List.length_append,List.length_take,List.length_drop,l1];omega
theorem step_copyRow {w:World} {ops:Array Oper} {o:Oper} {a:Act} {K:Act→World→Prop} {Q:Exit→Act→World→Prop} {E:Prop} (hgd:o.guard = none) (d s:Operand) (dT sT:TypeId)
 (ho:o.op = .call { callee := .builtin .copy,args:=#[d,s],argTypes:=#[dT,sT] }) (v u:Value) (hd:a.eval d = v) (hs:a.eval s = u) {v':Value} {w':World}
 (hr:(Builtin.copy_ #[dT,sT] o.type #[v,u]).run P w = .ok v' w') (h:K (a.put o.dst v') w'):if Region.wanted o (yielded ops a.tmps) = true then Oper.wp P o a w K Q else E:=by
 have hw:Region.wanted o (yielded ops a.tmps) = true:=by simp [Region.wanted,hgd]
 rw [if_pos hw]
 unfold Oper.wp execOp
 simp only [ho,resolve,invoke,builtin,Sem.run_bind,Sem.run_pure,Result.andThen_ok,List.map_toArray,List.map_cons,List.map_nil,hd,hs,hr]
 exact h
theorem wpList_copyRow {w:World} {ops:Array Oper} {rest:List Oper} {o:Oper} {a:Act} {Q:Exit→Act→World→Prop} (hgd:o.guard = none) (d s:Operand) (dT sT:TypeId)
 (ho:o.op = .call { callee := .builtin .copy,args:=#[d,s],argTypes:=#[dT,sT] }) (v u:Value) (hd:a.eval d = v) (hs:a.eval s = u) {v':Value} {w':World}
 (hr:(Builtin.copy_ #[dT,sT] o.type #[v,u]).run P w = .ok v' w') (h:wpList P ops Q rest (a.put o.dst v') w'):wpList P ops Q (o :: rest) a w:=by
 refine wpList_plain hgd fun K hK=>?_
 unfold Oper.wp execOp
 simp only [ho,resolve,invoke,builtin,Sem.run_bind,Sem.run_pure,Result.andThen_ok,List.map_toArray,List.map_cons,List.map_nil,hd,hs,hr]
 exact hK _ _ h
end Go.Proofs.LF
namespace Go.Proofs.LF
open Go.RowKit
variable {α:Type} {k:Nat}
structure RowS (r:Rd α k) (e:TypeId) (S:Nat→Prop) (lo:Nat) (W:World) (v:Value) (xs:List α):Prop where
 row:∃ cs,W.ownsRow lo e k v xs.length cs∧LCs r S W xs cs
variable {r:Rd α k} {e:TypeId} {S:Nat→Prop} {lo:Nat} {W:World} {v:Value} {xs:List α}
theorem RowS.nil {w:Nat} (W:World):RowS r e S w W (.slice none 0 0) []:=⟨[],World.ownsRow_nil _ _ _ _,rfl⟩
theorem RowS.below {W':World} (h:RowS r e S lo W v xs) (hS:∀ b,S b→b < W.heap.size) (hb:Below W.heap.size W W'):RowS r e S lo W' v xs:=by
 obtain ⟨cs,h1,h2⟩:=h.row
 exact ⟨cs,ob_ h1 hb (nl_ _),h2.agree (Ag_b hb hS)⟩
theorem RowS.kept {W':World} {row:Option Nat} (h:RowS r e S lo W v xs) (hS:∀ b,S b→b < W.heap.size∧row ≠ some b) (hg:W.grownBy W' row) (hn:v.ownBlock = none ∨ v.ownBlock ≠ row):RowS r e S lo W' v xs:=by
 obtain ⟨cs,h1,h2⟩:=h.row
 exact ⟨cs,h1.kept hg hn,h2.agree (Agree.grown hg hS)⟩
theorem RowS.shape (h:RowS r e S lo W v xs):∃ a c,v = .slice a xs.length c∧xs.length ≤ c∧c ≤ maxLen:=by
 obtain ⟨cs,h1,_⟩:=h.row
 exact owns_shape h1
theorem RowS.lsl (h:RowS r e S lo W v xs):LSl r (fun b=>S b ∨ Rg lo W.heap.size b) W v xs:=by
 obtain ⟨cs,h1,h2⟩:=h.row
 exact ⟨cs,(SlC.of_owns h1).wide fun b hb => .inr hb,h2.wide fun b hb => .inl hb⟩
theorem RowS.lt (h:RowS r e S lo W v xs):∀ b,v.ownBlock = some b→lo ≤ b∧b < W.heap.size:=by
 obtain ⟨cs,h1,_⟩:=h.row
 exact fun b hb=>h1.lt b hb
theorem RowS.wide {S':Nat→Prop} (h:RowS r e S lo W v xs) (hs:∀ b,S b→S' b):RowS r e S' lo W v xs:=by
 obtain ⟨cs,h1,h2⟩:=h.row
 exact ⟨cs,h1,h2.wide hs⟩
theorem RowS.push {W':World} {v':Value} {cs:List Value} {y:α} {yc:List Value} (hS:∀ b,S b→b < lo) (hlo:lo ≤ W.heap.size) (hl:LCs r S W xs cs) (hy:r.R S W y yc) (hlt:∀ b,v.ownBlock = some b→lo ≤ b) (hown:W'.ownsRow lo e k v' (xs.length + 1) (cs ++ yc)) (hg:W.grownBy W' v.ownBlock):RowS r e S lo W' v' (xs ++ [y]):=by
 have ha:Agree S W W':=Agree.grown hg fun b hb=>⟨by have:=hS b hb;omega,fun e=>by have:=hlt b e;have:=hS b hb;omega⟩
 exact ⟨cs ++ yc,by rw [List.length_append];exact hown,(hl.agree ha).app (LCs.single (r.agree hy ha))⟩
theorem wpList_push {P:Program} {ops:Array Oper} {rest:List Oper} {o:Oper} {a:Act} {Q:Exit→Act→World→Prop} (hgd:o.guard = none) (s x:Operand) (t:TypeId)
 (ho:o.op = .call { callee := .builtin .append,args:=#[s,x],argTypes:=#[t,t] })
 (i:TypeInfo) (z:Value) (bytes:Nat) (ht:P.underlying t = some (.slice e)) (hi:P.info? e = some i) (hz:i.zero = some z)
 (hsize:i.size = k) (hby:i.bytes = bytes) (hzs:z.cells.size = k) (hsz:0 < k)
 (hs:a.eval s = v) (hrow:RowS r e S lo W v xs) (hS:∀ b,S b→b < lo) (hlo:lo ≤ W.heap.size) (y:α) (yc:List Value) (b0:Nat) (hx:a.eval x = .slice (some ⟨b0,0,none⟩) 1 1)
 (hblk:W.heap[b0]? = some (.cells yc.toArray e (0,0))) (hy:r.R S W y yc)
 (h63:xs.length + 1 ≤ maxLen) (hbytes:(xs.length + 1) * bytes ≤ 140737488355328)
 (h:∀ v' w',RowS r e S lo w' v' (xs ++ [y])→W.grownBy w' v.ownBlock→(∀ g,v'.ownBlock = some g→v.ownBlock = some g ∨ g = W.heap.size)→(∀ W00,Below lo W00 W→Below lo W00 w')→wpList P ops Q rest (a.put o.dst v') w'):wpList P ops Q (o :: rest) a W:=by
 obtain ⟨cs,hown,hl⟩:=hrow.row
 refine wpList_append_ao W hgd s x t ho lo e i z k bytes ht hi hz hsize hby hzs hsz v xs.length cs hs hown (some ⟨b0,0,none⟩) 1 1 yc hx (by rw [r.len hy];omega) (fun h=>by cases h) (fun ad had=>by cases had;exact fun j u hj=>World.news_of_block (cs:=yc.toArray) (t:=e) (fr:=(0,0)) hblk j u (by simpa using hj)) (r.one hy) h63 hbytes hlo fun a' c' w' h1 h2 h3=>?_
 exact h _ w' (RowS.push hS hlo hl hy (fun b hb=>(hown.lt b hb).1) h1 h2) h2 h3 fun W00 hb=>hb.grown h2 hlo (fun b hb'=>(hown.lt b hb').1)
end Go.Proofs.LF
namespace Go.Proofs.LF
def lastM (p:List Ky):List UInt8:=(p.getLastD ⟨[],false,0⟩).n
def nmM (nm:List UInt8) (ps:List (List Ky)):List (List Ky):=ps.filter fun p=>decide (lastM p = nm)
theorem nmM_snoc (nm:List UInt8) (ps:List (List Ky)) (p:List Ky):nmM nm (ps ++ [p]) = nmM nm ps ++ (if lastM p = nm then [p] else []):=by
 unfold nmM
 rw [List.filter_append]
 by_cases h:lastM p = nm <;> simp [h]
end Go.Proofs.LF
namespace Go.Proofs.LF
open Go.RowKit
theorem LSl.on {α:Type} {k:Nat} {r:Rd α k} {w w':World} {v:Value} {xs:List α} (h:LSl r (fun q=>q < w.heap.size) w v xs) (hb:Below w.heap.size w w'):LSl r (fun q=>q < w'.heap.size) w' v xs:=
 (h.agree (Ag_b hb fun q hq=>hq)).wide fun q hq=>Nat.lt_of_lt_of_le hq hb.size
theorem FSl.on {w w':World} {v:Value} {y:Fo} (h:FSl (fun q=>q < w.heap.size) w v y) (hb:Below w.heap.size w w'):FSl (fun q=>q < w'.heap.size) w' v y:=
 (h.agree (Ag_b hb fun q hq=>hq)).wide fun q hq=>Nat.lt_of_lt_of_le hq hb.size
theorem Pth.on {w w':World} {v:Value} {p:List Ky} (h:Pth (fun q=>q < w.heap.size) w v p) (hb:Below w.heap.size w w'):Pth (fun q=>q < w'.heap.size) w' v p:=
 (h.agree (Ag_b hb fun q hq=>hq)).wide fun q hq=>Nat.lt_of_lt_of_le hq hb.size
end Go.Proofs.LF
namespace Go.Proofs.LF
open Go.RowKit
set_option maxHeartbeats 1000000
set_option maxRecDepth 100000
attribute [local go_sem] bs_toList
def elemV (k:Nat) (cs:List Value) (i:Nat):Value:=if k = 1 then cs.getD i undef else .agg ((List.range k).map fun j=>cs.getD (i * k + j) undef).toArray
def Enters (g:Nat):Prop:=∀ (args:Array Value) (W:World),Sem.run Tryz.prog (callFunc g args) W = .ok (.enter g args) W
def PredC (g:Nat) (caps:List Value) (w:World) (args:List Value) (b:Bool):Prop:=
 ∀ W,Below w.heap.size w W→Calls Tryz.prog g (args ++ caps).toArray W fun e w'=>e = .returned (.bool b)∧Below W.heap.size W w'
theorem getD_of_lt {l:List Value} {i:Nat} (h:i < l.length):l[i]? = some (l.getD i undef):=by
 rw [List.getD_eq_getElem?_getD,List.getElem?_eq_getElem h];rfl
theorem idx_int (g:Nat) (hE:Enters g) (p:Nat→Bool) (caps:List Value) (n:Nat) (a:Option Addr) (c:Nat) (cs:List Value) (S:Nat→Prop) (w:World) (hl:SlC S w 1 (.slice a n c) n cs) (hS:∀ b,S b→b < w.heap.size) (hlen:n ≤ 100000)
 (hp:∀ i,i < n→PredC g caps w [elemV 1 cs i] (p i)) :
 Calls Tryz.prog 242 #[.slice a n c, .func (.func g) #[] caps.toArray] w fun e w'=>e = .returned (.int .i64 (idxN p n))∧Below w.heap.size w w':=by
 have hE':∀ (args:Array Value) (W:World),Sem.run Tryz.prog (callFunc g args) W = .ok (.enter g args) W:=hE
 clear hE
 go_enter Tryz.func242,Tryz.ntmps242
 go_wp2_with fail
 go_loopw [8] (fun i wr=>∃ k:Nat,k ≤ n∧i = .int .i64 k∧Hid (∀ j,j < k→p j = false)∧Below w.heap.size w wr) (fun i _=>n - (intOf i).toNat)
 case atStart=>exact ⟨0,by omega,rfl,by intro j hj;omega,Below.refl _ _⟩
 case round=>
  obtain ⟨k,hk,rfl,H2,hB⟩:=hrel
  have HP:=hid hp
  clear hp
  by_cases hlt:k < n
  · obtain ⟨g',o,rfl,hg,_,_,hcell⟩:=SlC.cells hl (by omega)
    have hx0:=(Ag_b (S:=S) hB hS).cell hg (hcell k _ (getD_of_lt (by have:=hl.1;omega)))
    clear hcell
    go_wp2_with fail
    refine (HP.out k hlt _ hB).mono ?_
    rintro e w' ⟨rfl,hb'⟩
    cases hpx:p k with
    | true=>
      have HX:=hid hpx
      clear hpx
      go_wp2_with fail
      go_ret
      exact ⟨ret_int (idxN_found H2.out hlt HX.out).symm,hB.trans (hb'.mono hB.size)⟩
    | false=>
      have HX:=hid hpx
      clear hpx
      go_wp2_with fail
      go_roundw
      case rel=>exact ⟨k + 1,by omega,by go_num,fun j hj=>by rcases Nat.lt_succ_iff_lt_or_eq.1 hj with h | h;exact H2.out j h;rw [h];exact HX.out,hB.trans (hb'.mono hB.size)⟩
      case measure=>simp [intOf];omega
  · go_wp2_with fail
    go_ret
    obtain rfl:k = n:=by omega
    exact ⟨ret_int (idxN_none H2.out).symm,hB⟩
theorem cont_int (g:Nat) (hE:Enters g) (p:Nat→Bool) (caps:List Value) (n:Nat) (a:Option Addr) (c:Nat) (cs:List Value) (S:Nat→Prop) (w:World) (hl:SlC S w 1 (.slice a n c) n cs) (hS:∀ b,S b→b < w.heap.size) (hlen:n ≤ 100000)
 (hp:∀ i,i < n→PredC g caps w [elemV 1 cs i] (p i)) :
 Calls Tryz.prog 208 #[.slice a n c, .func (.func g) #[] caps.toArray] w fun e w'=>e = .returned (.bool (anyN p n))∧Below w.heap.size w w':=by
 have HP:=hid hp
 clear hp
 go_enter Tryz.func208,Tryz.ntmps208
 go_wp2_with fail
 refine (idx_int g hE p caps n a c cs S w hl hS hlen HP.out).mono ?_
 rintro e w' ⟨rfl,hb⟩
 go_wp2_with fail
 go_ret
 exact ⟨ret_bool (idxN_any p n),hb⟩
theorem idx_flat (g:Nat) (hE:Enters g) (p:Nat→Bool) (caps:List Value) (n:Nat) (a:Option Addr) (c:Nat) (cs:List Value) (S:Nat→Prop) (w:World) (hl:SlC S w 2 (.slice a n c) n cs) (hS:∀ b,S b→b < w.heap.size) (hlen:n ≤ 100000)
 (hp:∀ i,i < n→PredC g caps w [elemV 2 cs i] (p i)) :
 Calls Tryz.prog 101 #[.slice a n c, .func (.func g) #[] caps.toArray] w fun e w'=>e = .returned (.int .i64 (idxN p n))∧Below w.heap.size w w':=by
 have hE':∀ (args:Array Value) (W:World),Sem.run Tryz.prog (callFunc g args) W = .ok (.enter g args) W:=hE
 clear hE
 go_enter Tryz.func101,Tryz.ntmps101
 go_wp2_with fail
 go_loopw [8] (fun i wr=>∃ k:Nat,k ≤ n∧i = .int .i64 k∧Hid (∀ j,j < k→p j = false)∧Below w.heap.size w wr) (fun i _=>n - (intOf i).toNat)
 case atStart=>exact ⟨0,by omega,rfl,by intro j hj;omega,Below.refl _ _⟩
 case round=>
  obtain ⟨k,hk,rfl,H2,hB⟩:=hrel
  have HP:=hid hp
  clear hp
  by_cases hlt:k < n
  · obtain ⟨g',o,rfl,hg,_,_,hcell⟩:=SlC.cells hl (by omega)
    have hx0:=(Ag_b (S:=S) hB hS).cell hg (hcell (k * 2) _ (getD_of_lt (by have:=hl.1;omega)))
    have hx1:=(Ag_b (S:=S) hB hS).cell hg (hcell (k * 2 + 1) _ (getD_of_lt (by have:=hl.1;omega)))
    simp only [← Nat.add_assoc] at hx1
    clear hcell
    go_wp2_with fail
    refine (HP.out k hlt _ hB).mono ?_
    rintro e w' ⟨rfl,hb'⟩
    cases hpx:p k with
    | true=>
      have HX:=hid hpx
      clear hpx
      go_wp2_with fail
      go_ret
      exact ⟨ret_int (idxN_found H2.out hlt HX.out).symm,hB.trans (hb'.mono hB.size)⟩
    | false=>
      have HX:=hid hpx
      clear hpx
      go_wp2_with fail
      go_roundw
      case rel=>exact ⟨k + 1,by omega,by go_num,fun j hj=>by rcases Nat.lt_succ_iff_lt_or_eq.1 hj with h | h;exact H2.out j h;rw [h];exact HX.out,hB.trans (hb'.mono hB.size)⟩
      case measure=>simp [intOf];omega
  · go_wp2_with fail
    go_ret
    obtain rfl:k = n:=by omega
    exact ⟨ret_int (idxN_none H2.out).symm,hB⟩
theorem idx_node (g:Nat) (hE:Enters g) (p:Nat→Bool) (caps:List Value) (n:Nat) (a:Option Addr) (c:Nat) (cs:List Value) (S:Nat→Prop) (w:World) (hl:SlC S w 3 (.slice a n c) n cs) (hS:∀ b,S b→b < w.heap.size) (hlen:n ≤ 100000)
 (hp:∀ i,i < n→PredC g caps w [elemV 3 cs i] (p i)) :
 Calls Tryz.prog 134 #[.slice a n c, .func (.func g) #[] caps.toArray] w fun e w'=>e = .returned (.int .i64 (idxN p n))∧Below w.heap.size w w':=by
 have hE':∀ (args:Array Value) (W:World),Sem.run Tryz.prog (callFunc g args) W = .ok (.enter g args) W:=hE
 clear hE
 go_enter Tryz.func134,Tryz.ntmps134
 go_wp2_with fail
 go_loopw [8] (fun i wr=>∃ k:Nat,k ≤ n∧i = .int .i64 k∧Hid (∀ j,j < k→p j = false)∧Below w.heap.size w wr) (fun i _=>n - (intOf i).toNat)
 case atStart=>exact ⟨0,by omega,rfl,by intro j hj;omega,Below.refl _ _⟩
 case round=>
  obtain ⟨k,hk,rfl,H2,hB⟩:=hrel
  have HP:=hid hp
  clear hp
  by_cases hlt:k < n
  · obtain ⟨g',o,rfl,hg,_,_,hcell⟩:=SlC.cells hl (by omega)
    have hx0:=(Ag_b (S:=S) hB hS).cell hg (hcell (k * 3) _ (getD_of_lt (by have:=hl.1;omega)))
    have hx1:=(Ag_b (S:=S) hB hS).cell hg (hcell (k * 3 + 1) _ (getD_of_lt (by have:=hl.1;omega)))
    have hx2:=(Ag_b (S:=S) hB hS).cell hg (hcell (k * 3 + 2) _ (getD_of_lt (by have:=hl.1;omega)))
    simp only [← Nat.add_assoc] at hx1 hx2
    clear hcell
    go_wp2_with fail
    refine (HP.out k hlt _ hB).mono ?_
    rintro e w' ⟨rfl,hb'⟩
    cases hpx:p k with
    | true=>
      have HX:=hid hpx
      clear hpx
      go_wp2_with fail
      go_ret
      exact ⟨ret_int (idxN_found H2.out hlt HX.out).symm,hB.trans (hb'.mono hB.size)⟩
    | false=>
      have HX:=hid hpx
      clear hpx
      go_wp2_with fail
      go_roundw
      case rel=>exact ⟨k + 1,by omega,by go_num,fun j hj=>by rcases Nat.lt_succ_iff_lt_or_eq.1 hj with h | h;exact H2.out j h;rw [h];exact HX.out,hB.trans (hb'.mono hB.size)⟩
      case measure=>simp [intOf];omega
  · go_wp2_with fail
    go_ret
    obtain rfl:k = n:=by omega
    exact ⟨ret_int (idxN_none H2.out).symm,hB⟩
theorem idx_path (g:Nat) (hE:Enters g) (p:Nat→Bool) (caps:List Value) (n:Nat) (a:Option Addr) (c:Nat) (cs:List Value) (S:Nat→Prop) (w:World) (hl:SlC S w 1 (.slice a n c) n cs) (hS:∀ b,S b→b < w.heap.size) (hlen:n ≤ 100000)
 (hp:∀ i,i < n→PredC g caps w [elemV 1 cs i] (p i)) :
 Calls Tryz.prog 128 #[.slice a n c, .func (.func g) #[] caps.toArray] w fun e w'=>e = .returned (.int .i64 (idxN p n))∧Below w.heap.size w w':=by
 have hE':∀ (args:Array Value) (W:World),Sem.run Tryz.prog (callFunc g args) W = .ok (.enter g args) W:=hE
 clear hE
 go_enter Tryz.func128,Tryz.ntmps128
 go_wp2_with fail
 go_loopw [8] (fun i wr=>∃ k:Nat,k ≤ n∧i = .int .i64 k∧Hid (∀ j,j < k→p j = false)∧Below w.heap.size w wr) (fun i _=>n - (intOf i).toNat)
 case atStart=>exact ⟨0,by omega,rfl,by intro j hj;omega,Below.refl _ _⟩
 case round=>
  obtain ⟨k,hk,rfl,H2,hB⟩:=hrel
  have HP:=hid hp
  clear hp
  by_cases hlt:k < n
  · obtain ⟨g',o,rfl,hg,_,_,hcell⟩:=SlC.cells hl (by omega)
    have hx0:=(Ag_b (S:=S) hB hS).cell hg (hcell k _ (getD_of_lt (by have:=hl.1;omega)))
    clear hcell
    go_wp2_with fail
    refine (HP.out k hlt _ hB).mono ?_
    rintro e w' ⟨rfl,hb'⟩
    cases hpx:p k with
    | true=>
      have HX:=hid hpx
      clear hpx
      go_wp2_with fail
      go_ret
      exact ⟨ret_int (idxN_found H2.out hlt HX.out).symm,hB.trans (hb'.mono hB.size)⟩
    | false=>
      have HX:=hid hpx
      clear hpx
      go_wp2_with fail
      go_roundw
      case rel=>exact ⟨k + 1,by omega,by go_num,fun j hj=>by rcases Nat.lt_succ_iff_lt_or_eq.1 hj with h | h;exact H2.out j h;rw [h];exact HX.out,hB.trans (hb'.mono hB.size)⟩
      case measure=>simp [intOf];omega
  · go_wp2_with fail
    go_ret
    obtain rfl:k = n:=by omega
    exact ⟨ret_int (idxN_none H2.out).symm,hB⟩
theorem cont_path (g:Nat) (hE:Enters g) (p:Nat→Bool) (caps:List Value) (n:Nat) (a:Option Addr) (c:Nat) (cs:List Value) (S:Nat→Prop) (w:World) (hl:SlC S w 1 (.slice a n c) n cs) (hS:∀ b,S b→b < w.heap.size) (hlen:n ≤ 100000)
 (hp:∀ i,i < n→PredC g caps w [elemV 1 cs i] (p i)) :
 Calls Tryz.prog 45 #[.slice a n c, .func (.func g) #[] caps.toArray] w fun e w'=>e = .returned (.bool (anyN p n))∧Below w.heap.size w w':=by
 have HP:=hid hp
 clear hp
 go_enter Tryz.func45,Tryz.ntmps45
 go_wp2_with fail
 refine (idx_path g hE p caps n a c cs S w hl hS hlen HP.out).mono ?_
 rintro e w' ⟨rfl,hb⟩
 go_wp2_with fail
 go_ret
 exact ⟨ret_bool (idxN_any p n),hb⟩
theorem idx_key (g:Nat) (hE:Enters g) (p:Nat→Bool) (caps:List Value) (n:Nat) (a:Option Addr) (c:Nat) (cs:List Value) (S:Nat→Prop) (w:World) (hl:SlC S w 3 (.slice a n c) n cs) (hS:∀ b,S b→b < w.heap.size) (hlen:n ≤ 100000)
 (hp:∀ i,i < n→PredC g caps w [elemV 3 cs i] (p i)) :
 Calls Tryz.prog 139 #[.slice a n c, .func (.func g) #[] caps.toArray] w fun e w'=>e = .returned (.int .i64 (idxN p n))∧Below w.heap.size w w':=by
 have hE':∀ (args:Array Value) (W:World),Sem.run Tryz.prog (callFunc g args) W = .ok (.enter g args) W:=hE
 clear hE
 go_enter Tryz.func139,Tryz.ntmps139
 go_wp2_with fail
 go_loopw [8] (fun i wr=>∃ k:Nat,k ≤ n∧i = .int .i64 k∧Hid (∀ j,j < k→p j = false)∧Below w.heap.size w wr) (fun i _=>n - (intOf i).toNat)
 case atStart=>exact ⟨0,by omega,rfl,by intro j hj;omega,Below.refl _ _⟩
 case round=>
  obtain ⟨k,hk,rfl,H2,hB⟩:=hrel
  have HP:=hid hp
  clear hp
  by_cases hlt:k < n
  · obtain ⟨g',o,rfl,hg,_,_,hcell⟩:=SlC.cells hl (by omega)
    have hx0:=(Ag_b (S:=S) hB hS).cell hg (hcell (k * 3) _ (getD_of_lt (by have:=hl.1;omega)))
    have hx1:=(Ag_b (S:=S) hB hS).cell hg (hcell (k * 3 + 1) _ (getD_of_lt (by have:=hl.1;omega)))
    have hx2:=(Ag_b (S:=S) hB hS).cell hg (hcell (k * 3 + 2) _ (getD_of_lt (by have:=hl.1;omega)))
    simp only [← Nat.add_assoc] at hx1 hx2
    clear hcell
    go_wp2_with fail
    refine (HP.out k hlt _ hB).mono ?_
    rintro e w' ⟨rfl,hb'⟩
    cases hpx:p k with
    | true=>
      have HX:=hid hpx
      clear hpx
      go_wp2_with fail
      go_ret
      exact ⟨ret_int (idxN_found H2.out hlt HX.out).symm,hB.trans (hb'.mono hB.size)⟩
    | false=>
      have HX:=hid hpx
      clear hpx
      go_wp2_with fail
      go_roundw
      case rel=>exact ⟨k + 1,by omega,by go_num,fun j hj=>by rcases Nat.lt_succ_iff_lt_or_eq.1 hj with h | h;exact H2.out j h;rw [h];exact HX.out,hB.trans (hb'.mono hB.size)⟩
      case measure=>simp [intOf];omega
  · go_wp2_with fail
    go_ret
    obtain rfl:k = n:=by omega
    exact ⟨ret_int (idxN_none H2.out).symm,hB⟩
theorem cont_key (g:Nat) (hE:Enters g) (p:Nat→Bool) (caps:List Value) (n:Nat) (a:Option Addr) (c:Nat) (cs:List Value) (S:Nat→Prop) (w:World) (hl:SlC S w 3 (.slice a n c) n cs) (hS:∀ b,S b→b < w.heap.size) (hlen:n ≤ 100000)
 (hp:∀ i,i < n→PredC g caps w [elemV 3 cs i] (p i)) :
 Calls Tryz.prog 53 #[.slice a n c, .func (.func g) #[] caps.toArray] w fun e w'=>e = .returned (.bool (anyN p n))∧Below w.heap.size w w':=by
 have HP:=hid hp
 clear hp
 go_enter Tryz.func53,Tryz.ntmps53
 go_wp2_with fail
 refine (idx_key g hE p caps n a c cs S w hl hS hlen HP.out).mono ?_
 rintro e w' ⟨rfl,hb⟩
 go_wp2_with fail
 go_ret
 exact ⟨ret_bool (idxN_any p n),hb⟩
end Go.Proofs.LF
namespace Go.Proofs.LF
open Go.RowKit
def FOCs (E:TypeId):(Nat→Prop)→World→Fo→List Value→Prop
 | _,_, .nil,cs=>cs = []
 | S,w, .cons n l s r,cs=>∃ (vn vs:Value) (cs':List Value) (S1 S2 S3:Nat→Prop),cs = .string (bs n) :: vn :: vs :: cs' ∧
    (∀ b,S1 b ∨ S2 b ∨ S3 b→S b)∧(∀ b,S1 b→¬ S2 b)∧(∀ b,S1 b→¬ S3 b)∧(∀ b,S2 b→¬ S3 b)∧IntU S1 w vn l ∧
    (∃ ds,w.ownsRow 0 E 3 vs s.len ds∧(∀ g,vs.ownBlock = some g→S2 g)∧FOCs E (fun b=>S2 b∧vs.ownBlock ≠ some b) w s ds)∧FOCs E S3 w r cs'
def FOw (E:TypeId) (S:Nat→Prop) (w:World) (v:Value) (y:Fo):Prop:=
 ∃ ds,w.ownsRow 0 E 3 v y.len ds∧(∀ g,v.ownBlock = some g→S g)∧FOCs E (fun b=>S b∧v.ownBlock ≠ some b) w y ds
theorem owns_agree {w w':World} {base e k n:Nat} {v:Value} {xs:List Value} (h:w.ownsRow base e k v n xs) (ha:∀ g,v.ownBlock = some g→w'.heap[g]? = w.heap[g]?):w'.ownsRow base e k v n xs:=by
 refine ⟨h.1,?_⟩
 rcases h.2 with hn | ⟨g,cap,cur,rfl,hb,hgg,rest⟩
 · exact .inl hn
 · exact .inr ⟨g,cap,cur,rfl,hb,(ha g rfl).trans hgg,rest⟩
theorem owns_base {w:World} {base base' e k n:Nat} {v:Value} {xs:List Value} (h:w.ownsRow base e k v n xs) (hb:∀ g,v.ownBlock = some g→base' ≤ g):w.ownsRow base' e k v n xs:=by
 refine ⟨h.1,?_⟩
 rcases h.2 with hn | ⟨g,cap,cur,rfl,hb',hgg,rest⟩
 · exact .inl hn
 · exact .inr ⟨g,cap,cur,rfl,hb g rfl,hgg,rest⟩
theorem FOCs.agree {E:TypeId} {w w':World}:∀ {y:Fo} {S:Nat→Prop} {cs:List Value},FOCs E S w y cs→Agree S w w'→FOCs E S w' y cs
 | .nil,_,_,h,_=>h
 | .cons n l s r,S,cs,⟨vn,vs,cs',S1,S2,S3,h1,hs,d1,d2,d3,h2,⟨ds,h3,h4,h5⟩,h6⟩,ha=>
   ⟨vn,vs,cs',S1,S2,S3,h1,hs,d1,d2,d3,IntU.agree h2 (fun b hb=>ha b (hs b (.inl hb))),
     ⟨ds,owns_agree h3 (fun g hg=>ha g (hs g (.inr (.inl (h4 g hg))))),h4,h5.agree (fun b hb=>ha b (hs b (.inr (.inl hb.1))))⟩,h6.agree (fun b hb=>ha b (hs b (.inr (.inr hb))))⟩
theorem FOCs.wide {E:TypeId} {w:World}:∀ {y:Fo} {S S':Nat→Prop} {cs:List Value},FOCs E S w y cs→(∀ b,S b→S' b)→FOCs E S' w y cs
 | .nil,_,_,_,h,_=>h
 | .cons n l s r,S,S',cs,⟨vn,vs,cs',S1,S2,S3,h1,hs,d1,d2,d3,h2,h3,h6⟩,hw=>
   ⟨vn,vs,cs',S1,S2,S3,h1,fun b hb=>hw b (hs b hb),d1,d2,d3,h2,h3,h6⟩
theorem FOCs.app {E:TypeId} {w:World}:∀ {y z:Fo} {S S':Nat→Prop} {cs ds:List Value},FOCs E S w y cs→FOCs E S' w z ds→(∀ b,S b→¬ S' b)→FOCs E (fun b=>S b ∨ S' b) w (y.app z) (cs ++ ds)
 | .nil,z,_,_,_,_,h,h',_=>by rw [show _ = [] from h];exact h'.wide (fun b hb => .inr hb)
 | .cons n l s r,z,S,S',cs,ds,⟨vn,vs,cs',S1,S2,S3,h1,hs,d1,d2,d3,h2,h3,h6⟩,h',hd=>
   ⟨vn,vs,cs' ++ ds,S1,S2,fun b=>S3 b ∨ S' b,by rw [h1];rfl,fun b hb=>by
     rcases hb with hb | hb | hb | hb
     · exact .inl (hs b (.inl hb))
     · exact .inl (hs b (.inr (.inl hb)))
     · exact .inl (hs b (.inr (.inr hb)))
     · exact .inr hb,
     d1,fun b hb h=>h.elim (d2 b hb) (hd b (hs b (.inl hb))),fun b hb h=>h.elim (d3 b hb) (hd b (hs b (.inr (.inl hb)))),h2,h3,
     h6.app h' (fun b hb=>hd b (hs b (.inr (.inr hb))))⟩
theorem FOCs.fcs {E:TypeId} {w:World}:∀ {y:Fo} {S:Nat→Prop} {cs:List Value},FOCs E S w y cs→FCs S w y cs
 | .nil,_,_,h=>h
 | .cons n l s r,S,cs,⟨vn,vs,cs',S1,S2,S3,h1,hs,_,_,_,h2,⟨ds,h3,h4,h5⟩,h6⟩=>by
   refine ⟨vn,vs,cs',h1,Ints.wide h2 (fun b hb=>hs b (.inl hb.1)),⟨ds,?_,h5.fcs.wide (fun b hb=>hs b (.inr (.inl hb.1)))⟩,h6.fcs.wide (fun b hb=>hs b (.inr (.inr hb)))⟩
   exact owns_slc h3 (fun g hg=>hs g (.inr (.inl (h4 g hg))))
 where
 owns_slc {w:World} {base e k n:Nat} {v:Value} {xs:List Value} {S:Nat→Prop} (h:w.ownsRow base e k v n xs) (hS:∀ g,v.ownBlock = some g→S g):SlC S w k v n xs:=by
  obtain ⟨h1,h2⟩:=h
  refine ⟨h1,?_⟩
  rcases h2 with ⟨rfl,rfl⟩ | ⟨g,cap,cur,rfl,hb,hg,hn,hc,hs,ht⟩
  · exact ⟨none,0,rfl,by omega,by simp [maxLen],fun _=>rfl, .inl rfl⟩
  · refine ⟨_,cap,rfl,hn,hc,(fun h=>by cases h), .inr ⟨g,0,rfl,hS g rfl,fun j u hj=>?_⟩⟩
    simp only [World.cell?,hg,Nat.zero_add]
    rw [← ht,List.getElem?_take] at hj
    split at hj
    · simpa using hj
    · cases hj
theorem FOw.agree {E:TypeId} {S:Nat→Prop} {w w':World} {v:Value} {y:Fo} (h:FOw E S w v y) (ha:Agree S w w'):FOw E S w' v y:=
 let ⟨ds,h1,h2,h3⟩:=h;⟨ds,owns_agree h1 (fun g hg=>ha g (h2 g hg)),h2,h3.agree (fun b hb=>ha b hb.1)⟩
theorem FOw.wide {E:TypeId} {S S':Nat→Prop} {w:World} {v:Value} {y:Fo} (h:FOw E S w v y) (hw:∀ b,S b→S' b):FOw E S' w v y:=
 let ⟨ds,h1,h2,h3⟩:=h;⟨ds,h1,fun g hg=>hw g (h2 g hg),h3.wide (fun b hb=>⟨hw b hb.1,hb.2⟩)⟩
theorem FOw.fsl {E:TypeId} {S:Nat→Prop} {w:World} {v:Value} {y:Fo} (h:FOw E S w v y):FSl S w v y:=
 let ⟨ds,h1,h2,h3⟩:=h;⟨ds,FOCs.fcs.owns_slc h1 h2,h3.fcs.wide (fun b hb=>hb.1)⟩
theorem FOCs.one {E:TypeId} {S1 S2:Nat→Prop} {w:World} {n:List UInt8} {l:List Int} {s:Fo} {vn vs:Value} (h1:IntU S1 w vn l) (h2:FOw E S2 w vs s) (hd:∀ b,S1 b→¬ S2 b):FOCs E (fun b=>S1 b ∨ S2 b) w (.cons n l s .nil) [.string (bs n),vn,vs]:=by
 obtain ⟨ds,h3,h4,h5⟩:=h2
 exact ⟨vn,vs,[],S1,S2,fun _=>False,rfl,fun b hb=>by rcases hb with hb | hb | hb;exact .inl hb;exact .inr hb;exact hb.elim,hd,fun _ _ h=>h,fun _ _ h=>h,h1,⟨ds,h3,h4,h5⟩,rfl⟩
end Go.Proofs.LF
namespace Go.Proofs.LF
def bsG (lt:Nat→Bool):Nat→Nat→Nat→Nat
 | 0,i,_=>i
 | f + 1,i,j=>if i < j then (if lt ((i + j) / 2) then bsG lt f ((i + j) / 2 + 1) j else bsG lt f i ((i + j) / 2)) else i
theorem bsG_fuel (lt:Nat→Bool):∀ (f i j:Nat),j - i ≤ f→bsG lt f i j = bsG lt (j - i) i j
 | 0,i,j,h=>by rw [show j - i = 0 by omega]
 | f + 1,i,j,h=>by
   by_cases hij:i < j
   · obtain ⟨d,hd⟩:∃ d,j - i = d + 1:=⟨j - i - 1,by omega⟩
     rw [hd]
     simp only [bsG,hij,if_true]
     split
     · rw [bsG_fuel lt f _ _ (by omega),bsG_fuel lt d _ _ (by omega)]
     · rw [bsG_fuel lt f _ _ (by omega),bsG_fuel lt d _ _ (by omega)]
   · rw [show j - i = 0 by omega]
     simp [bsG,hij]
def bsF (lt:Nat→Bool) (i j:Nat):Nat:=bsG lt (j - i) i j
theorem bsF_stop {lt:Nat→Bool} {i j:Nat} (h:¬ i < j):bsF lt i j = i:=by
 unfold bsF;rw [show j - i = 0 by omega];rfl
theorem bsF_go {lt:Nat→Bool} {i j:Nat} (h:i < j):bsF lt i j = if lt ((i + j) / 2) then bsF lt ((i + j) / 2 + 1) j else bsF lt i ((i + j) / 2):=by
 unfold bsF
 obtain ⟨d,hd⟩:∃ d,j - i = d + 1:=⟨j - i - 1,by omega⟩
 rw [hd]
 simp only [bsG,h,if_true]
 rw [bsG_fuel lt d _ _ (by omega),bsG_fuel lt d _ _ (by omega)]
theorem bsF_le {lt:Nat→Bool}:∀ (n i j:Nat),j - i ≤ n→i ≤ j→i ≤ bsF lt i j∧bsF lt i j ≤ j
 | 0,i,j,h,h2=>by rw [bsF_stop (by omega)];omega
 | n + 1,i,j,h,h2=>by
   by_cases hij:i < j
   · rw [bsF_go hij]
     split
     · have:=bsF_le (lt:=lt) n ((i + j) / 2 + 1) j (by omega) (by omega);omega
     · have:=bsF_le (lt:=lt) n i ((i + j) / 2) (by omega) (by omega);omega
   · rw [bsF_stop hij];omega
def fl0:Fl:=⟨[],[]⟩
def fndI (l:List Fl) (p:List Ky):Nat:=bsF (fun h=>decide (cmpP (l.getD h fl0).p p < 0)) 0 l.length
def fnd (l:List Fl) (p:List Ky):Option Fl:=match l[fndI l p]? with | some x=>if cmpP x.p p = 0 then some x else none | none=>none
def smF (a b:List Fl) (p:List Ky):Bool:=match fnd a p,fnd b p with | some x,some y=>decide (x.l = y.l) | none,none=>true | _,_=>false
def sptK (k:Ky):List UInt8:=47 :: k.n ++ (if k.h then 58 :: Lib.itoa k.x else if k.x ≠ 0 then 63 :: Lib.itoa k.x else [])
def sptL (p:List Ky):List UInt8:=(p.map sptK).flatten
def ddP:List (List Ky)→List (List Ky)→List (List Ky)
 | acc,[]=>acc
 | acc,p :: r=>if sptL p ∈ acc.map sptL then ddP acc r else ddP (acc ++ [p]) r
def insP (p:List Ky):List (List Ky)→List (List Ky)
 | []=>[p]
 | q :: r=>if cmpP q p < 0 then q :: insP p r else p :: q :: r
def srtP:List (List Ky)→List (List Ky)
 | []=>[]
 | p :: r=>insP p (srtP r)
def pthsF (l:List (List Fl)):List (List Ky):=srtP (ddP [] (l.flatten.map Fl.p))
def chD (a b:List Fl) (p:List Ky):Option Ch:=
 if smF a b p then none else some ⟨p,(fnd a p).isSome,(fnd b p).isSome,((fnd a p).getD fl0).l,((fnd b p).getD fl0).l⟩
def dfF (a b:List Fl):List Ch:=(pthsF [a,b]).filterMap (chD a b)
def lsF:List Fl→List (List Ky)→List Fl→List Fl × List (List Ky)
 | kept,out,[]=>(kept,out)
 | kept,out,f :: r=>if (fnd kept f.p.dropLast).isSome ∨ f.p.length = 1 then lsF (kept ++ [f]) out r else lsF kept (out ++ [f.p]) r
def jnF (o a b:List Fl):List Fl→List (List Ky)→List (List Ky)→List Fl × List (List Ky)
 | all,con,[]=>(all,con)
 | all,con,p :: r=>
   let st:=if smF a b p ∨ smF o b p then (a,con) else if smF o a p then (b,con) else (o,con ++ [p])
   jnF o a b (match fnd st.1 p with | some f=>all ++ [f] | none=>all) st.2 r
def cnF (con:List (List Ky)):List (List Ky)→List (List Ky)
 | []=>con
 | p :: r=>cnF (if con.any (fun q=>decide (cmpP q p = 0)) then con else con ++ [p]) r
def joF (o a b:Fo):List Fl × List (List Ky):=
 let l:=[flsL [] o,flsL [] a,flsL [] b]
 let j:=jnF (flsL [] o) (flsL [] a) (flsL [] b) [] [] (pthsF l)
 let k:=lsF [] [] j.1
 (k.1,srtP (cnF j.2 k.2))
theorem insP_perm (p:List Ky):∀ l,(insP p l).Perm (p :: l)
 | []=>List.Perm.refl _
 | q :: r=>by
   simp only [insP]
   split
   · exact ((insP_perm p r).cons q).trans (List.Perm.swap _ _ _)
   · exact List.Perm.refl _
theorem srtP_perm:∀ l,(srtP l).Perm l
 | []=>List.Perm.refl _
 | p :: r=>(insP_perm p _).trans ((srtP_perm r).cons p)
theorem insP_sorted (p:List Ky):∀ l:List (List Ky),l.Pairwise (fun a b=>cmpP a b ≤ 0)→(insP p l).Pairwise (fun a b=>cmpP a b ≤ 0)
 | [],_=>by simp [insP]
 | q :: r,h=>by
   obtain ⟨h1,h2⟩:=List.pairwise_cons.1 h
   simp only [insP]
   split
   · rename_i hq
     refine List.pairwise_cons.2 ⟨fun x hx=>?_,insP_sorted p r h2⟩
     rcases List.mem_cons.1 ((insP_perm p r).mem_iff.1 hx) with rfl | hx
     · omega
     · exact h1 x hx
   · rename_i hq
     have hpq:cmpP p q ≤ 0:=by
      rcases Int.lt_trichotomy (cmpP p q) 0 with h' | h' | h'
      · omega
      · omega
      · exact absurd (cmpP_ord.flop h') hq
     refine List.pairwise_cons.2 ⟨fun x hx=>?_,h⟩
     rcases List.mem_cons.1 hx with rfl | hx
     · exact hpq
     · have:=h1 x hx
       rcases Int.lt_or_eq_of_le hpq with a | a
       · rcases Int.lt_or_eq_of_le this with b | b
         · exact Int.le_of_lt (cmpP_ord.trans a b)
         · rw [← cmpP_ord.eq b];omega
       · rw [cmpP_ord.eq a];exact this
theorem srtP_sorted:∀ l,(srtP l).Pairwise (fun a b=>cmpP a b ≤ 0)
 | []=>List.Pairwise.nil
 | p :: r=>insP_sorted p _ (srtP_sorted r)
theorem srtP_of {l l':List (List Ky)} (hp:l'.Perm l) (hs:l'.Pairwise (fun a b=>cmpP a b ≤ 0)):l' = srtP l:=
 List.Perm.eq_of_pairwise (le:=fun a b=>cmpP a b ≤ 0) (fun a b _ _ h k=>by
  rcases Int.lt_or_eq_of_le h with h | h
  · have:=cmpP_ord.flip h;omega
  · exact cmpP_ord.eq h) hs (srtP_sorted l) (hp.trans (srtP_perm l).symm)
end Go.Proofs.LF
namespace Go.Proofs.LF
open Go.RowKit
section
variable {F:Fence} {n:Nat} {P:Program} {ops:Array Oper} {Q:Exit→Act→World→Prop} {md:Region.Mode} {S:World→Prop} {L:Nat}
def AnyT (F:Fence) (n:Nat) (P:Program) (md:Region.Mode) (ops:Array Oper) (Q:Exit→Act→World→Prop) (S:World→Prop) (L:Nat):Nat→Array Bool→Act→World→Prop
 | 0,listed,a,w=>Region.ready md ops listed = []∧Q .normal a w
 | fuel + 1,listed,a,w=>
   (Region.ready md ops listed = []→Q .normal a w) ∧
   ∀ i ∈ Region.ready md ops listed,wpOpIn F n P ops Q i (fun a' w'=>if i = L then wpAnyIn F n P md ops Q fuel (listed.setIfInBounds i true) a' w' else S w'∧AnyT F n P md ops Q S L fuel (listed.setIfInBounds i true) a' w') a w
theorem any_of_T:∀ (fuel:Nat) (listed:Array Bool) (a:Act) (w:World),AnyT F n P md ops Q S L fuel listed a w→wpAnyIn F n P md ops Q fuel listed a w
 | 0,_,_,_,h=>h
 | fuel + 1,_,_,_,h=>⟨h.1,fun i hi=>wpOpIn_mono (fun a' w' h'=>by
    split at h'
    · exact h'
    · exact any_of_T fuel _ a' w' h'.2) (h.2 i hi)⟩
theorem AnyT_first (hF:∀ f,F.fn f) (hnd:ops.all notDefer = true) {i:Nat} {oi:Oper} {v:Value} (hi:ops[i]? = some oi) (hsel:∀ (j:Nat) (o:Oper) cs b,ops[j]? = some o→o.op ≠ .select cs b)
 (hQ:∀ c a w,Q (.panic c) (a.put oi.dst v) w→Q (.panic c) a w) (hiL:i ≠ L) (hL:∀ (listed:Array Bool),i ∈ Region.ready md ops listed→L ∉ Region.ready md ops listed) :
 ∀ (fuel:Nat) (listed:Array Bool) (a:Act) (w:World),
  (∀ j oj,ops[j]? = some oj→j ≠ i→listed.getD j true = false→(∀ e ∈ oj.after,Region.binds md e = true→e.on ≠ i)→oi.apart ops oj = true) →
  i ∈ Region.ready md ops listed→YIf P ops S oi v a→S w →
  AnyT F n P md ops Q S L fuel (listed.setIfInBounds i true) (a.put oi.dst v) w→AnyT F n P md ops Q S L (fuel + 1) listed a w:=by
 have hno:∀ j o,ops[j]? = some o→notDefer o = true:=fun j o h=>by
  rw [Array.all_eq_true] at hnd
  obtain ⟨hj,rfl⟩:=Array.getElem?_eq_some_iff.1 h
  exact hnd j hj
 intro fuel
 induction fuel with
 | zero=>
   intro listed a w _ hr hy hS H
   refine ⟨fun h=>(by rw [h] at hr;cases hr),fun j hj=>?_⟩
   by_cases hji:j = i
   · subst hji;exact hy.wpOp hF hi (hno _ _ hi) hS (by rw [if_neg hiL];exact ⟨hS,H⟩)
   · have:=ready_mono hj hji
     rw [H.1] at this
     cases this
 | succ fuel ih=>
   intro listed a w hfree hr hy hS H
   refine ⟨fun h=>(by rw [h] at hr;cases hr),fun j hj=>?_⟩
   by_cases hji:j = i
   · subst hji;exact hy.wpOp hF hi (hno _ _ hi) hS (by rw [if_neg hiL];exact ⟨hS,H⟩)
   · have hjL:j ≠ L:=fun e=>hL listed hr (e ▸ hj)
     have h1:=H.2 j (ready_mono hj hji)
     simp only [if_neg hjL] at h1 ⊢
     obtain ⟨hjun,oj,hoj,hall⟩:=mem_ready.1 hj
     have hnot:∀ e ∈ oj.after,Region.binds md e = true→e.on ≠ i:=fun e he hb heq=>by
      have h1:=hall e he hb
      have h0:=(mem_ready.1 hr).1
      rw [heq] at h1
      rcases Nat.lt_or_ge i listed.size with h' | h'
      · simp [h'] at h0 h1;rw [h0] at h1;cases h1
      · simp [Array.getElem?_eq_none h'] at h1
     have h2:=wpOpIn_putIf hoj (hno _ _ hoj) (hfree j oj hoj hji hjun hnot) (fun cs b=>hsel i oi cs b hi) (fun cs b=>hsel j oj cs b hoj) hQ hy h1
     have hfree':∀ k ok,ops[k]? = some ok→k ≠ i→(listed.setIfInBounds j true).getD k true = false →
      (∀ e ∈ ok.after,Region.binds md e = true→e.on ≠ i)→oi.apart ops ok = true:=fun k ok hk hki hun hno=>by
      refine hfree k ok hk hki ?_ hno
      by_cases hjk:j = k
      · subst hjk;exact hjun
      · rw [getD_set_ne true hjk] at hun;exact hun
     refine wpOpIn_mono (fun a' w' h3=>⟨h3.2.1,ih (listed.setIfInBounds j true) a' w' hfree' (ready_mono hr (Ne.symm hji)) h3.1 h3.2.1 ?_⟩) h2
     rw [Array.setIfInBounds_comm _ _ hji]
     exact h3.2.2
def waits (md:Region.Mode) (ops:Array Oper) (L i:Nat):Bool:=match ops[L]? with | some o=>o.after.any (fun e=>Region.binds md e && e.on == i) | none=>true
theorem waits_spec {i:Nat} (h:waits md ops L i = true) (listed:Array Bool) (hr:i ∈ Region.ready md ops listed):L ∉ Region.ready md ops listed:=fun hl=>by
 obtain ⟨_,o,ho,hall⟩:=mem_ready.1 hl
 unfold waits at h
 rw [ho] at h
 simp only [Array.any_eq_true,Bool.and_eq_true,beq_iff_eq] at h
 obtain ⟨k,hk,hb,he⟩:=h
 have h1:=hall _ (Array.getElem_mem hk) hb
 have h0:=(mem_ready.1 hr).1
 rw [he] at h1
 rcases Nat.lt_or_ge i listed.size with h' | h'
 · simp [h'] at h0 h1;rw [h0] at h1;cases h1
 · simp [Array.getElem?_eq_none h'] at h1
theorem AnyT_takeD (hF:∀ f,F.fn f) (hnd:ops.all notDefer = true) (i t:Nat) (v:Value) {oi:Oper} {fuel:Nat} {listed:Array Bool} {a:Act} {w:World} (hi:ops[i]? = some oi) (hd:oi.dst = some t)
 (hs:Region.noSelect ops = true) (hf:Region.free md ops listed i = true) (hr:(Region.ready md ops listed).contains i = true) (hiL:i ≠ L) (hw:waits md ops L i = true)
 (hQ:∀ c a w,Q (.panic c) (a.put (some t) v) w→Q (.panic c) a w) (hy:YIf P ops S oi v a) (hS:S w)
 (h:AnyT F n P md ops Q S L fuel (listed.setIfInBounds i true) (a.put (some t) v) w):AnyT F n P md ops Q S L (fuel + 1) listed a w:=
 AnyT_first hF hnd hi (Region.noSelect_spec hs) (by rw [hd];exact hQ) hiL (waits_spec hw) fuel listed a w (Region.free_spec hi hf) (by simpa using hr) hy hS (by rw [hd];exact h)
theorem AnyT_one {i:Nat} {o:Oper} {fuel:Nat} {listed:Array Bool} {a:Act} {w:World} (hr:Region.ready md ops listed = [i]) (ho:ops[i]? = some o) (hw:Region.wanted o (yielded ops a.tmps) = true) (hiL:i ≠ L)
 (h:∀ K:Act→World→Prop,(∀ a w,S w∧AnyT F n P md ops Q S L fuel (listed.setIfInBounds i true) a w→K a w)→Oper.wpIn F n P o a w K Q):AnyT F n P md ops Q S L (fuel + 1) listed a w:=
 ⟨fun h0=>(by rw [hr] at h0;cases h0),hr ▸ fun j hj=>by
   obtain rfl:j = i:=by simpa using hj
   unfold wpOpIn
   rw [ho]
   simp only [hw,if_true,if_neg hiL]
   exact h _ fun _ _ h=>h⟩
theorem AnyT_last {o:Oper} {fuel:Nat} {listed:Array Bool} {a:Act} {w:World} (hr:Region.ready md ops listed = [L]) (ho:ops[L]? = some o) (hw:Region.wanted o (yielded ops a.tmps) = true) (hend:Region.ready md ops (listed.setIfInBounds L true) = [])
 (h:∀ K:Act→World→Prop,(∀ a w,Q .normal a w→K a w)→Oper.wpIn F n P o a w K Q):AnyT F n P md ops Q S L (fuel + 1) listed a w:=
 ⟨fun h0=>(by rw [hr] at h0;cases h0),hr ▸ fun j hj=>by
   obtain rfl:j = L:=by simpa using hj
   unfold wpOpIn
   rw [ho]
   simp only [hw,if_true]
   exact h _ fun a w hq=>any_of_held (S:=fun _=>True) _ _ _ _ (AnyH_done hend hq)⟩
theorem wpIn_value {o:Oper} {a:Act} {w w':World} {v:Value} {K:Act→World→Prop} (hF:∀ f,F.fn f) (hnd:notDefer o = true) (h:(execOp a.eval o).run P w = .ok (.value v) w') (hk:K (a.put o.dst v) w'):Oper.wpIn F n P o a w K Q:=by
 simp only [Oper.wpIn,semAt_of hnd,h,Oper.uponIn]
 exact ⟨fun f _=>hF f,hk⟩
theorem exec_append {o:Oper} {a:Act} {w w':World} {s x:Operand} {t:TypeId} {v1 v2 r:Value} (ho:o.op = .call { callee := .builtin .append,args:=#[s,x],argTypes:=#[t,t] }) (hs:a.eval s = v1) (hx:a.eval x = v2)
 (hr:(Builtin.append_ #[t,t] o.type #[v1,v2]).run P w = .ok r w'):(execOp a.eval o).run P w = .ok (.value r) w':=by
 unfold execOp
 simp only [ho,resolve,invoke,builtin,Sem.run_bind,Sem.run_pure,Result.andThen_ok,List.map_toArray,List.map_cons,List.map_nil,hs,hx,hr]
theorem region_T {id:Nat} {a:Act} {w:World} (S:World→Prop) (L:Nat) (hm:P.follows .mixedOrders = true)
 (h:AnyT F n P .any ops Q S L ops.size (Array.replicate ops.size false) a w.drew):(Code.region id ops true).wpIn F n P Q a w:=
 wpIn_region_any hm (any_of_T _ _ _ _ h)
end
end Go.Proofs.LF
namespace Go.Proofs.LF
open Go.RowKit
def Kd (u u':Value):Prop:=u' = u ∨ (∃ x y,u = .int .i64 x∧u' = .int .i64 y) ∨ ∃ s t,u = .string s∧u' = .string t
theorem Kd.refl (u:Value):Kd u u := .inl rfl
theorem Kd.trans {a b c:Value} (h:Kd a b) (k:Kd b c):Kd a c:=by
 rcases h with rfl | ⟨x,y,rfl,rfl⟩ | ⟨x,y,rfl,rfl⟩
 · exact k
 · rcases k with rfl | ⟨p,q,h1,rfl⟩ | ⟨p,q,h1,rfl⟩
   · exact .inr (.inl ⟨x,y,rfl,rfl⟩)
   · exact .inr (.inl ⟨x,q,rfl,rfl⟩)
   · cases h1
 · rcases k with rfl | ⟨p,q,h1,rfl⟩ | ⟨p,q,h1,rfl⟩
   · exact .inr (.inr ⟨x,y,rfl,rfl⟩)
   · cases h1
   · exact .inr (.inr ⟨x,q,rfl,rfl⟩)
theorem Kd.slice {a:Option Addr} {n c:Nat} {u:Value} (h:Kd (.slice a n c) u):u = .slice a n c:=by
 rcases h with rfl | ⟨x,y,h,_⟩ | ⟨x,y,h,_⟩
 · rfl
 · cases h
 · cases h
theorem Kd.int {x:Int} {u:Value} (h:Kd (.int .i64 x) u):∃ y,u = .int .i64 y:=by
 rcases h with rfl | ⟨x,y,h,rfl⟩ | ⟨x,y,h,_⟩
 · exact ⟨_,rfl⟩
 · exact ⟨_,rfl⟩
 · cases h
theorem Kd.str {x:ByteArray} {u:Value} (h:Kd (.string x) u):∃ y,u = .string y:=by
 rcases h with rfl | ⟨x,y,h,_⟩ | ⟨x,y,h,rfl⟩
 · exact ⟨_,rfl⟩
 · cases h
 · exact ⟨_,rfl⟩
def KP (w w':World):Prop:=∀ (b:Nat) (cs:Array Value) (t:TypeId) (fr:Nat × Nat),w.heap[b]? = some (.cells cs t fr)→∃ cs',w'.heap[b]? = some (.cells cs' t fr)∧∀ (o:Nat) u,cs[o]? = some u→∃ u',cs'[o]? = some u'∧Kd u u'
theorem KP.refl (w:World):KP w w:=fun b cs t fr h=>⟨cs,h,fun o u hu=>⟨u,hu,Kd.refl u⟩⟩
theorem KP.trans {a b c:World} (h:KP a b) (k:KP b c):KP a c:=fun q cs t fr hq=>by
 obtain ⟨cs1,h1,h2⟩:=h q cs t fr hq
 obtain ⟨cs2,k1,k2⟩:=k q cs1 t fr h1
 refine ⟨cs2,k1,fun o u hu=>?_⟩
 obtain ⟨u1,e1,d1⟩:=h2 o u hu
 obtain ⟨u2,e2,d2⟩:=k2 o u1 e1
 exact ⟨u2,e2,d1.trans d2⟩
theorem KP.of_below {w w':World} (h:Below w.heap.size w w'):KP w w':=fun b cs t fr hb=>
 ⟨cs,(h.block b (Array.getElem?_eq_some_iff.1 hb).1).trans hb,fun o u hu=>⟨u,hu,Kd.refl u⟩⟩
theorem KP.cell {w w':World} (h:KP w w') {b o:Nat} {u:Value} (hc:w.cell? ⟨b,o,none⟩ = some u):∃ u',w'.cell? ⟨b,o,none⟩ = some u'∧Kd u u':=by
 unfold World.cell? at hc ⊢
 simp only at hc ⊢
 cases hb:w.heap[b]? with
 | none=>rw [hb] at hc;cases hc
 | some x=>
   rw [hb] at hc
   cases x with
   | cells cs t fr=>
     obtain ⟨cs',h1,h2⟩:=h b cs t fr hb
     rw [h1]
     simp only [Option.isSome_none,Bool.false_eq_true,if_false] at hc ⊢
     exact h2 o u hc
   | _=>cases hc
theorem KP.uf {w w':World} (h:KP w w') {q:Nat} (hu:Uf w q):Uf w' q:=by
 obtain ⟨cs,t,hb⟩:=hu
 obtain ⟨cs',h1,_⟩:=h q cs t (0,0) hb
 exact ⟨cs',t,h1⟩
theorem KP.setCell {w:World} {b o:Nat} {u v:Value} (hc:w.cell? ⟨b,o,none⟩ = some u) (hd:Kd u v):KP w (w.setCell ⟨b,o,none⟩ v):=fun q cs t fr hq=>by
 by_cases hqb:b = q
 · subst hqb
   refine ⟨cs.setIfInBounds o v,by simp [World.setCell,Array.getElem?_modify,hq],fun i x hx=>?_⟩
   rw [Array.getElem?_setIfInBounds]
   by_cases hi:o = i
   · subst hi
     have hlt:o < cs.size:=(Array.getElem?_eq_some_iff.1 hx).1
     rw [if_pos rfl,if_pos hlt]
     unfold World.cell? at hc
     simp only [hq,Option.isSome_none,Bool.false_eq_true,if_false] at hc
     rw [hx] at hc
     cases hc
     exact ⟨v,rfl,hd⟩
   · rw [if_neg hi]
     exact ⟨x,hx,Kd.refl x⟩
 · exact ⟨cs,(Below.heap_setCell _ _ _ _ (Ne.symm hqb)).trans hq,fun i x hx=>⟨x,hx,Kd.refl x⟩⟩
theorem KP.zeros (b:Nat):∀ (n o:Nat) (w:World),(∀ j,j < n→∃ x,w.cell? ⟨b,o + j,none⟩ = some (.int .i64 x))→KP w (w.setCells b o (List.replicate n (.int .i64 0)))
 | 0,_,w,_=>KP.refl w
 | n + 1,o,w,h=>by
   obtain ⟨x,hx⟩:=h 0 (by omega)
   rw [Nat.add_zero] at hx
   have h1:KP w (w.setCell ⟨b,o,none⟩ (.int .i64 0)):=KP.setCell hx (.inr (.inl ⟨_,_,rfl,rfl⟩))
   refine h1.trans ?_
   show KP _ ((w.setCell ⟨b,o,none⟩ (.int .i64 0)).setCells b (o + 1) (List.replicate n (.int .i64 0)))
   refine KP.zeros b n (o + 1) _ fun j hj=>?_
   obtain ⟨y,hy⟩:=h (j + 1) (by omega)
   rw [show o + 1 + j = o + (j + 1) by omega]
   obtain ⟨u',k1,k2⟩:=h1.cell hy
   obtain ⟨z,rfl⟩:=k2.int
   exact ⟨z,k1⟩
theorem list_of {P:Nat→Value→Prop}:∀ (n:Nat),(∀ j,j < n→∃ u,P j u)→∃ l:List Value,l.length = n∧∀ j u,l[j]? = some u→P j u
 | 0,_=>⟨[],rfl,fun j u h=>by simp at h⟩
 | n + 1,h=>by
   obtain ⟨l,h1,h2⟩:=list_of n fun j hj=>h j (by omega)
   obtain ⟨u,hu⟩:=h n (by omega)
   refine ⟨l ++ [u],by simp [h1],fun j v hv=>?_⟩
   by_cases hj:j < l.length
   · rw [List.getElem?_append_left hj] at hv;exact h2 j v hv
   · rw [List.getElem?_append_right (by omega)] at hv
     have:j - l.length = 0:=by
      have:=(List.getElem?_eq_some_iff.1 hv).1
      simp at this;omega
     rw [this] at hv
     simp only [List.getElem?_cons_zero,Option.some.injEq] at hv
     subst hv
     rw [show j = n by omega];exact hu
theorem KP.slc {S:Nat→Prop} {w w':World} {k n:Nat} {v:Value} {cs:List Value} (h:SlC (US S w) w k v n cs) (hk:KP w w'):∃ cs',SlC (US S w') w' k v n cs'∧cs'.length = cs.length∧∀ (j:Nat) (u u':Value),cs[j]? = some u→cs'[j]? = some u'→Kd u u':=by
 obtain ⟨h0,a,c,h1,h2,h3,h4,h5⟩:=h
 rcases h5 with h5 | ⟨g,o,h6,h7,h8⟩
 · have hcs:cs = []:=List.eq_nil_of_length_eq_zero (by rw [h0,h5];simp)
   subst hcs
   exact ⟨[],⟨h0,a,c,h1,h2,h3,h4, .inl h5⟩,rfl,fun j u u' hj=>by simp at hj⟩
 · obtain ⟨l,l1,l2⟩:=list_of (P:=fun j u'=>w'.cell? ⟨g,o + j,none⟩ = some u'∧∀ u,cs[j]? = some u→Kd u u') cs.length fun j hj=>by
    obtain ⟨u',k1,k2⟩:=hk.cell (h8 j cs[j] (by simp [hj]))
    exact ⟨u',k1,fun u hu=>by rw [List.getElem?_eq_getElem hj] at hu;cases hu;exact k2⟩
   exact ⟨l,⟨by rw [l1];exact h0,a,c,h1,h2,h3,h4, .inr ⟨g,o,h6,⟨h7.1,hk.uf h7.2⟩,fun j u hj=>(l2 j u hj).1⟩⟩,l1,fun j u u' hj hj'=>(l2 j u' hj').2 u hj⟩
theorem KP.ints {S:Nat→Prop} {w w':World} {v:Value} {l:List Int} (h:IntU S w v l) (hk:KP w w'):∃ l',IntU S w' v l'∧l'.length = l.length:=by
 obtain ⟨cs',h1,h2,h3⟩:=KP.slc h hk
 rw [List.length_map] at h2
 have hex:∃ l':List Int,l'.length = l.length∧cs' = l'.map (Value.int .i64):=by
  have hall:∀ u ∈ cs',∃ y,u = .int .i64 y:=fun u hu=>by
   obtain ⟨j,hj,rfl⟩:=List.getElem_of_mem hu
   have:=h3 j (.int .i64 (l[j]'(by omega))) cs'[j] (by simp [show j < l.length by omega]) (by simp [hj])
   exact this.int
  clear h1 h3
  revert h2 hall
  generalize l.length = n
  intro h2 hall
  subst h2
  induction cs' with
  | nil=>exact ⟨[],rfl,rfl⟩
  | cons u cs ih=>
    obtain ⟨y,rfl⟩:=hall u (by simp)
    obtain ⟨l',e1,e2⟩:=ih (fun u hu=>hall u (by simp [hu]))
    exact ⟨y :: l',by simp [e1],by simp [e2]⟩
 obtain ⟨l',e1,rfl⟩:=hex
 refine ⟨l',?_,e1⟩
 show SlC _ _ _ _ _ _
 rw [e1];exact h1
theorem KP.fcs {S:Nat→Prop} {w w':World} (hk:KP w w'):∀ (y:Fo) (cs cs':List Value),FCsU S w y cs→cs'.length = cs.length→(∀ (j:Nat) (u u':Value),cs[j]? = some u→cs'[j]? = some u'→Kd u u')→∃ y',FCsU S w' y' cs'∧y'.len = y.len∧y'.cnt = y.cnt
 | .nil,cs,cs',h,hl,_=>by
   rw [show cs = [] from h] at hl
   rw [List.eq_nil_of_length_eq_zero (show cs'.length = 0 by simpa using hl)]
   exact ⟨.nil,rfl,rfl,rfl⟩
 | .cons n l s r,cs,cs',⟨vn,vs,ds,h1,h2,⟨es,h3,h4⟩,h5⟩,hl,hd=>by
   subst h1
   match cs',hl with
   | [c0,c1,c2],hl=>
     simp only [List.length_cons,List.length_nil] at hl
     have hds:ds = []:=List.eq_nil_of_length_eq_zero (by omega)
     subst hds
     have:=FCs.length h5
     have hr:r = .nil:=by
      cases r with
      | nil=>rfl
      | cons _ _ _ _=>simp only [List.length_nil,Fo.len] at this;omega
     subst hr
     obtain ⟨s0,e0⟩:=(hd 0 _ c0 rfl rfl).str
     obtain ⟨an,cn,rfl,_⟩:=SlC.shape h2
     obtain ⟨ab,cb,rfl,_⟩:=SlC.shape h3
     have e1:=(hd 1 _ c1 rfl rfl).slice
     have e2:=(hd 2 _ c2 rfl rfl).slice
     obtain ⟨l',k1,k2⟩:=KP.ints h2 hk
     obtain ⟨es',m1,m2,m3⟩:=KP.slc h3 hk
     obtain ⟨s',q1,q2,q3⟩:=KP.fcs hk s es es' h4 m2 m3
     subst e0 e1 e2
     refine ⟨.cons s0.data.toList l' s' .nil,⟨_,_,[],by rw [bs_of],k1,⟨es',by rw [q2];exact m1,q1⟩,rfl⟩,rfl,?_⟩
     simp only [Fo.cnt,q3]
   | c0 :: c1 :: c2 :: c3 :: ct,hl=>
     obtain ⟨s0,e0⟩:=(hd 0 _ c0 rfl rfl).str
     obtain ⟨an,cn,rfl,_⟩:=SlC.shape h2
     obtain ⟨ab,cb,rfl,_⟩:=SlC.shape h3
     have e1:=(hd 1 _ c1 rfl rfl).slice
     have e2:=(hd 2 _ c2 rfl rfl).slice
     obtain ⟨l',k1,k2⟩:=KP.ints h2 hk
     obtain ⟨es',m1,m2,m3⟩:=KP.slc h3 hk
     obtain ⟨s',q1,q2,q3⟩:=KP.fcs hk s es es' h4 m2 m3
     obtain ⟨r',p1,p2,p3⟩:=KP.fcs hk r ds (c3 :: ct) h5 (by simp only [List.length_cons] at hl ⊢;omega) (fun j u u' hj hj'=>hd (j + 3) u u' (by simpa using hj) (by simpa using hj'))
     subst e0 e1 e2
     refine ⟨.cons s0.data.toList l' s' r',⟨_,_,c3 :: ct,by rw [bs_of],k1,⟨es',by rw [q2];exact m1,q1⟩,p1⟩,?_,?_⟩
     · simp only [Fo.len,p2]
     · simp only [Fo.cnt,q3,p3]
   | [],hl=>simp at hl
   | [_],hl=>simp at hl
   | [_,_],hl=>simp at hl
theorem KP.fsl {S:Nat→Prop} {w w':World} {v:Value} {y:Fo} (h:FSlU S w v y) (hk:KP w w'):∃ y',FSlU S w' v y'∧y'.len = y.len∧y'.cnt = y.cnt:=by
 obtain ⟨ds,h1,h2⟩:=h
 obtain ⟨ds',k1,k2,k3⟩:=KP.slc h1 hk
 obtain ⟨y',q1,q2,q3⟩:=KP.fcs hk y ds ds' h2 k2 k3
 exact ⟨y',⟨ds',by rw [q2];exact k1,q1⟩,q2,q3⟩
end Go.Proofs.LF
