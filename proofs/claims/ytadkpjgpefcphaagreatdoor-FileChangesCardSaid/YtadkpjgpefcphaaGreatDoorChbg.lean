/- Parts of the proof of a law of layer 11 (file): LfW60, LfW67, LfW56, LfW102. The conditions stand in each theorem. -/
import Derived.Test.YtadkpjgpefcphaaGreatDoorProg
import Derived.Test.YtadkpjgpefcphaaGreatDoorChab
import Derived.Test.YtadkpjgpefcphaaGreatDoorChac
import Derived.Test.YtadkpjgpefcphaaGreatDoorChag
import Derived.Test.YtadkpjgpefcphaaGreatDoorChah
import Derived.Test.YtadkpjgpefcphaaGreatDoorCham
import Derived.Test.YtadkpjgpefcphaaGreatDoorChan
import Derived.Test.YtadkpjgpefcphaaGreatDoorChaw
import Derived.Test.YtadkpjgpefcphaaGreatDoorChbb
import Derived.Test.YtadkpjgpefcphaaGreatDoorChbe
set_option linter.all false
set_option linter.unusedVariables false
set_option linter.unusedSimpArgs false
namespace Go.Proofs.LF
open Go.RowKit Go.Sort
set_option maxHeartbeats 4000000
set_option maxRecDepth 100000
attribute [local go_sem] bs_toList bs_size bs_get
theorem alikeI_any (l m:List Int) (an am:Option Addr) (cn cm:Nat) (S:Nat→Prop) (w:World) (hl:Ints S w (.slice an l.length cn) l) (hm:Ints S w (.slice am m.length cm) m) (hlen:l.length ≤ 100000) (hlen2:m.length ≤ 100000) :
 Calls Tryz.prog 149 #[.slice an l.length cn, .slice am m.length cm] w fun e w'=>e = .returned (.bool (decide (l = m)))∧Below w.heap.size w w':=by
 by_cases hne:l.length = m.length
 · have hne':((l.length:Int) != (m.length:Int)) = false:=by simp;omega
   have HN:=hid hne
   clear hne
   go_enter Tryz.func149,Tryz.ntmps149
   go_wp2_with fail
   go_loopw [5] (fun i wr=>∃ (k d:Nat),k ≤ l.length∧i = .int .i64 k∧wr = w.drewN d∧Hid (l.take k = m.take k)) (fun i _=>l.length - (intOf i).toNat)
   case atStart=>exact ⟨0,0,by omega,rfl,rfl,by simp [Hid]⟩
   case round=>
    obtain ⟨k,d,hk,rfl,rfl,H2⟩:=hrel
    by_cases hlt:k < l.length
    · obtain ⟨g,o,rfl,_,_,_,hcell⟩:=SlC.cells hl (by omega)
      obtain ⟨g',o',rfl,_,_,_,hcell'⟩:=SlC.cells hm (by have:=HN.out;omega)
      have hlt':k < m.length:=by have:=HN.out;omega
      have hx:w.cell? ⟨g,o + k,none⟩ = some (.int .i64 l[k]):=hcell k _ (by simp [hlt])
      have hx':w.cell? ⟨g',o' + k,none⟩ = some (.int .i64 m[k]):=hcell' k _ (by simp [hlt'])
      clear hcell hcell'
      have i1:(0:Int) ≤ (k:Int):=by omega
      have i2:(k:Int) < (l.length:Int):=by omega
      have i3:(k:Int) < (m.length:Int):=by omega
      by_cases he:l[k] = m[k]
      · have he':(l[k] != m[k]) = false:=by simpa using he
        have HE:=hid he
        clear he
        go_wp2_with fail
        go_quiet (fail)
        go_wp2_with fail
        go_roundw
        case rel=>exact ⟨k + 1,_,by omega,by go_num,rfl,by rw [Hid,List.take_succ_eq_append_getElem hlt,List.take_succ_eq_append_getElem hlt',H2.out,HE.out]⟩
        case measure=>simp [intOf];omega
      · have he':(l[k] != m[k]) = true:=by simpa using he
        have HE:=hid he
        clear he
        go_wp2_with fail
        go_quiet (fail)
        go_wp2_with fail
        go_ret
        refine ⟨ret_bool ?_,below_drewN (below_drewN (Below.refl _ _) _) _⟩
        symm
        rw [decide_eq_false_iff_not]
        rintro rfl
        exact HE.out rfl
    · go_wp2_with fail
      go_ret
      obtain rfl:k = l.length:=by omega
      refine ⟨ret_bool ?_,below_drewN (Below.refl _ _) _⟩
      symm
      have:=H2.out
      rw [List.take_length,HN.out,List.take_length] at this
      exact decide_eq_true this
 · have hne':((l.length:Int) != (m.length:Int)) = true:=by simp;omega
   have HN:=hid hne
   clear hne
   go_enter Tryz.func149,Tryz.ntmps149
   go_wp2_with fail
   go_ret
   refine ⟨ret_bool ?_,Below.refl _ _⟩
   symm
   rw [decide_eq_false_iff_not]
   rintro rfl
   exact HN.out rfl
theorem Ahead_any (p q:List Ky) (ap aq:Option Addr) (cp cq:Nat) (S:Nat→Prop) (w:World) (hp:Pth S w (.slice ap p.length cp) p) (hq:Pth S w (.slice aq q.length cq) q) (hS:∀ b,S b→b < w.heap.size) (lp:p.length ≤ 100000) (lq:q.length ≤ 100000) :
 Calls Tryz.prog 150 #[.slice ap p.length cp, .slice aq q.length cq] w fun e w'=>e = .returned (.bool (decide (cmpP p q < 0)))∧Below w.heap.size w w':=by
 go_enter Tryz.func150,Tryz.ntmps150
 go_wp2_with fail
 go_loopw [5] (fun i wr=>∃ (k d:Nat),k ≤ p.length∧k ≤ q.length∧i = .int .i64 k∧wr = w.drewN d∧Hid (p.take k = q.take k)) (fun i _=>p.length - (intOf i).toNat)
 case atStart=>exact ⟨0,0,by omega,by omega,rfl,rfl,by simp [Hid]⟩
 case round=>
  obtain ⟨k,d,hk,hkq,rfl,rfl,H2⟩:=hrel
  have i1:(0:Int) ≤ (k:Int):=by omega
  by_cases hlt:k < p.length
  · have i2:(k:Int) < (p.length:Int):=by omega
    by_cases hlt':k < q.length
    · have i3:(k:Int) < (q.length:Int):=by omega
      obtain ⟨g,o,rfl,hg,_,_,hcell⟩:=SlC.cells hp (by omega)
      obtain ⟨g',o',rfl,hg',_,_,hcell'⟩:=SlC.cells hq (by omega)
      obtain ⟨k0,k1,k2⟩:=key_cells hlt
      obtain ⟨k0',k1',k2'⟩:=key_cells hlt'
      have c0:=hcell _ _ k0
      have c1:=hcell _ _ k1
      have c2:=hcell _ _ k2
      have d0:=hcell' _ _ k0'
      have d1:=hcell' _ _ k1'
      have d2:=hcell' _ _ k2'
      rw [← Nat.add_assoc] at c1 c2 d1 d2
      have htp:p.take (k + 1) = p.take k ++ [p[k]]:=List.take_succ_eq_append_getElem hlt
      have htq:q.take (k + 1) = q.take k ++ [q[k]]:=List.take_succ_eq_append_getElem hlt'
      obtain ⟨a,ha⟩:∃ a,p[k] = a:=⟨_,rfl⟩
      obtain ⟨b,hb⟩:∃ b,q[k] = b:=⟨_,rfl⟩
      have HAT:=hid (fun hne=>ahead_at H2.out hlt hlt' ha hb hne)
      rw [ha] at c0 c1 c2 htp
      rw [hb] at d0 d1 d2 htq
      have HTP:=hid htp
      have HTQ:=hid htq
      have HG:=hid (hS g hg)
      have HG':=hid (hS g' hg')
      clear hcell hcell' k0 k1 k2 k0' k1' k2' htp htq ha hb
      by_cases he:a = b
      · subst he
        go_wp2_with fail
        go_quiet (fail)
        go_wp2_with fail
        go_roundw
        case rel=>exact ⟨k + 1,_,by omega,by omega,by go_num,rfl,by rw [Hid,HTP.out,HTQ.out,H2.out]⟩
        case measure=>simp [intOf];omega
      · have hdec:(a.n == b.n && (a.h == b.h && a.x == b.x)) = false:=by rw [← ky_beq];simp [he]
        have HA:=hid (HAT.out he)
        have HDEC:=hid hdec
        clear he hdec HAT
        cases hn:(a.n == b.n) <;> cases hh:(a.h == b.h) <;> cases hx:(a.x == b.x)
        all_goals first
         | (exfalso;have:=HDEC.out;rw [hn,hh,hx] at this;cases this;done)
         | (go_wp2_with fail
            go_quiet (fail)
            go_wp2_with fail
            go_region_held3 (fun w'=>w'.cell? ⟨g,o + k * 3,none⟩ = some (.string (bs a.n))∧w'.cell? ⟨g,o + k * 3 + 1,none⟩ = some (.bool a.h)∧w'.cell? ⟨g,o + k * 3 + 2,none⟩ = some (.int .i64 a.x)∧w'.cell? ⟨g',o' + k * 3,none⟩ = some (.string (bs b.n))∧w'.cell? ⟨g',o' + k * 3 + 1,none⟩ = some (.bool b.h)∧w'.cell? ⟨g',o' + k * 3 + 2,none⟩ = some (.int .i64 b.x))
             (first
               | go_keep
               | (go_split_ands;have hz9:=hb9.size;have hg9:=HG.out;have hg9':=HG'.out;simp at hz9;refine ⟨?_,?_,?_,?_,?_,?_⟩ <;> exact bc_ hb9 (by simp;omega) (by assumption)))
             (first | (go_at_call 108;refine (before_any a b _).mono ?_;rintro e w9 ⟨rfl,hb9⟩))
            go_wp2_with fail
            go_ret
            exact ⟨ret_bool HA.out.symm,⟨hb9.os,hb9.tape,hb9.output,hb9.size,hb9.block⟩⟩)
    · have i3:¬ (k:Int) < (q.length:Int):=by omega
      have HE:=hid (ahead_end H2.out (.inr ⟨by omega,by omega⟩))
      go_wp2_with fail
      go_ret
      refine ⟨ret_bool ?_,below_drewN (Below.refl _ _) _⟩
      rw [HE.out]
  · have i2:¬ (k:Int) < (p.length:Int):=by omega
    have HE:=hid (ahead_end H2.out (.inl ⟨by omega,by omega⟩))
    go_wp2_with fail
    go_ret
    refine ⟨ret_bool ?_,below_drewN (Below.refl _ _) _⟩
    rw [HE.out]
theorem Find_any (l:List Fl) (p:List Ky) (al ap:Option Addr) (cl cp:Nat) (S:Nat→Prop) (w:World) (hl:LSl rdFl S w (.slice al l.length cl) l) (hp:Pth S w (.slice ap p.length cp) p) (hS:∀ b,S b→b < w.heap.size) (ll:l.length ≤ 100000) (lx:∀ x ∈ l,x.p.length ≤ 1000) (lp:p.length ≤ 1000) :
 Calls Tryz.prog 113 #[.slice al l.length cl, .slice ap p.length cp] w fun e w'=>e = .returned (.int .i64 (fiI l p))∧Below w.heap.size w w':=by
 obtain ⟨_,_,he,hc,hm,hat⟩:=hl.at
 cases he
 have HAT:=hid hat
 have HP:=hid hp
 have HS:=hid hS
 have HLX:=hid lx
 unfold maxLen at hm
 clear hl hat hp hS lx
 go_enter Tryz.func113,Tryz.ntmps113
 go_wp2_with fail
 go_loopw [5] (fun i wr=>∃ k:Nat,k ≤ l.length∧i = .int .i64 k∧Hid (fiI l p = fiG p k (l.drop k))∧Hid (Below w.heap.size w wr)) (fun i _=>l.length - (intOf i).toNat)
 case atStart=>exact ⟨0,by omega,rfl,rfl,Below.refl _ _⟩
 case round=>
  obtain ⟨k,hk,rfl,hf,hB⟩:=hrel
  have i1:(0:Int) ≤ (k:Int):=by omega
  by_cases hlt:k < l.length
  · have i2:(k:Int) < (l.length:Int):=by omega
    obtain ⟨g0,o,cs1,rfl,hg,⟨ax,cx,an,cn,rfl,hP,_⟩,hcell⟩:=HAT.out k hlt
    obtain ⟨x,hx⟩:∃ x,l[k] = x:=⟨_,rfl⟩
    rw [hx] at hP hcell
    have hmem:x ∈ l:=by rw [← hx];exact List.getElem_mem hlt
    have x1:=HLX.out x hmem
    have ha:Agree S w wr:=Ag_b hB.out HS.out
    have c0:=ha.cell hg (hcell 0 _ rfl)
    rw [Nat.add_zero] at c0
    obtain ⟨hst1,hst2⟩:=fiG_step hf.out hlt hx
    have H1:=hid hst1
    have H2:=hid hst2
    have SM:=hid (Same_any x.p p ax ap cx cp S wr (hP.agree ha) (HP.out.agree ha) (by omega) (by omega))
    have hsz:=hB.out.size
    clear hcell hP hst1 hst2 hmem hx
    by_cases he:x.p = p
    · rw [decide_eq_true he] at SM
      have H1:=hid (H1.out he)
      clear he
      go_wp2_with fail
      refine SM.out.mono ?_
      rintro e w2 ⟨rfl,hb2⟩
      go_wp2_with fail
      go_ret
      exact ⟨ret_int H1.out.symm,hB.out.trans (hb2.mono hsz)⟩
    · rw [decide_eq_false he] at SM
      have H2:=hid (H2.out he)
      clear he
      go_wp2_with fail
      refine SM.out.mono ?_
      rintro e w2 ⟨rfl,hb2⟩
      go_wp2_with fail
      go_roundw
      case rel=>exact ⟨k + 1,by omega,by go_num,H2.out,hB.out.trans (hb2.mono hsz)⟩
      case measure=>simp [intOf];omega
  · have i2:¬ (k:Int) < (l.length:Int):=by omega
    obtain rfl:k = l.length:=by omega
    have HE:=hid (fiG_end hf.out)
    go_wp2_with fail
    go_ret
    exact ⟨ret_int HE.out.symm,hB.out⟩
end Go.Proofs.LF
namespace Go.Proofs.LF
open Go.RowKit Go.Sort
set_option maxHeartbeats 4000000
set_option maxRecDepth 100000
attribute [local go_sem] bs_toList bs_size bs_get
def firE:List Int→Int
 | []=>0
 | e :: r=>if e ≠ 0 then e else firE r
theorem firE_yes {l:List Int} {k:Nat} {e:Int} (h:firE l = firE (l.drop k)) (hk:k < l.length) (he:l[k] = e) (h0:e ≠ 0):firE l = e:=by
 rw [h,List.drop_eq_getElem_cons hk,he,firE,if_pos h0]
theorem firE_no {l:List Int} {k:Nat} {e:Int} (h:firE l = firE (l.drop k)) (hk:k < l.length) (he:l[k] = e) (h0:e = 0):firE l = firE (l.drop (k + 1)):=by
 rw [h,List.drop_eq_getElem_cons hk,he,firE,if_neg (by simpa using h0)]
theorem first_any (l:List Int) (a:Option Addr) (c:Nat) (S:Nat→Prop) (w:World) (hl:Ints S w (.slice a l.length c) l) (ll:l.length ≤ 1000) :
 Calls Tryz.prog 30 #[.slice a l.length c] w fun e w'=>e = .returned (.int .i64 (firE l))∧w' = w:=by
 go_enter Tryz.func30,Tryz.ntmps30
 go_wp2_with fail
 go_loopw [7] (fun i wr=>∃ k:Nat,k ≤ l.length∧i = .int .i64 k∧Hid (firE l = firE (l.drop k))∧wr = w) (fun i _=>l.length - (intOf i).toNat)
 case atStart=>exact ⟨0,by omega,rfl,rfl,rfl⟩
 case round=>
  obtain ⟨k,hk,rfl,hf,rfl⟩:=hrel
  have i1:(0:Int) ≤ (k:Int):=by omega
  by_cases hlt:k < l.length
  · have i2:(k:Int) < (l.length:Int):=by omega
    obtain ⟨g,o,rfl,_,_,_,hcell⟩:=SlC.cells hl (by omega)
    have c0:=hcell k (.int .i64 l[k]) (by simp [hlt])
    obtain ⟨e,he⟩:∃ e,l[k] = e:=⟨_,rfl⟩
    rw [he] at c0
    by_cases h0:e = 0
    · have HN:=hid (firE_no hf.out hlt he h0)
      have b0:(e != 0) = false:=by simpa using h0
      subst h0
      clear hcell he
      go_wp2_with fail
      go_roundw
      case rel=>exact ⟨k + 1,by omega,by go_num,HN.out,by simp⟩
      case measure=>simp [intOf];omega
    · have HN:=hid (firE_yes hf.out hlt he h0)
      have b0:(e != 0) = true:=by simpa using h0
      clear hcell he h0
      go_wp2_with fail
      go_ret
      exact ⟨ret_int HN.out.symm,rfl⟩
  · have i2:¬ (k:Int) < (l.length:Int):=by omega
    obtain rfl:k = l.length:=by omega
    have hn:=hf.out
    rw [List.drop_length] at hn
    have HN:=hid hn
    clear hn
    go_wp2_with fail
    go_ret
    exact ⟨ret_int HN.out.symm,rfl⟩
theorem keys_snoc {p:List Ky} {k:Nat} {a:Ky} (hk:k < p.length) (ha:p[k] = a):(p.take (k + 1)).flatMap Ky.cells = (p.take k).flatMap Ky.cells ++ [.string (bs a.n), .bool a.h, .int .i64 a.x]:=by
 rw [List.take_succ_eq_append_getElem hk,ha,List.flatMap_append];simp [Ky.cells]
theorem path_any (p:List Ky) (a:Option Addr) (c:Nat) (S:Nat→Prop) (w:World) (hp:Pth S w (.slice a p.length c) p) (hS:∀ b,S b→b < w.heap.size) (lp:p.length ≤ 1000) :
 Calls Tryz.prog 55 #[.slice a p.length c] w fun e w'=>∃ a c,e = .returned (.slice a p.length c)∧Pth (Rg w.heap.size w'.heap.size) w' (.slice a p.length c) p∧Below w.heap.size w w':=by
 obtain ⟨j0,hj0,hy0,hy1,hy2⟩:=info_parts Tryz.info160
 go_enter Tryz.func55,Tryz.ntmps55
 go_wp2_with fail
 go_loopw [3,8] (fun v i wr=>∃ k:Nat,k ≤ p.length∧i = .int .i64 k∧wr.ownsRow w.heap.size 160 3 v k ((p.take k).flatMap Ky.cells)∧Hid (Below w.heap.size w wr)) (fun _ i _=>p.length - (intOf i).toNat)
 case atStart=>exact ⟨0,by omega,rfl,World.ownsRow_nil _ _ _ _,Below.refl _ _⟩
 case round=>
  obtain ⟨k,hk,rfl,hown,hB⟩:=hrel
  have i1:(0:Int) ≤ (k:Int):=by omega
  have hz:=hB.out.size
  by_cases hlt:k < p.length
  · have i2:(k:Int) < (p.length:Int):=by omega
    obtain ⟨g,o,rfl,hg,k0,k1,k2⟩:=hp.key hlt
    obtain ⟨x,hx⟩:∃ x,p[k] = x:=⟨_,rfl⟩
    rw [hx] at k0 k1 k2
    have hgl:=hS g hg
    have c0:=bc_ hB.out hgl k0
    have c1:=bc_ hB.out hgl k1
    have c2:=bc_ hB.out hgl k2
    have hsn:=keys_snoc hlt hx
    have HSN:=hid hsn
    clear k0 k1 k2 hx hsn
    go_wp2_with (at_builtin;refine (wpList_append_ao _ rfl _ _ _ rfl w.heap.size 160 j0 _ 3 32 Tryz.underlying92 hj0 hy0 hy1 hy2 rfl (by omega) u3 k ((p.take k).flatMap Ky.cells) rfl ((hown.alloc _).alloc _) (some ⟨wr.heap.size + 1,0,none⟩) 1 1 [.string (bs x.n), .bool x.h, .int .i64 x.x] rfl rfl (fun h=>by cases h) (fun ad had=>by cases had;exact World.news_of_block (cs:=#[.string (bs x.n), .bool x.h, .int .i64 x.x]) (t:=160) (fr:=(0,0)) (by simpa using heap_alloc_new (wr.alloc (.cells #[.string (bs x.n), .bool x.h, .int .i64 x.x] 71)) (.cells #[.string (bs x.n), .bool x.h, .int .i64 x.x] 160))) (by simp [Value.oneCell']) (by unfold maxLen;omega) (by omega) (by simp;omega) ?_);intro a8 c8 w8 hown8 hgrow8 hat8)
    have hB8:Hid (Below w.heap.size w w8):=((hB.out.alloc hz _).alloc (by simp;omega) _).grown hgrow8 (by simp;omega) (fun q hq=>(hown.lt q hq).1)
    rw [← HSN.out] at hown8
    go_roundw
    case rel=>exact ⟨k + 1,by omega,by go_num,hown8,hB8⟩
    case measure=>simp [intOf];omega
  · have i2:¬ (k:Int) < (p.length:Int):=by omega
    obtain rfl:k = p.length:=by omega
    obtain ⟨a9,c9,rfl,_,_⟩:=owns_shape hown
    go_wp2_with fail
    go_ret
    rw [List.take_length] at hown
    exact ⟨a9,c9,rfl,SlC.of_owns hown,hB.out⟩
end Go.Proofs.LF
namespace Go.Proofs.LF
open Go.RowKit Go.Sort
set_option maxHeartbeats 4000000
set_option maxRecDepth 100000
attribute [local go_sem] bs_toList bs_size bs_get
def TreeC (L:List Fl) (u:List Ky) (a:Option Addr) (c:Nat) (ua:Option Addr) (uc:Nat) (y:Fo):Prop:=∀ (S:Nat→Prop) (w:World),LSl rdFl S w (.slice a L.length c) L→Pth S w (.slice ua u.length uc) u→(∀ b,S b→b < w.heap.size) →
 Calls Tryz.prog 29 #[.slice a L.length c, .slice ua u.length uc] w fun e w'=>∃ a c,e = .returned (.slice a y.len c)∧FSl (Rg w.heap.size w'.heap.size) w' (.slice a y.len c) y∧Below w.heap.size w w'
theorem Tree_step (L:List Fl) (u:List Ky) (g:Fl→Fo) (a:Option Addr) (c:Nat) (ua:Option Addr) (uc:Nat) (ll:L.length ≤ 1000) (lx:∀ x ∈ L,x.p.length ≤ 900∧x.l.length ≤ 900) (lu:u.length ≤ 900)
 (H:∀ x ∈ L,isCh u x = true→∀ (ap:Option Addr) (cp:Nat),TreeC L x.p a c ap cp (g x)):TreeC L u a c ua uc (toFo g u.length (L.filter (isCh u))):=by
 intro S w hL hu hS
 obtain ⟨_,_,he,hc,hm,hat⟩:=hL.at
 cases he
 obtain ⟨i0,hi0,hz0,hz1,hz2⟩:=info_parts Tryz.info97
 obtain ⟨j0,hj0,hy0,hy1,hy2⟩:=info_parts Tryz.info3
 have HH:=hid H
 have HL:=hid hL
 have HU:=hid hu
 have HS:=hid hS
 have HAT:=hid hat
 have HLX:=hid lx
 clear H hL hu hat lx
 unfold maxLen at hm
 go_enter Tryz.func29,Tryz.ntmps29
 go_wp2_with fail
 go_loopw [5,6] (fun v i wr=>∃ (k:Nat) (cs:List Value),k ≤ L.length∧i = .int .i64 k∧wr.ownsRow w.heap.size 97 3 v ((L.take k).filter (isCh u)).length cs∧Hid (FCs (Rx w.heap.size wr.heap.size v) wr (toFo g u.length ((L.take k).filter (isCh u))) cs)∧Hid (Below w.heap.size w wr)) (fun _ i _=>L.length - (intOf i).toNat)
 case atStart=>exact ⟨0,[],by omega,rfl,World.ownsRow_nil _ _ _ _,rfl,Below.refl _ _⟩
 case round=>
  obtain ⟨k,cs,hk,rfl,hown,hfc,hB⟩:=hrel
  by_cases hlt:k < L.length
  · obtain ⟨g0,o,cs1,rfl,hg,⟨ap,cp,an,cn,rfl,hP,hI⟩,hcell⟩:=HAT.out k hlt
    obtain ⟨x,hx⟩:∃ x,L[k] = x:=⟨_,rfl⟩
    rw [hx] at hP hI hcell
    have hmem:x ∈ L:=by rw [← hx];exact List.getElem_mem hlt
    obtain ⟨x1,x2⟩:=HLX.out x hmem
    have ha:Agree S w wr:=Ag_b hB.out HS.out
    have c0:=ha.cell hg (hcell 0 _ rfl)
    have c1:=ha.cell hg (hcell 1 _ rfl)
    rw [Nat.add_zero] at c0
    rw [← Nat.add_assoc] at c1
    have HX:=hid hx
    have HM:=hid hmem
    have HP:=hid hP
    have HI:=hid hI
    have hsz:=hB.out.size
    have hlk:((L.take k).filter (isCh u)).length ≤ k:=Nat.le_trans (List.length_filter_le _ _) (by rw [List.length_take];omega)
    have hlt':(k:Int) < (L.length:Int):=by omega
    clear hcell hx hmem hP hI
    by_cases hlen:x.p.length = u.length + 1
    · have hlen':(x.p.length:Int) = (u.length:Int) + 1:=by omega
      have SM:=hid (same_take (HP.out.agree ha) (HU.out.agree ha) (b:=u.length) (by omega) (nl_ _) (by omega))
      obtain ⟨hcp,_,_⟩:=SlC.caps HP.out
      by_cases hpre:x.p.take u.length = u
      · have hdec:decide (x.p.take u.length = u.take u.length) = true:=by rw [List.take_length];exact decide_eq_true hpre
        have hch:isCh u x = true:=by unfold isCh;rw [decide_eq_true hlen,decide_eq_true hpre];rfl
        have HCH:=hid hch
        rw [hdec] at SM
        clear hpre hch hdec
        go_upto_if 32 with (go_at_call 73;refine SM.out.mono ?_;rintro e w2 ⟨rfl,hb2⟩)
        have hpk:u.length < x.p.length:=by omega
        obtain ⟨gp,op,rfl,hgp,kc0,_,_⟩:=HP.out.key hpk
        obtain ⟨nm,hnm⟩:∃ n,x.p[u.length].n = n:=⟨_,rfl⟩
        rw [hnm] at kc0
        have hzw2:=hb2.size
        have lgp:=HS.out gp hgp
        have lg0:=HS.out g0 hg
        have hB2:Below w.heap.size w w2:=hB.out.trans (hb2.mono hsz)
        have ha2:Agree S w w2:=Ag_b hB2 HS.out
        have d0:=ha2.cell hgp kc0
        have d1:=bc_ hb2 (by omega) c1
        have hown2:=ob_ hown hb2 (nl_ _)
        have hfc2:FCs (Rx w.heap.size w2.heap.size u5) w2 (toFo g u.length (List.filter (isCh u) (List.take k L))) cs:=(hfc.out.agree (Ag_b hb2 fun b hb=>hb.2.1)).wide fun b hb=>⟨hb.1,by have:=hb.2.1;omega,hb.2.2⟩
        have hne:=owns_ne hown2 (nl_ w2.heap.size)
        have hnone:=fun e:an = none=>(SlC.caps HI.out).2.2 e
        have hli:(x.l.map (Value.int .i64)).length = x.l.length * 1:=by simp
        have v1:(0:Int) ≤ (u.length:Int):=by omega
        have v2:(u.length:Int) < (u.length:Int) + 1:=by omega
        have v3:(u.length:Int) < (x.p.length:Int):=by omega
        have HFC:=hid hfc2
        have HB2:=hid hB2
        have HNM:=hid hnm
        have HHX:=hid (HH.out x HM.out HCH.out)
        have hown1u:∀ b,b < w.heap.size→u5.ownBlock ≠ some b:=fun b hb=>owns_ne' hown2 hb
        clear hfc2 hnm hfc hB hown kc0 SM c0 c1 ha
        go_wp2_with fail
        refine (wpIn_wide (n:=9)).1 ?_
        refine region_held (fun w':World=>w'.cell? ⟨gp,op + u.length * 3,none⟩ = some (.string (bs nm))∧w'.cell? ⟨g0,o + k * 2 + 1,none⟩ = some (.slice an x.l.length cn)) (by kernel_rfl) ?_
        have hS0:(fun w':World=>w'.cell? ⟨gp,op + u.length * 3,none⟩ = some (.string (bs nm))∧w'.cell? ⟨g0,o + k * 2 + 1,none⟩ = some (.slice an x.l.length cn)) w2.drew:=⟨d0,d1⟩
        refine tkY 0 33 (u5) rfl rfl hS0 (fun w' hs=>?_) ?_
        · go_simp
        refine tkY 1 34 (.slice (some ⟨gp,op,none⟩) (u.length + 1) cp) rfl rfl hS0 (fun w' hs=>?_) ?_
        · go_simp
        refine tkY 2 35 (.slice ua u.length uc) rfl rfl hS0 (fun w' hs=>?_) ?_
        · go_simp
        refine tkY 3 36 (.int .i64 u.length) rfl rfl hS0 (fun w' hs=>?_) ?_
        · go_simp
        refine tkY 4 37 (.pointer (some ⟨gp,op + u.length * 3,none⟩)) rfl rfl hS0 (fun w' hs=>?_) ?_
        · go_simp
        refine tkY 5 38 (.pointer (some ⟨gp,op + u.length * 3,none⟩)) rfl rfl hS0 (fun w' hs=>?_) ?_
        · go_simp
        refine tkY 6 39 (.string (bs nm)) rfl rfl hS0 (fun w' hs=>?_) ?_
        · go_simp
        refine tkY 8 41 (.slice (some ⟨g0,o,none⟩) L.length c) rfl rfl hS0 (fun w' hs=>?_) ?_
        · go_simp
        refine tkY 9 42 (.int .i64 k) rfl rfl hS0 (fun w' hs=>?_) ?_
        · go_simp
        refine tkY 10 43 (.pointer (some ⟨g0,o + k * 2,none⟩)) rfl rfl hS0 (fun w' hs=>?_) ?_
        · go_simp
        refine tkY 11 44 (.pointer (some ⟨g0,o + k * 2 + 1,none⟩)) rfl rfl hS0 (fun w' hs=>?_) ?_
        · go_simp
        refine tkY 12 45 (.slice an x.l.length cn) rfl rfl hS0 (fun w' hs=>?_) ?_
        · go_simp
        refine tkY 14 47 (.slice (some ⟨g0,o,none⟩) L.length c) rfl rfl hS0 (fun w' hs=>?_) ?_
        · go_simp
        refine tkY 15 48 (.slice (some ⟨gp,op,none⟩) (u.length + 1) cp) rfl rfl hS0 (fun w' hs=>?_) ?_
        · go_simp
        refine AnyH_one (i:=7) (by kernel_rfl) rfl (by kernel_rfl) (fun K hK=>?_)
        go_simp
        have hba:Below w2.heap.size w2 (w2.drew.alloc (.cells #[] 3)):=(Below.refl _ _).drew.alloc (nl_ _) _
        refine hK _ _ ⟨⟨bc_ hba (by omega) d0,bc_ hba (by omega) d1⟩,?_⟩
        clear hK
        obtain ⟨a3,c3,w3,hr3,hown3,hgrow3,hat3⟩:=run_append_ao (P:=Tryz.prog) (w2.drew.alloc (.cells #[] 3)) 66 66 w2.heap.size 3 j0 _ 1 8 Tryz.underlying66 hj0 hy0 hy1 hy2 rfl (by omega) (.slice (some ⟨w2.heap.size,0,none⟩) 0 0) 0 [] (owns_of_row (w:=w2.drew.alloc (.cells #[] 3)) (n:=0) (cap:=0) (cur:=#[]) (nl_ _) (heap_alloc_new w2.drew _) (by omega) (by unfold maxLen;omega) (by simp) (by simp)) an x.l.length cn (x.l.map (Value.int .i64)) hli hnone (SlC.news HI.out (Ag_b (HB2.out.trans (hba.mono HB2.out.size)) HS.out)) (one_ints x.l) (by unfold maxLen;omega) (by omega) (by simp)
        simp only [Nat.zero_add,List.nil_append] at hr3 hown3 hat3
        have hb3:Below w2.heap.size w2 w3:=hba.grown hgrow3 (by simp) (fun b hb=>by simp [Value.ownBlock] at hb;omega)
        have hz3:=hb3.size
        have hS3:(fun w':World=>w'.cell? ⟨gp,op + u.length * 3,none⟩ = some (.string (bs nm))∧w'.cell? ⟨g0,o + k * 2 + 1,none⟩ = some (.slice an x.l.length cn)) w3:=⟨bc_ hb3 (by omega) d0,bc_ hb3 (by omega) d1⟩
        refine AnyH_one (i:=13) (by kernel_rfl) rfl (by kernel_rfl) (fun K hK=>?_)
        refine wpIn_value (fun _=>trivial) rfl (exec_append rfl rfl rfl hr3) ?_
        refine hK _ _ ⟨hS3,?_⟩
        clear hK hr3
        refine AnyH_one (i:=16) (by kernel_rfl) rfl (by kernel_rfl) (fun K hK=>?_)
        go_simp
        have HC:=HHX.out (some ⟨gp,op,none⟩) cp
        unfold TreeC at HC
        have q1:LSl rdFl (fun b=>b < w3.heap.size) w3 (.slice (some ⟨g0,o,none⟩) L.length c) L:=(HL.out.agree (Ag_b (HB2.out.trans (hb3.mono HB2.out.size)) HS.out)).wide (fun b hb=>by have:=HS.out b hb;omega)
        have q2:Pth (fun b=>b < w3.heap.size) w3 (.slice (some ⟨gp,op,none⟩) x.p.length cp) x.p:=(HP.out.agree (Ag_b (HB2.out.trans (hb3.mono HB2.out.size)) HS.out)).wide (fun b hb=>by have:=HS.out b hb;omega)
        have HC2:=HC (fun b=>b < w3.heap.size) w3 q1 q2 (fun b hb=>hb)
        rw [hlen] at HC2
        refine ⟨trivial,(callsIn_wide.2 HC2).mono ?_⟩
        rintro e w4 ⟨a4,c4,rfl,hF4,hb4⟩
        have hz4:=hb4.size
        have hS4:(fun w':World=>w'.cell? ⟨gp,op + u.length * 3,none⟩ = some (.string (bs nm))∧w'.cell? ⟨g0,o + k * 2 + 1,none⟩ = some (.slice an x.l.length cn)) w4:=⟨bc_ hb4 (by omega) hS3.1,bc_ hb4 (by omega) hS3.2⟩
        refine hK _ _ ⟨hS4,?_⟩
        clear hK
        refine tkY 17 50 (.agg #[.string (bs nm), .slice a3 x.l.length c3, .slice a4 (g x).len c4]) rfl rfl hS4 (fun w' hs=>?_) ?_
        · go_simp
        refine AnyH_one (i:=18) (by kernel_rfl) rfl (by kernel_rfl) (fun K hK=>?_)
        go_simp
        have hbb:Below w4.heap.size w4 (w4.alloc (.cells #[.string (bs nm), .slice a3 x.l.length c3, .slice a4 (g x).len c4] 97)):=(Below.refl _ _).alloc (nl_ _) _
        refine hK _ _ ⟨⟨bc_ hbb (by omega) hS4.1,bc_ hbb (by omega) hS4.2⟩,?_⟩
        clear hK
        obtain ⟨a5,c5,w5,hr5,hown5,hgrow5,hat5⟩:=run_append_ao (P:=Tryz.prog) (w4.alloc (.cells #[.string (bs nm), .slice a3 x.l.length c3, .slice a4 (g x).len c4] 97)) 26 26 w.heap.size 97 i0 _ 3 64 Tryz.underlying26 hi0 hz0 hz1 hz2 rfl (by omega) u5 ((L.take k).filter (isCh u)).length cs ((ob_ (ob_ hown2 hb3 (nl_ _)) hb4 (nl_ _)).alloc _) (some ⟨w4.heap.size,0,none⟩) 1 1 [.string (bs nm), .slice a3 x.l.length c3, .slice a4 (g x).len c4] rfl (fun h=>by cases h) (fun ad had=>by cases had;exact World.news_of_block (cs:=#[.string (bs nm), .slice a3 x.l.length c3, .slice a4 (g x).len c4]) (t:=97) (fr:=(0,0)) (heap_alloc_new _ _)) (by simp [Value.oneCell']) (by unfold maxLen;omega) (by omega) (by simp;omega)
        have hS5:(fun w':World=>w'.cell? ⟨gp,op + u.length * 3,none⟩ = some (.string (bs nm))∧w'.cell? ⟨g0,o + k * 2 + 1,none⟩ = some (.slice an x.l.length cn)) w5:=⟨grown_cell hgrow5 (hown1u _ (by omega)) (bc_ hbb (by omega) hS4.1),grown_cell hgrow5 (hown1u _ (by omega)) (bc_ hbb (by omega) hS4.2)⟩
        refine AnyH_one (i:=19) (by kernel_rfl) rfl (by kernel_rfl) (fun K hK=>?_)
        refine wpIn_value (fun _=>trivial) rfl (exec_append rfl rfl rfl hr5) ?_
        refine hK _ _ ⟨hS5,?_⟩
        clear hK hr5
        refine tkY 20 5 (.slice a5 (((L.take k).filter (isCh u)).length + 1) c5) rfl rfl hS5 (fun w' hs=>?_) ?_
        · go_simp
        refine AnyH_done (by kernel_rfl) ?_
        go_simp
        obtain ⟨g5,cap5,he5,hg5,hlt5⟩:=hown5.form (by omega)
        cases he5
        have st:Step w.heap.size w2 (w4.alloc (.cells #[.string (bs nm), .slice a3 x.l.length c3, .slice a4 (g x).len c4] 97)) w5 u5 g5:=⟨(hb3.trans (hb4.mono hz3)).alloc (by omega) _,⟨hgrow5.os,hgrow5.tape,hgrow5.output,hgrow5.size,hgrow5.block⟩,by omega,fun b hb=>hown2.lt b hb,hat5 g5 rfl,hlt5⟩
        have hv5:(Value.slice (some ⟨g5,0,none⟩) (((L.take k).filter (isCh u)).length + 1) c5).ownBlock = some g5:=rfl
        have n1:=st.keep (Stable.fcs _ _) hv5 HFC.out
        have n2:=st.lift (Stable.ints _ _) hv5 (show Ints (Rg w2.heap.size w3.heap.size) w3 (.slice a3 x.l.length c3) x.l from SlC.of_owns hown3) (nl_ _) (by simp;omega) ((hb4.alloc hz4 _))
        have n3:=st.lift (Stable.fsl _ _) hv5 hF4 hz3 (by simp) ((Below.refl _ _).alloc (nl_ _) _)
        have n4:=st.out HB2.out
        have hct:=ch_take_yes hlt HX.out HCH.out
        have hgd:(x.p.getD u.length ⟨[],false,0⟩).n = nm:=by
         rw [List.getD_eq_getElem?_getD,List.getElem?_eq_getElem (by omega)]
         exact HNM.out
        have n5:Hid (FCs (Rx w.heap.size w5.heap.size (.slice (some ⟨g5,0,none⟩) (((L.take k).filter (isCh u)).length + 1) c5)) w5 (toFo g u.length ((L.take (k + 1)).filter (isCh u))) (cs ++ [.string (bs nm), .slice a3 x.l.length c3, .slice a4 (g x).len c4])):=by
         rw [hct,toFo_app]
         simp only [toFo,hgd]
         exact n1.app (FCs.one n2 n3)
        have hown6:w5.ownsRow w.heap.size 97 3 (.slice (some ⟨g5,0,none⟩) (((L.take k).filter (isCh u)).length + 1) c5) ((L.take (k + 1)).filter (isCh u)).length (cs ++ [.string (bs nm), .slice a3 x.l.length c3, .slice a4 (g x).len c4]):=by
         rw [hct,List.length_append];exact hown5
        clear n1 n2 n3 st hown5 hgrow5 hat5 hct
        go_wp2_with fail
        go_roundw
        case rel=>exact ⟨k + 1,_,by omega,by go_num,hown6,n5,n4⟩
        case measure=>simp [intOf];omega
      · have hdec:decide (x.p.take u.length = u.take u.length) = false:=by rw [List.take_length];exact decide_eq_false hpre
        have hch:isCh u x = false:=by unfold isCh;rw [decide_eq_false hpre,Bool.and_false]
        have hct:=ch_take_no hlt HX.out hch
        rw [hdec] at SM
        have hz:=hB.out.size
        clear hpre hch hdec
        go_wp2_with (go_at_call 73;refine SM.out.mono ?_;rintro e w2 ⟨rfl,hb2⟩)
        have hown2:=ob_ hown hb2 (nl_ _)
        have hfc2:Hid (FCs (Rx w.heap.size w2.heap.size u5) w2 (toFo g u.length (List.filter (isCh u) (List.take k L))) cs):=(hfc.out.agree (Ag_b hb2 fun b hb=>hb.2.1)).wide fun b hb=>⟨hb.1,by have:=hb.2.1;have:=hb2.size;omega,hb.2.2⟩
        go_roundw
        case rel=>exact ⟨k + 1,cs,by omega,by go_num,by rw [hct];exact hown2,by rw [hct];exact hfc2,hB.out.trans (hb2.mono hz)⟩
        case measure=>simp [intOf];omega
    · have hlen':((x.p.length:Int) == (u.length:Int) + 1) = false:=beq_eq_false_iff_ne.2 (by omega)
      have hch:isCh u x = false:=by unfold isCh;rw [decide_eq_false hlen,Bool.false_and]
      have hct:=ch_take_no hlt HX.out hch
      have w1:IntKind.i64.wrap ((u.length:Int) + 1) = (u.length:Int) + 1:=IntWalk.i64_in _ (by omega)
      clear hlen hch
      go_wp2_with fail
      go_roundw
      case rel=>exact ⟨k + 1,cs,by omega,by go_num,by rw [hct];exact hown,by rw [hct];exact hfc,hB⟩
      case measure=>simp [intOf];omega
  · have hlt':¬ (k:Int) < (L.length:Int):=by omega
    obtain rfl:k = L.length:=by omega
    go_wp2_with fail
    obtain ⟨a9,c9,rfl,_,_⟩:=owns_shape hown
    go_ret
    have hfc9:=hfc.out
    rw [List.take_length] at hfc9 ⊢
    rw [List.take_length] at hown
    refine ⟨a9,c9,by rw [toFo_len];rfl,⟨cs,by rw [toFo_len];exact SlC.of_owns hown,hfc9.wide fun b hb=>⟨hb.1,hb.2.1⟩⟩,hB.out⟩
theorem Tree_all (L:List Fl) (a:Option Addr) (c:Nat) (ll:L.length ≤ 1000) (lx:∀ x ∈ L,x.p.length ≤ 900∧x.l.length ≤ 900):∀ (f:Nat) (u:List Ky) (ua:Option Addr) (uc:Nat),u.length ≤ 900→(∀ x ∈ L,x.p.length ≤ u.length + f)→TreeC L u a c ua uc (treR f L u)
 | 0,u,ua,uc,lu,h=>by
   have h0:=Tree_step L u (fun x=>treR 0 L x.p) a c ua uc ll lx lu fun x hx hch=>by
    have:=h x hx
    simp only [isCh,Bool.and_eq_true,decide_eq_true_eq] at hch
    omega
   rwa [treR_zero (fun x hx=>by have:=h x hx;omega)] at h0
 | f + 1,u,ua,uc,lu,h=>by
   refine Tree_step L u (fun x=>treR f L x.p) a c ua uc ll lx lu fun x hx hch ap cp=>?_
   simp only [isCh,Bool.and_eq_true,decide_eq_true_eq] at hch
   exact Tree_all L a c ll lx f x.p ap cp (lx x hx).1 fun z hz=>by have:=h z hz;omega
end Go.Proofs.LF
namespace Go.Proofs
end Go.Proofs
namespace Go.Proofs.LF
open Go.RowKit Go.Sort
set_option maxHeartbeats 4000000
set_option maxRecDepth 100000
attribute [local go_sem] bs_toList bs_size bs_get
structure CV where
 ap:Option Addr
 cp:Nat
 ao:Option Addr
 co:Nat
 an:Option Addr
 cn:Nat
 f:Ch
def CV.vs (x:CV):List Value:=[.slice x.ap x.f.p.length x.cp, .bool x.f.had, .bool x.f.has, .slice x.ao x.f.old.length x.co, .slice x.an x.f.new.length x.cn]
end Go.Proofs.LF
