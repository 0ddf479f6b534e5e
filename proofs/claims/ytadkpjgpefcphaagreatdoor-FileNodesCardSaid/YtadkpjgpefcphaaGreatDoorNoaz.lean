/- Parts of the proof of a law of layer 11 (file): LfGet, LfW51, LfW81, LfPtR, LfW52a, LfW82, LfW55a, LfW60, LfW56, LfW67, LfW61, LfW63, LfW64. The conditions stand in each theorem. -/
import Derived.Test.YtadkpjgpefcphaaGreatDoorProg
import Derived.Test.YtadkpjgpefcphaaGreatDoorNoab
import Derived.Test.YtadkpjgpefcphaaGreatDoorNoac
import Derived.Test.YtadkpjgpefcphaaGreatDoorNoad
import Derived.Test.YtadkpjgpefcphaaGreatDoorNoaf
import Derived.Test.YtadkpjgpefcphaaGreatDoorNoag
import Derived.Test.YtadkpjgpefcphaaGreatDoorNoak
import Derived.Test.YtadkpjgpefcphaaGreatDoorNoal
import Derived.Test.YtadkpjgpefcphaaGreatDoorNoam
import Derived.Test.YtadkpjgpefcphaaGreatDoorNoas
import Derived.Test.YtadkpjgpefcphaaGreatDoorNoat
import Derived.Test.YtadkpjgpefcphaaGreatDoorNoau
import Derived.Test.YtadkpjgpefcphaaGreatDoorNoaw
import Derived.Test.YtadkpjgpefcphaaGreatDoorNoax
import Derived.Test.YtadkpjgpefcphaaGreatDoorNoay
set_option linter.all false
set_option linter.unusedVariables false
set_option linter.unusedSimpArgs false
namespace Go.Proofs.LF
theorem topm_mem {k:Ky} {t:List Ky}:∀ {y:Fo} {u:List Ky} {x:Fl},x ∈ flsL u y→x.p = u ++ k :: t→∃ l,(⟨u ++ [k],l⟩:Fl) ∈ flsL u y
 | .nil,u,x,h,_=>by cases h
 | .cons n l s r,u,x,h,hp=>by
   rw [flsL_cons,← List.cons_append] at h ⊢
   simp only [List.mem_append,List.mem_cons] at h
   rcases h with (rfl | h) | h
   · simp only at hp
     have hk:=List.append_cancel_left hp
     simp only [List.cons.injEq] at hk
     exact ⟨l,by rw [← hk.1];simp⟩
   · obtain ⟨k1,t1,h1⟩:=flsL_pre s (u ++ [kyOf n l]) x h
     rw [hp,List.append_assoc] at h1
     have hk:=List.append_cancel_left h1
     simp only [List.singleton_append,List.cons.injEq] at hk
     exact ⟨l,by rw [hk.1];simp⟩
   · obtain ⟨l',h'⟩:=topm_mem h hp
     exact ⟨l',by simp [h']⟩
theorem isBel_iff {u:List Ky} {x:Fl}:isBel u x = true ↔ ∃ k t,x.p = u ++ k :: t:=by
 simp only [isBel,Bool.and_eq_true,decide_eq_true_eq]
 constructor
 · rintro ⟨h1,h2⟩
   have h3:=List.take_append_drop u.length x.p
   rw [h2] at h3
   cases hd:x.p.drop u.length with
   | nil=>
     have:=congrArg List.length hd
     rw [List.length_drop] at this
     simp at this;omega
   | cons k t=>exact ⟨k,t,by rw [← h3,hd]⟩
 · rintro ⟨k,t,h⟩
   rw [h]
   simp
theorem at_fls:∀ (p:List Ky) (y:Fo) (u:List Ky) (n:List UInt8) (l:List Int) (s:Fo),((flsL u y).map Fl.p).Nodup→atF y p = some (n,l,s)→(⟨u ++ p,l⟩:Fl) ∈ flsL u y∧lastM p = n∧(flsL u y).filter (isBel (u ++ p)) = flsL (u ++ p) s
 | [],y,u,n,l,s,_,h=>by cases y <;> cases h
 | k :: r, .nil,u,n,l,s,_,h=>by cases h
 | k :: r, .cons n0 l0 s0 r0,u,n,l,s,hnd,h=>by
   rw [flsL_cons,← List.cons_append] at hnd ⊢
   have hnd1:=hnd
   rw [List.map_append,List.nodup_append] at hnd1
   obtain ⟨hA,hB,hAB⟩:=hnd1
   rw [List.map_cons,List.nodup_cons] at hA
   by_cases hk:kyOf n0 l0 = k
   · have hf:fstK k (.cons n0 l0 s0 r0) = some (n0,l0,s0):=by simp [fstK,hk]
     have hr0:∀ q:List Ky,(flsL u r0).filter (isBel (u ++ k :: q)) = []:=fun q=>by
      rw [List.filter_eq_nil_iff]
      intro x hx hb
      obtain ⟨k',t,hp⟩:=isBel_iff.1 hb
      rw [List.append_assoc] at hp
      obtain ⟨l',h'⟩:=topm_mem hx hp
      exact hAB (u ++ [kyOf n0 l0]) (by simp) (u ++ [k]) (List.mem_map.2 ⟨_,h',rfl⟩) (by rw [hk])
     rw [atF,hf] at h
     simp only at h
     by_cases hr:r = []
     · rw [if_pos hr] at h
       subst hr
       obtain ⟨rfl,rfl,rfl⟩:n0 = n∧l0 = l∧s0 = s:=by simpa using h
       refine ⟨by rw [hk];simp,by rw [← hk];simp [lastM,kyOf_n],?_⟩
       rw [List.filter_append,hr0 [],List.append_nil,List.filter_cons,if_neg,hk]
       · rw [List.filter_eq_self]
         intro x hx
         exact isBel_iff.2 (flsL_pre s0 (u ++ [k]) x hx)
       · rw [hk]
         intro hb
         obtain ⟨k',t,hp⟩:=isBel_iff.1 hb
         have:=congrArg List.length hp
         simp at this
     · rw [if_neg hr] at h
       obtain ⟨h1,h2,h3⟩:=at_fls r s0 (u ++ [k]) n l s (by rw [hk] at hA;exact hA.2) h
       have e:u ++ [k] ++ r = u ++ k :: r:=by simp
       rw [e] at h1 h3
       have hlast:lastM (k :: r) = lastM r:=by
        unfold lastM
        cases r with
        | nil=>exact absurd rfl hr
        | cons a b=>simp [List.getLastD]
       refine ⟨by rw [hk];simp [h1],by rw [hlast];exact h2,?_⟩
       rw [List.filter_append,hr0 r,List.append_nil,List.filter_cons,if_neg,hk,h3]
       intro hb
       obtain ⟨k',t,hp⟩:=isBel_iff.1 hb
       have:=congrArg List.length hp
       simp at this
   · have hf:atF (.cons n0 l0 s0 r0) (k :: r) = atF r0 (k :: r):=by
      simp only [atF,fstK,hk,if_false]
     rw [hf] at h
     obtain ⟨h1,h2,h3⟩:=at_fls (k :: r) r0 u n l s hB h
     refine ⟨by simp [h1],h2,?_⟩
     rw [List.filter_append,h3,List.filter_eq_nil_iff.2,List.nil_append]
     intro x hx hb
     obtain ⟨k',t,hp⟩:=isBel_iff.1 hb
     rw [List.append_assoc] at hp
     rcases List.mem_cons.1 hx with rfl | hx
     · simp only at hp
       have:=List.append_cancel_left hp
       simp only [List.cons_append,List.cons.injEq] at this
       exact hk this.1
     · obtain ⟨k1,t1,h1'⟩:=flsL_pre s0 (u ++ [kyOf n0 l0]) x hx
       rw [hp,List.append_assoc] at h1'
       have:=List.append_cancel_left h1'
       simp only [List.singleton_append,List.cons_append,List.cons.injEq] at this
       exact hk this.1.symm
theorem at_none:∀ (p:List Ky) (y:Fo) (u:List Ky),p ≠ []→atF y p = none→((flsL u y).map Fl.p).Nodup→∀ x ∈ flsL u y,x.p ≠ u ++ p
 | [],_,_,h,_,_=>absurd rfl h
 | k :: r, .nil,u,_,_,_=>fun x hx=>by cases hx
 | k :: r, .cons n0 l0 s0 r0,u,_,h,hnd=>by
   rw [flsL_cons,← List.cons_append] at hnd ⊢
   have hnd1:=hnd
   rw [List.map_append,List.nodup_append] at hnd1
   obtain ⟨hA,hB,hAB⟩:=hnd1
   rw [List.map_cons,List.nodup_cons] at hA
   intro x hx hp
   rw [List.mem_append,List.mem_cons] at hx
   by_cases hk:kyOf n0 l0 = k
   · have hf:fstK k (.cons n0 l0 s0 r0) = some (n0,l0,s0):=by simp [fstK,hk]
     rw [atF,hf] at h
     simp only at h
     by_cases hr:r = []
     · rw [if_pos hr] at h;cases h
     · rw [if_neg hr] at h
       rcases hx with (rfl | hx) | hx
       · simp only at hp
         have:=congrArg List.length hp
         simp at this
         exact hr (by simpa using this)
       · exact at_none r s0 (u ++ [k]) hr h (by rw [hk] at hA;exact hA.2) x (by rw [hk] at hx;exact hx) (by rw [hp];simp)
       · obtain ⟨l',h'⟩:=topm_mem hx hp
         exact hAB (u ++ [kyOf n0 l0]) (by simp) (u ++ [k]) (List.mem_map.2 ⟨_,h',rfl⟩) (by rw [hk])
   · have hf:atF (.cons n0 l0 s0 r0) (k :: r) = atF r0 (k :: r):=by
      simp only [atF,fstK,hk,if_false]
     rw [hf] at h
     rcases hx with (rfl | hx) | hx
     · simp only at hp
       have:=List.append_cancel_left hp
       simp only [List.cons.injEq] at this
       exact hk this.1
     · obtain ⟨k1,t1,h1'⟩:=flsL_pre s0 (u ++ [kyOf n0 l0]) x hx
       rw [hp,List.append_assoc] at h1'
       have:=List.append_cancel_left h1'
       simp only [List.singleton_append,List.cons.injEq] at this
       exact hk this.1.symm
     · exact at_none (k :: r) r0 u (by simp) h hB x hx hp
end Go.Proofs.LF
namespace Go.Proofs.LF
open Go.RowKit Go.Sort
set_option maxHeartbeats 4000000
set_option maxRecDepth 100000
attribute [local go_sem] bs_toList bs_size bs_get
theorem refCheck_any (y:Fo) (a:Option Addr) (c:Nat) (S:Nat→Prop) (w:World) (hv:FSl S w (.slice a y.len c) y) (hS:∀ b,S b→b < w.heap.size) (hlen:y.len ≤ 1000) (hsm:y.Sm) :
 Calls Tryz.prog 21 #[.slice a y.len c] w fun e w'=>e = .returned (.int .i64 (chkY y))∧Below w.heap.size w w':=by
 have HM:=hid (many_any (y.cnt + 1) y 60 a c S w (Nat.lt_succ_self _) (by decide) (by decide) hv hS)
 have HC:=hid (check_any (y.cnt + 1) y 0 a c S w (Nat.lt_succ_self _) (by decide) (by decide) hv hS hlen hsm)
 have hq:=refChk_eq y
 unfold refChk at hq
 by_cases h:60 < many y 60
 · rw [if_pos h] at hq
   have HQ:=hid hq
   clear hq
   go_enter Tryz.func21,Tryz.ntmps21
   go_wp2_with fail
   refine HM.out.mono ?_
   rintro e w' ⟨rfl,rfl⟩
   go_wp2_with fail
   go_ret
   exact ⟨ret_int HQ.out,Below.refl _ _⟩
 · rw [if_neg h] at hq
   have HQ:=hid hq
   clear hq
   go_enter Tryz.func21,Tryz.ntmps21
   go_wp2_with fail
   refine HM.out.mono ?_
   rintro e w' ⟨rfl,rfl⟩
   go_wp2_with fail
   refine HC.out.mono ?_
   rintro e w1 ⟨rfl,hb⟩
   go_wp2_with fail
   go_ret
   exact ⟨ret_int HQ.out,hb⟩
end Go.Proofs.LF
namespace Go.Proofs.LF
open Go.RowKit Go.Sort
set_option maxHeartbeats 4000000
set_option maxRecDepth 100000
attribute [local go_sem] bs_toList bs_size bs_get
theorem enters131:Enters 131:=by intro args W;simp [go_sem]
def blP (q p:List Ky):Bool:=decide (q.length ≤ p.length) && decide (p.take q.length = q)
theorem drop1_any (x:Fl) (q:List Ky) (ap an aq:Option Addr) (cp cn cq F:Nat) (S:Nat→Prop) (w:World) (hp:Pth S w (.slice ap x.p.length cp) x.p) (hq:Pth S w (.slice aq q.length cq) q) (hS:∀ b,S b→b < w.heap.size) (lp:x.p.length ≤ 1000) (lq:q.length ≤ 1000) (hF:F < w.heap.size) (hc:w.cell? ⟨F,0,none⟩ = some (.slice aq q.length cq)) :
 Calls Tryz.prog 131 #[.agg #[.slice ap x.p.length cp, .slice an x.l.length cn], .pointer (some ⟨F,0,none⟩)] w fun e w'=>e = .returned (.bool (blP q x.p))∧Below w.heap.size w w':=by
 obtain ⟨W,hW⟩:∃ W,w.alloc (.cells #[.slice ap x.p.length cp, .slice an x.l.length cn] 171) = W:=⟨_,rfl⟩
 have hb:Below w.heap.size w W:=by rw [← hW];exact (Below.refl _ _).alloc (nl_ _) _
 have hnew:W.heap[w.heap.size]? = some (.cells #[.slice ap x.p.length cp, .slice an x.l.length cn] 171 (0,0)):=by rw [← hW];exact heap_alloc_new _ _
 have c0:W.cell? ⟨w.heap.size,0,none⟩ = some (.slice ap x.p.length cp):=cg_ hnew (k:=0) rfl
 have d0:W.cell? ⟨F,0,none⟩ = some (.slice aq q.length cq):=bc_ hb hF hc
 have hcp:=SlC.caps hp
 have HB:=hid hb
 have HP:=hid (hp.agree (Ag_b hb hS))
 have HQ:=hid (hq.agree (Ag_b hb hS))
 have HW:=hid hW
 have hS0:W.cell? ⟨w.heap.size,0,none⟩ = some (.slice ap x.p.length cp)∧W.cell? ⟨F,0,none⟩ = some (.slice aq q.length cq):=⟨c0,d0⟩
 have HS0:=hid hS0
 have hzW:W.heap.size = w.heap.size + 1:=by rw [← hW];simp
 have HZW:=hid hzW
 clear hp hq hc hb hnew c0 d0 hS0 hW hzW
 go_enter Tryz.func131,Tryz.ntmps131
 go_upto_region 1 with fail
 rw [HW.out]
 have i1:(0:Int) ≤ (q.length:Int):=by omega
 by_cases hle:q.length ≤ x.p.length
 · have hle':(q.length:Int) ≤ (x.p.length:Int):=by omega
   have hlc:(q.length:Int) ≤ (cp:Int):=by omega
   have hsum:decide (q.length ≤ x.p.length) = true:=by simp [hle]
   have CALL:=hid (eqKeys_any (x.p.take q.length) q ap aq cp cq S W.drew (by
    have this:=HP.out.pre hle
    rw [show (x.p.take q.length).length = q.length by rw [List.length_take];omega]
    exact this.agree (fun _ _=>rfl)) (HQ.out.agree (fun _ _=>rfl)) (by rw [List.length_take];omega) (by omega))
   have hlt:(x.p.take q.length).length = q.length:=by rw [List.length_take];omega
   rw [hlt] at CALL
   refine (wpIn_wide (n:=9)).1 ?_
   refine region_held (fun w':World=>w'.cell? ⟨w.heap.size,0,none⟩ = some (.slice ap x.p.length cp)∧w'.cell? ⟨F,0,none⟩ = some (.slice aq q.length cq)) (by kernel_rfl) ?_
   have hS0:=HS0.out
   refine tkY 0 4 (.pointer (some ⟨w.heap.size,0,none⟩)) rfl rfl hS0 (fun w' hs=>?_) ?_
   · go_simp
   refine tkY 1 5 (.slice ap x.p.length cp) rfl rfl hS0 (fun w' hs=>?_) ?_
   · obtain ⟨q0,q1⟩:=hs
     go_simp
   refine tkY 2 6 (.int .i64 x.p.length) rfl rfl hS0 (fun w' hs=>?_) ?_
   · go_simp
   refine tkY 3 7 (.slice aq q.length cq) rfl rfl hS0 (fun w' hs=>?_) ?_
   · obtain ⟨q0,q1⟩:=hs
     go_simp
   refine tkY 4 8 (.int .i64 q.length) rfl rfl hS0 (fun w' hs=>?_) ?_
   · go_simp
   refine tkY 5 9 (.bool true) rfl rfl hS0 (fun w' hs=>?_) ?_
   · go_simp
   refine tkY 6 10 (.bool true) rfl rfl hS0 (fun w' hs=>?_) ?_
   · go_simp
   refine tkY 7 11 (.pointer (some ⟨w.heap.size,0,none⟩)) rfl rfl hS0 (fun w' hs=>?_) ?_
   · go_simp
   refine tkY 8 12 (.slice ap x.p.length cp) rfl rfl hS0 (fun w' hs=>?_) ?_
   · obtain ⟨q0,q1⟩:=hs
     go_simp
   refine tkY 9 13 (.slice aq q.length cq) rfl rfl hS0 (fun w' hs=>?_) ?_
   · obtain ⟨q0,q1⟩:=hs
     go_simp
   refine tkY 10 14 (.int .i64 q.length) rfl rfl hS0 (fun w' hs=>?_) ?_
   · go_simp
   refine tkY 11 15 (.slice ap q.length cp) rfl rfl hS0 (fun w' hs=>?_) ?_
   · go_simp
   refine tkY 12 16 (.slice aq q.length cq) rfl rfl hS0 (fun w' hs=>?_) ?_
   · obtain ⟨q0,q1⟩:=hs
     go_simp
   refine AnyH_one (i:=13) (by kernel_rfl) rfl (by kernel_rfl) (fun K hK=>?_)
   go_simp
   refine ⟨trivial,(callsIn_wide.2 CALL.out).mono ?_⟩
   rintro e w5 ⟨he5,hb5⟩
   obtain ⟨r,hr⟩:∃ r,decide (List.take q.length x.p = q) = r:=⟨_,rfl⟩
   rw [hr] at he5
   subst he5
   have hS5:w5.cell? ⟨w.heap.size,0,none⟩ = some (.slice ap x.p.length cp)∧w5.cell? ⟨F,0,none⟩ = some (.slice aq q.length cq):=⟨bc_ hb5 (by simp;have:=HZW.out;omega) HS0.out.1,bc_ hb5 (by simp;have:=HZW.out;omega) HS0.out.2⟩
   refine hK _ _ ⟨hS5,?_⟩
   clear hK
   refine tkY 14 18 (.bool r) rfl rfl hS5 (fun w' hs=>?_) ?_
   · go_simp
   refine tkY 15 3 (.bool r) rfl rfl hS5 (fun w' hs=>?_) ?_
   · go_simp
   refine AnyH_done (by kernel_rfl) ?_
   go_simp
   have HBX:=hid (HB.out.drew.trans (hb5.mono (by simp;exact HB.out.size)))
   have HR:=hid hr
   clear hb5 hS5 hr
   go_wp2_with fail
   go_ret
   exact ⟨by rw [blP,hsum,HR.out];rfl,HBX.out⟩
 · have hle':¬ (q.length:Int) ≤ (x.p.length:Int):=by omega
   have hsum:decide (q.length ≤ x.p.length) = false:=by simp [hle]
   refine (wpIn_wide (n:=9)).1 ?_
   refine region_held (fun w':World=>w'.cell? ⟨w.heap.size,0,none⟩ = some (.slice ap x.p.length cp)∧w'.cell? ⟨F,0,none⟩ = some (.slice aq q.length cq)) (by kernel_rfl) ?_
   have hS0:=HS0.out
   refine tkY 0 4 (.pointer (some ⟨w.heap.size,0,none⟩)) rfl rfl hS0 (fun w' hs=>?_) ?_
   · go_simp
   refine tkY 1 5 (.slice ap x.p.length cp) rfl rfl hS0 (fun w' hs=>?_) ?_
   · obtain ⟨q0,q1⟩:=hs
     go_simp
   refine tkY 2 6 (.int .i64 x.p.length) rfl rfl hS0 (fun w' hs=>?_) ?_
   · go_simp
   refine tkY 3 7 (.slice aq q.length cq) rfl rfl hS0 (fun w' hs=>?_) ?_
   · obtain ⟨q0,q1⟩:=hs
     go_simp
   refine tkY 4 8 (.int .i64 q.length) rfl rfl hS0 (fun w' hs=>?_) ?_
   · go_simp
   refine tkY 5 9 (.bool false) rfl rfl hS0 (fun w' hs=>?_) ?_
   · go_simp
   refine tkY 6 10 (.bool false) rfl rfl hS0 (fun w' hs=>?_) ?_
   · go_simp
   refine tkN 7 11 rfl rfl hS0 ?_
   refine tkN 8 12 rfl rfl hS0 ?_
   refine tkN 9 13 rfl rfl hS0 ?_
   refine tkN 10 14 rfl rfl hS0 ?_
   refine tkN 11 15 rfl rfl hS0 ?_
   refine tkN 12 16 rfl rfl hS0 ?_
   refine tkN 13 17 rfl rfl hS0 ?_
   refine tkY 14 18 (.bool false) rfl rfl hS0 (fun w' hs=>?_) ?_
   · go_simp
   refine tkY 15 3 (.bool false) rfl rfl hS0 (fun w' hs=>?_) ?_
   · go_simp
   refine AnyH_done (by kernel_rfl) ?_
   go_simp
   go_wp2_with fail
   go_ret
   exact ⟨by rw [blP,hsum];rfl,HB.out.drew⟩
end Go.Proofs.LF
namespace Go.Proofs.LF
theorem ordG_head {n:List UInt8} {l:List Int} {s r:Fo} {d:Int} {p:Option Ky} (hp:∀ q,p = some q→byK q (kyOf n l) < 0):ordG geK d p (.cons n l s r) = ordG geK d none (.cons n l s r):=by
 cases p with
 | none=>rfl
 | some q=>
   have hg:geK q (kyOf n l) = false:=by have:=hp q rfl;simp only [geK,decide_eq_false_iff_not];omega
   simp only [ordG,hg]
theorem ordG_tail {n:List UInt8} {l:List Int} {s r:Fo} {d:Int} {p:Option Ky} (hr:ordG geK d (some (kyOf n l)) r = 0):ordG geK d p (.cons n l s r) = ordG geK d p (.cons n l s .nil):=by
 simp only [ordG,hr]
theorem ordG_good {n:List UInt8} {l:List Int} {s r:Fo} {d:Nat} {p:Option Ky} (h:d ≤ 3∧badNm n = false∧l.length ≤ 4∧badNs l = false) (hp:∀ q,p = some q→byK q (kyOf n l) < 0):ordG geK (d:Int) p (.cons n l s r) = if ordG geK ((d:Int) + 1) none s ≠ 0 then ordG geK ((d:Int) + 1) none s else ordG geK (d:Int) (some (kyOf n l)) r:=by
 rw [ordG_head hp]
 obtain ⟨h1,h2,h3,h4⟩:=h
 simp only [ordG]
 rw [if_neg (by omega),if_neg (by rw [h2];simp),if_neg (by omega),if_neg (by rw [h4];simp),if_neg (by simp)]
theorem ordG_ins {n:List UInt8} {l:List Int} {s:Fo}:∀ (y:Fo) (d:Nat) (p:Option Ky),OkG d y→(∀ q,p = some q→byK q (kyOf n l) < 0∧∀ k ∈ tops y,byK q k < 0)→ordG geK (d:Int) p (insK n l s y) = ordG geK (d:Int) none (.cons n l s .nil)
 | .nil,d,p,_,hp=>by
   rw [insK];exact ordG_head fun q hq=>(hp q hq).1
 | .cons n' l' s' r',d,p,⟨h1,h2,h3,h4⟩,hp=>by
   rw [insK]
   have e1:ordG geK ((d:Int) + 1) none s' = 0:=by
    have:=okG_ord s' (d + 1) none h2 (fun q hq=>by cases hq)
    rwa [show ((d + 1:Nat):Int) = (d:Int) + 1 by omega] at this
   split
   · rename_i hlt
     rw [ordG_good h1 (fun q hq=>(hp q hq).2 _ (by simp [tops])),e1,if_neg (by simp)]
     exact ordG_ins r' d _ h4 fun q hq=>by cases hq;exact ⟨hlt,h3⟩
   · rename_i hlt
     split
     · rename_i he
       have he:=byK_ord.eq he
       rw [ordG_head (fun q hq=>(hp q hq).1),ordG_tail (okG_ord r' d _ h4 fun q hq k hk=>by cases hq;rw [← he];exact h3 k hk)]
     · rename_i he
       have hgt:byK (kyOf n l) (kyOf n' l') < 0:=by
        have:0 < byK (kyOf n' l') (kyOf n l):=by omega
        exact byK_ord.flop this
       rw [ordG_head (fun q hq=>(hp q hq).1),ordG_tail (okG_ord (.cons n' l' s' r') d _ ⟨h1,h2,h3,h4⟩ fun q hq k hk=>by
        cases hq
        rcases List.mem_cons.1 hk with rfl | hk
        · exact hgt
        · exact byK_ord.trans hgt (h3 k hk))]
theorem ordG_mod {k:Ky} {f:Fo→Fo} {e:Int} {n:List UInt8} {l:List Int} {s:Fo}:∀ (y:Fo) (d:Nat) (p:Option Ky),OkG d y→(∀ q,p = some q→∀ k ∈ tops y,byK q k < 0)→fstK k y = some (n,l,s)→ordG geK ((d:Int) + 1) none (f s) = e→ordG geK (d:Int) p (modK k f y) = e
 | .nil,_,_,_,_,h,_=>by cases h
 | .cons n' l' s' r',d,p,⟨h1,h2,h3,h4⟩,hp,hf,he=>by
   rw [modK]
   rw [fstK] at hf
   have hq:∀ q,p = some q→byK q (kyOf n' l') < 0:=fun q hq=>hp q hq _ (by simp [tops])
   by_cases hk:kyOf n' l' = k
   · rw [if_pos hk] at hf ⊢
     simp only [Option.some.injEq,Prod.mk.injEq] at hf
     obtain ⟨rfl,rfl,rfl⟩:=hf
     have e2:ordG geK (d:Int) (some (kyOf n' l')) r' = 0:=okG_ord r' d _ h4 (fun q hq k hk=>by cases hq;exact h3 k hk)
     rw [ordG_good h1 hq,he,e2]
     by_cases h0:e = 0
     · simp [h0]
     · simp [h0]
   · rw [if_neg hk] at hf ⊢
     have e1:ordG geK ((d:Int) + 1) none s' = 0:=by
      have:=okG_ord s' (d + 1) none h2 (fun q hq=>by cases hq)
      rwa [show ((d + 1:Nat):Int) = (d:Int) + 1 by omega] at this
     rw [ordG_good h1 hq,e1,if_neg (by simp)]
     exact ordG_mod r' d _ h4 (fun q hq=>by cases hq;exact h3) hf he
theorem ordG_put {n:List UInt8} {l:List Int} {s:Fo}:∀ (p:List Ky) (y:Fo) (d:Nat),OkG d y→Pl y p→ordG geK (d:Int) none (putF n l s p y) = ordG geK ((d:Int) + p.length) none (.cons n l s .nil)
 | [],y,d,hy,_=>by
   simp only [putF]
   rw [putN_ins hy,ordG_ins y d none hy (fun q hq=>by cases hq)]
   simp
 | k :: r,y,d,hy,hp=>by
   obtain ⟨n',l',s',hf,hp'⟩:=pl_cons hp
   simp only [putF]
   refine ordG_mod y d none hy (fun q hq=>by cases hq) hf ?_
   have:=ordG_put (n:=n) (l:=l) (s:=s) r s' (d + 1) (fstK_okG hy hf).1 hp'
   rw [show ((d + 1:Nat):Int) = (d:Int) + 1 by omega] at this
   rw [this]
   congr 1
   simp only [List.length_cons];omega
theorem drP_all {q:List Ky} {L:List Fl} (h:∀ x ∈ L,¬ q <+: x.p):drP q L = L:=by
 rw [drP,List.filter_eq_self]
 intro x hx
 have:=(drP_mem (q:=q) (l:=[x]) (x:=x)).2 ⟨by simp,h x hx⟩
 rw [drP,List.mem_filter] at this
 exact this.2
theorem drP_non {q:List Ky} {L:List Fl} (h:∀ x ∈ L,q <+: x.p):drP q L = []:=by
 rw [drP,List.filter_eq_nil_iff]
 intro x hx hb
 have h2:x ∈ drP q [x]:=by rw [drP,List.mem_filter];exact ⟨by simp,hb⟩
 exact (drP_mem.1 h2).2 (h x hx)
theorem drP_app {q:List Ky} {A B:List Fl}:drP q (A ++ B) = drP q A ++ drP q B:=by
 simp only [drP,List.filter_append]
theorem fls_part (u:List Ky) (n:List UInt8) (l:List Int) (s r:Fo):flsL u (.cons n l s r) = flsL u (.cons n l s .nil) ++ flsL u r:=by
 rw [flsL_cons,flsL_cons,flsL_nil,List.append_nil];rfl
theorem cnt_ins {n:List UInt8} {l:List Int} {s:Fo}:∀ (y:Fo) (u:List Ky) (d:Nat),OkG d y→(insK n l s y).cnt = 1 + s.cnt + (drP (u ++ [kyOf n l]) (flsL u y)).length
 | .nil,u,d,_=>by simp [insK,flsL_nil,drP,Fo.cnt]
 | .cons n' l' s' r',u,d,⟨h1,h2,h3,h4⟩=>by
   rw [fls_part,drP_app,List.length_append]
   rw [insK]
   have hl1:(flsL u (.cons n' l' s' .nil)).length = 1 + s'.cnt:=by rw [flsL_length];simp [Fo.cnt]
   have hother:kyOf n' l' ≠ kyOf n l→drP (u ++ [kyOf n l]) (flsL u (.cons n' l' s' .nil)) = flsL u (.cons n' l' s' .nil):=fun hne=>drP_all (L:=flsL u (.cons n' l' s' .nil)) fun x hx=>fls_rest_pre (fun q hq=>by
    simp only [tops,List.mem_cons,List.not_mem_nil,or_false] at hq
    rw [hq];exact fun e=>hne e.symm) hx
   split
   · rename_i hlt
     rw [hother (byK_ne hlt),hl1,Fo.cnt,cnt_ins r' u d h4];omega
   · rename_i hlt
     split
     · rename_i he
       have he:=byK_ord.eq he
       rw [drP_non (L:=flsL u (.cons n' l' s' .nil)) (fun x hx=>by rw [← he];exact fls_one_pre hx),drP_all (L:=flsL u r') (fun x hx=>fls_rest_pre (fun q hq=>by rw [← he];exact byK_ne (h3 q hq)) hx),flsL_length,Fo.cnt]
       simp
     · rename_i he
       have hgt:byK (kyOf n l) (kyOf n' l') < 0:=by
        have:0 < byK (kyOf n' l') (kyOf n l):=by omega
        exact byK_ord.flop this
       rw [hother (byK_ne hgt).symm,drP_all (L:=flsL u r') (fun x hx=>fls_rest_pre (fun q hq=>byK_ne (byK_ord.trans hgt (h3 q hq))) hx),hl1,flsL_length,Fo.cnt,Fo.cnt]
theorem cnt_mod {k:Ky} {f:Fo→Fo} {q u:List Ky} {m:Nat} {n:List UInt8} {l:List Int} {s:Fo}:∀ (y:Fo) (d:Nat),OkG d y→(u ++ [k]) <+: q→q ≠ u ++ [k]→fstK k y = some (n,l,s)→(f s).cnt = m + (drP q (flsL (u ++ [k]) s)).length→(modK k f y).cnt = m + (drP q (flsL u y)).length
 | .nil,_,_,_,_,h,_=>by cases h
 | .cons n' l' s' r',d,⟨h1,h2,h3,h4⟩,hq,hqn,hf,he=>by
   rw [fls_part,drP_app,List.length_append,modK]
   rw [fstK] at hf
   by_cases hk:kyOf n' l' = k
   · rw [if_pos hk] at hf ⊢
     simp only [Option.some.injEq,Prod.mk.injEq] at hf
     obtain ⟨rfl,rfl,rfl⟩:=hf
     rw [drP_all (L:=flsL u r') (fun x hx hp=>fls_rest_pre (fun q hq=>by rw [← hk];exact byK_ne (h3 q hq)) hx (hq.trans hp)),flsL_length,flsL_cons,flsL_nil,List.append_nil,hk]
     have hd:∀ A:List Fl,drP q (⟨u ++ [k],l'⟩ :: A) = ⟨u ++ [k],l'⟩ :: drP q A:=fun A=>by
      have h1:drP q [⟨u ++ [k],l'⟩] = [⟨u ++ [k],l'⟩]:=drP_all (fun x hx hp=>by
       simp only [List.mem_singleton] at hx
       subst hx
       have a1:=hp.length_le
       have a2:=hq.length_le
       exact hqn (hq.eq_of_length (by simp at a1 a2 ⊢;omega)).symm)
      have:=drP_app (q:=q) (A:=[⟨u ++ [k],l'⟩]) (B:=A)
      rw [h1] at this
      simpa using this
     rw [hd,List.length_cons,Fo.cnt,he]
     omega
   · rw [if_neg hk] at hf ⊢
     rw [drP_all (L:=flsL u (.cons n' l' s' .nil)) (fun x hx hp=>fls_rest_pre (k:=k) (fun q hq=>by
      simp only [tops,List.mem_cons,List.not_mem_nil,or_false] at hq
      rw [hq];exact fun e=>hk e.symm) hx (hq.trans hp)),flsL_length,Fo.cnt,Fo.cnt,Fo.cnt,cnt_mod r' d h4 hq hqn hf he]
     omega
theorem cnt_put {n:List UInt8} {l:List Int} {s:Fo}:∀ (p:List Ky) (y:Fo) (u:List Ky) (d:Nat),OkG d y→Pl y p→(putF n l s p y).cnt = 1 + s.cnt + (drP (u ++ p ++ [kyOf n l]) (flsL u y)).length
 | [],y,u,d,hy,_=>by
   simp only [putF,List.append_nil]
   rw [putN_ins hy]
   exact cnt_ins y u d hy
 | k :: r,y,u,d,hy,hp=>by
   obtain ⟨n',l',s',hf,hp'⟩:=pl_cons hp
   simp only [putF]
   refine cnt_mod y d hy ⟨r ++ [kyOf n l],by simp⟩ (fun e=>by
    have:=congrArg List.length e
    simp at this) hf ?_
   have:=cnt_put (n:=n) (l:=l) (s:=s) r s' (u ++ [k]) (d + 1) (fstK_okG hy hf).1 hp'
   simpa using this
def putsR:List Fl→List Fl→List Fl
 | L,[]=>L
 | L,x :: m=>putsR (putR x L) m
theorem putsR_srt:∀ (m L:List Fl),Srt L→(m.map Fl.p).Nodup→(∀ x ∈ m,x.p ∉ L.map Fl.p)→Srt (putsR L m)∧∀ z,z ∈ putsR L m ↔ z ∈ m ∨ z ∈ L
 | [],L,h,_,_=>⟨h,fun z=>by simp [putsR]⟩
 | x :: m,L,h,hn,hm=>by
   rw [List.map_cons,List.nodup_cons] at hn
   obtain ⟨h1,h2⟩:=putsR_srt m (putR x L) (putR_srt h (hm x (by simp))) hn.2 (fun z hz hz'=>by
    obtain ⟨w,hw,hwp⟩:=List.mem_map.1 hz'
    rcases putR_mem.1 hw with rfl | hw
    · exact hn.1 (List.mem_map.2 ⟨z,hz,hwp.symm⟩)
    · exact hm z (by simp [hz]) (List.mem_map.2 ⟨w,hw,hwp⟩))
   refine ⟨h1,fun z=>?_⟩
   rw [putsR,h2,putR_mem,List.mem_cons]
   constructor
   · rintro (h | h | h)
     · exact .inl (.inr h)
     · exact .inl (.inl h)
     · exact .inr h
   · rintro ((h | h) | h)
     · exact .inr (.inl h)
     · exact .inl h
     · exact .inr (.inr h)
def rputE (y:Fo) (p:List Ky) (n:List UInt8) (l:List Int) (s:Fo):Int:=
 if chkY y ≠ 0 then chkY y else if p ≠ []∧(rfd (flsL [] y) p).isSome = false then 1
 else if 60 < ((drP (p ++ [kyOf n l]) (flsL [] y)).length:Int) + many (.cons n l s .nil) 60 then 2
 else chkF p.length (.cons n l s .nil)
def rputL (y:Fo) (p:List Ky) (n:List UInt8) (l:List Int) (s:Fo):List Fl:=putsR (drP (p ++ [kyOf n l]) (flsL [] y)) (flsL p (.cons n l s .nil))
theorem at_pl {y:Fo} {p:List Ky} (hy:chkY y = 0) (hp:p ≠ []):(rfd (flsL [] y) p).isSome = true ↔ (atF y p).isSome = true:=by
 rw [rfd_iff]
 constructor
 · intro h
   exact (pl_of y [] p 0 (chk_okG hy) (by rw [List.nil_append];exact h)).resolve_left hp
 · intro h
   cases hx:atF y p with
   | none=>rw [hx] at h;cases h
   | some x=>
     have:=(at_fls p y [] x.1 x.2.1 x.2.2 (fls_srt hy).nodup hx).1
     exact List.mem_map.2 ⟨_,this,by simp⟩
theorem rput_put (y:Fo) (p:List Ky) (n:List UInt8) (l:List Int) (s:Fo):rputE y p n l s = putE y p n l s∧(putE y p n l s = 0→rputL y p n l s = flsL [] (putF n l s p y)∧OkG 0 (putF n l s p y)∧(putF n l s p y).cnt ≤ 60):=by
 rw [rputE,putE]
 by_cases hy:chkY y = 0
 case neg=>rw [if_pos hy,if_pos hy];exact ⟨rfl,fun h=>absurd h hy⟩
 have hn0:¬ chkY y ≠ 0:=by simp [hy]
 rw [if_neg hn0,if_neg hn0]
 have hok:=chk_okG hy
 by_cases hm:p ≠ []∧(rfd (flsL [] y) p).isSome = false
 · have hc:(atF y p).isNone = true∧p ≠ []:=by
    refine ⟨?_,hm.1⟩
    have:=at_pl hy hm.1
    rw [hm.2] at this
    cases hx:atF y p with
    | none=>rfl
    | some x=>rw [hx] at this;exact absurd (this.2 rfl) (by simp)
   rw [if_pos hm,if_pos hc]
   exact ⟨rfl,fun h=>by omega⟩
 have hpl:Pl y p:=by
  by_cases hp:p = []
  · exact .inl hp
  · right
    rw [← at_pl hy hp]
    cases h:(rfd (flsL [] y) p).isSome with
    | true=>rfl
    | false=>exact absurd ⟨hp,h⟩ hm
 have hc:¬ ((atF y p).isNone = true∧p ≠ []):=fun h=>by
  rcases hpl with h' | h'
  · exact h.2 h'
  · rw [Option.isNone_iff_eq_none] at h
    rw [h.1] at h';cases h'
 rw [if_neg hm,if_neg hc]
 have hcnt:=cnt_put (n:=n) (l:=l) (s:=s) p y [] 0 hok hpl
 have hord:=ordG_put (n:=n) (l:=l) (s:=s) p y 0 hok hpl
 have hmany:many (.cons n l s .nil) 60 = min ((1 + s.cnt:Nat):Int) 61:=by
  rw [many_cnt _ 60 (by omega)]
  have:(Fo.cons n l s .nil).cnt = 1 + s.cnt:=by simp only [Fo.cnt];omega
  rw [this];omega
 simp only [List.nil_append] at hcnt
 have hchk:chkY (putF n l s p y) = if (putF n l s p y).cnt ≤ 60 then chkF p.length (.cons n l s .nil) else 2:=by
  unfold chkY
  refine ite_congr rfl (fun _=>?_) (fun _=>rfl)
  have h1:ordF 0 (putF n l s p y) = ordG geK ((0:Nat):Int) none (putF n l s p y):=rfl
  first | rw [← ord_chk] | skip
  first | rw [h1,hord] | (rw [hord]) | skip
  first | (unfold ordF;simp) | simp
 constructor
 · rw [hchk,hmany]
   by_cases h60:60 < 1 + s.cnt
   · rw [if_pos h60,if_pos (by omega)]
   · rw [if_neg h60]
     by_cases h2:(putF n l s p y).cnt ≤ 60
     · rw [if_pos h2,if_neg (by omega)]
     · rw [if_neg h2,if_pos (by omega)]
 · intro h
   obtain ⟨h60,h⟩:=ite_zero (by decide) h
   have hc60:(putF n l s p y).cnt ≤ 60:=by
    rw [hchk] at h
    by_cases h2:(putF n l s p y).cnt ≤ 60
    · exact h2
    · rw [if_neg h2] at h;omega
   have hok2:=chk_okG h
   rw [hchk,if_pos hc60,← ord_chk] at h
   have hn:=ordG_srt _ _ _ p h
   have hL:Srt (drP (p ++ [kyOf n l]) (flsL [] y)):=(fls_srt hy).sublist List.filter_sublist
   obtain ⟨hs,hmem⟩:=putsR_srt (flsL p (.cons n l s .nil)) _ hL hn.1.nodup (fun x hx hx'=>by
    obtain ⟨z,hz,hzp⟩:=List.mem_map.1 hx'
    rw [drP_mem] at hz
    exact hz.2 (by rw [hzp];exact fls_one_pre hx))
   refine ⟨srt_ext hs (fls_srt (by rw [okG_chk hok2,if_pos hc60])) fun x=>?_,hok2,hc60⟩
   rw [rputL,hmem x,putF_mem p y [] 0 hok hpl x,drP_mem]
   simp
end Go.Proofs.LF
namespace Go.Proofs.LF
open Go.RowKit Go.Sort
set_option maxHeartbeats 4000000
set_option maxRecDepth 100000
attribute [local go_sem] bs_toList bs_size bs_get
theorem Same_any (p q:List Ky) (ap aq:Option Addr) (cp cq:Nat) (S:Nat→Prop) (w:World) (hp:Pth S w (.slice ap p.length cp) p) (hq:Pth S w (.slice aq q.length cq) q) (lp:p.length ≤ 100000) (lq:q.length ≤ 100000) :
 Calls Tryz.prog 73 #[.slice ap p.length cp, .slice aq q.length cq] w fun e w'=>e = .returned (.bool (decide (p = q)))∧Below w.heap.size w w':=by
 by_cases hne:p.length = q.length
 · have hne':((p.length:Int) != (q.length:Int)) = false:=by simp;omega
   have HN:=hid hne
   clear hne
   go_enter Tryz.func73,Tryz.ntmps73
   go_wp2_with fail
   go_loopw [5] (fun i wr=>∃ (k d:Nat),k ≤ p.length∧i = .int .i64 k∧wr = w.drewN d∧Hid (p.take k = q.take k)) (fun i _=>p.length - (intOf i).toNat)
   case atStart=>exact ⟨0,0,by omega,rfl,rfl,by simp [Hid]⟩
   case round=>
    obtain ⟨k,d,hk,rfl,rfl,H2⟩:=hrel
    by_cases hlt:k < p.length
    · obtain ⟨g,o,rfl,_,_,_,hcell⟩:=SlC.cells hp (by omega)
      obtain ⟨g',o',rfl,_,_,_,hcell'⟩:=SlC.cells hq (by have:=HN.out;omega)
      have hlt':k < q.length:=by have:=HN.out;omega
      obtain ⟨k0,k1,k2⟩:=key_cells hlt
      obtain ⟨k0',k1',k2'⟩:=key_cells hlt'
      have c0:=hcell _ _ k0
      have c1:=hcell _ _ k1
      have c2:=hcell _ _ k2
      have d0:=hcell' _ _ k0'
      have d1:=hcell' _ _ k1'
      have d2:=hcell' _ _ k2'
      rw [← Nat.add_assoc] at c1 c2 d1 d2
      have htp:p.take (k + 1) = p.take k ++ [p[k]]:=List.take_succ_eq_append_getElem hlt
      have htq:q.take (k + 1) = q.take k ++ [q[k]]:=List.take_succ_eq_append_getElem hlt'
      obtain ⟨a,ha⟩:∃ a,p[k] = a:=⟨_,rfl⟩
      obtain ⟨b,hb⟩:∃ b,q[k] = b:=⟨_,rfl⟩
      have HA:=hid ha
      have HB:=hid hb
      rw [ha] at c0 c1 c2 htp
      rw [hb] at d0 d1 d2 htq
      have HTP:=hid htp
      have HTQ:=hid htq
      clear hcell hcell' k0 k1 k2 k0' k1' k2' htp htq ha hb
      have i1:(0:Int) ≤ (k:Int):=by omega
      have i2:(k:Int) < (p.length:Int):=by omega
      have i3:(k:Int) < (q.length:Int):=by omega
      by_cases he:a = b
      · subst he
        go_wp2_with fail
        go_quiet (fail)
        go_wp2_with fail
        go_roundw
        case rel=>exact ⟨k + 1,_,by omega,by go_num,rfl,by rw [Hid,HTP.out,HTQ.out,H2.out]⟩
        case measure=>simp [intOf];omega
      · have hdec:(a.n == b.n && (a.h == b.h && a.x == b.x)) = false:=by rw [← ky_beq];simp [he]
        have HE:=hid he
        have HDEC:=hid hdec
        clear he hdec
        cases hn:(a.n == b.n) <;> cases hh:(a.h == b.h) <;> cases hx:(a.x == b.x)
        all_goals first
         | (exfalso;have:=HDEC.out;rw [hn,hh,hx] at this;cases this;done)
         | (go_wp2_with fail
            go_quiet (fail)
            go_wp2_with fail
            go_ret
            refine ⟨ret_bool ?_,below_drewN (below_drewN (Below.refl _ _) _) _⟩
            symm
            rw [decide_eq_false_iff_not]
            rintro rfl
            exact HE.out (HA.out.symm.trans HB.out))
    · go_wp2_with fail
      go_ret
      obtain rfl:k = p.length:=by omega
      refine ⟨ret_bool ?_,below_drewN (Below.refl _ _) _⟩
      symm
      have:=H2.out
      rw [List.take_length,HN.out,List.take_length] at this
      exact decide_eq_true this
 · have hne':((p.length:Int) != (q.length:Int)) = true:=by simp;omega
   have HN:=hid hne
   clear hne
   go_enter Tryz.func73,Tryz.ntmps73
   go_wp2_with fail
   go_ret
   refine ⟨ret_bool ?_,Below.refl _ _⟩
   symm
   rw [decide_eq_false_iff_not]
   rintro rfl
   exact HN.out rfl
end Go.Proofs.LF
namespace Go.Proofs.LF
open Go.RowKit Go.Sort
set_option maxHeartbeats 4000000
set_option maxRecDepth 100000
attribute [local go_sem] bs_toList bs_size bs_get
theorem kp_lcs {α:Type} {k:Nat} {r:Rd α k} {S:Nat→Prop} {w:World} {xs:List α} {cs:List Value} (h:LCs r S w xs cs) {p:Nat→Bool} {pr:α→Bool} (hp:∀ i (hi:i < xs.length),p i = pr xs[i]):∀ j,j ≤ xs.length→LCs r S w ((xs.take j).filter fun x=>!pr x) (kpC k p cs j)∧kpN p j = ((xs.take j).filter fun x=>!pr x).length
 | 0,_=>by simp [kpC,kpN,LCs]
 | j + 1,hj=>by
   obtain ⟨h1,h2⟩:=kp_lcs h hp j (by omega)
   have hx:j < xs.length:=by omega
   rw [List.take_succ_eq_append_getElem hx,List.filter_append,kpC,kpN,hp j hx]
   cases hq:pr xs[j] with
   | true=>simpa [hq] using ⟨h1,h2⟩
   | false=>
     have h3:=(h.drop (i:=j)).take (i:=1)
     rw [List.drop_eq_getElem_cons hx,Nat.one_mul] at h3
     simp only [List.take_succ_cons,List.take_zero] at h3
     simp only [List.filter_cons,List.filter_nil,hq,Bool.not_false,if_true,Bool.false_eq_true,if_false,List.length_append,List.length_singleton]
     exact ⟨h1.app h3,by rw [h2]⟩
theorem flat_cells {S:Nat→Prop} {w:World} {fs:List Fl} {cs:List Value} (h:LCs rdFl S w fs cs) {i:Nat} (hi:i < fs.length):∃ ap cp an cn,cs.getD (i * 2) undef = .slice ap fs[i].p.length cp∧cs.getD (i * 2 + 1) undef = .slice an fs[i].l.length cn∧Pth S w (.slice ap fs[i].p.length cp) fs[i].p:=by
 have h3:=h.drop (i:=i)
 rw [List.drop_eq_getElem_cons hi] at h3
 obtain ⟨cc,ee,he,⟨ap,cp,an,cn,rfl,hp,_⟩,_⟩:=h3
 have e0:=congrArg (fun l=>l[0]?) he
 have e1:=congrArg (fun l=>l[1]?) he
 simp [List.getElem?_drop] at e0 e1
 exact ⟨ap,cp,an,cn,by rw [List.getD_eq_getElem?_getD,e0];rfl,by rw [List.getD_eq_getElem?_getD,e1];rfl,hp⟩
def DropU (y:Fo) (q:List Ky) (w:World) (e:Ending) (w':World):Prop:=
 ∃ a c,e = .returned (.tuple #[.slice a (dropY y q).len c, .int .i64 (dropE y q)])∧FSlU (Rg w.heap.size w'.heap.size) w' (.slice a (dropY y q).len c) (dropY y q)∧Below w.heap.size w w'
theorem DropU.bad {y:Fo} {q:List Ky} {w w':World} {x:Int} (hx:dropE y q = x) (h0:x ≠ 0) (hb:Below w.heap.size w w'):DropU y q w (.returned (.tuple #[.slice none 0 0, .int .i64 x])) w':=by
 subst hx
 have h1:dropY y q = .nil:=by rw [dropY,if_neg h0]
 unfold DropU
 rw [h1]
 exact ⟨none,0,rfl,⟨[],⟨rfl,_,0,rfl,nl_ _,by simp [maxLen],fun _=>rfl, .inl rfl⟩,rfl⟩,hb⟩
theorem Drop_u (y:Fo) (q:List Ky) (ay aq:Option Addr) (cy cq:Nat) (S T:Nat→Prop) (w:World) (hv:FSl S w (.slice ay y.len cy) y) (hS:∀ b,S b→b < w.heap.size) (hq:Pth T w (.slice aq q.length cq) q) (hT:∀ b,T b→b < w.heap.size)
 (hlen:y.len ≤ 1000) (hsm:y.Sm) (hcnt:y.cnt ≤ 900) (lq:q.length ≤ 1000) :
 Calls Tryz.prog 48 #[.slice ay y.len cy, .slice aq q.length cq] w (DropU y q w):=by
 have hb0:Below w.heap.size w (w.alloc (.cells #[.slice aq q.length cq] 65)):=(Below.refl _ _).alloc (nl_ _) _
 have HB0:=hid hb0
 have HN0:=hid (heap_alloc_new w (.cells #[.slice aq q.length cq] 65))
 have HC:=hid (Check_any y ay cy S _ (hv.agree (Ag_b hb0 hS)) (fun b hb=>by have:=hS b hb;simp;omega) hlen hsm hcnt)
 have HV:=hid hv
 have HQ:=hid hq
 have HS:=hid hS
 have HT:=hid hT
 have HSM:=hid hsm
 clear hb0 hv hq hS hT hsm
 by_cases hc:chkY y = 0
 · have HCK:=hid hc
   go_enter Tryz.func48,Tryz.ntmps48
   go_wp2_with fail
   refine HC.out.mono ?_
   rintro e w1 ⟨rfl,hb1⟩
   have hB1:=HB0.out.trans (hb1.mono (by simp))
   have hF1:=hid ((hb1.block w.heap.size (by simp)).trans HN0.out)
   have hz1:=hb1.size
   simp only [World.size_alloc] at hz1
   have HFL:=hid (flats_own y ay cy S w1 (HV.out.agree (Ag_b hB1 HS.out)) (fun b hb=>by have:=HS.out b hb;omega) hlen HSM.out hcnt)
   rw [hc]
   have HB1:=hid hB1
   clear hb1 hB1 hc HC
   go_wp2_with fail
   refine HFL.out.mono ?_
   rintro e w2 ⟨af,cf,cs,M,rfl,how,hls,hM,hb2⟩
   have hz2:=hb2.size
   have HB2:=hid (HB1.out.trans (hb2.mono (by omega)))
   have hF2:=hid ((hb2.block w.heap.size (by omega)).trans hF1.out)
   have hlsl:FlSl (Rg w1.heap.size w2.heap.size) w2 (.slice af (flsL [] y).length cf) (flsL [] y):=⟨cs,SlC.of_owns how,hls.wide fun b hb'=>⟨(hM b hb').1,(hM b hb').2.1⟩⟩
   have okf:=fls_ok HCK.out
   have hsmf:SmF (flsL [] y):=fun x hx=>⟨(okf.2.1 x hx).1,(okf.1 x hx).2.1,(okf.1 x hx).2.2⟩
   have hll:=okf.2.2
   have HFD:=hid (find_any (flsL [] y) q af aq cf cq _ T w2 hlsl (fun b hb=>hb.2) (HQ.out.agree (Ag_b HB2.out HT.out)) (fun b hb=>by have:=HT.out b hb;omega) (by omega) hsmf lq)
   have hcF:w2.cell? ⟨w.heap.size,0,none⟩ = some (.slice aq q.length cq):=cg_ hF2.out (k:=0) rfl
   have HOW:=hid how
   have HLS:=hid hls
   have HM:=hid hM
   have HSMF:=hid hsmf
   clear how hls hM hb2 hlsl okf hsmf HFL
   go_wp2_with fail
   refine HFD.out.mono ?_
   rintro e w3 ⟨ap3,cp3,an3,cn3,rfl,_,_,hb3⟩
   have hz3:=hb3.size
   obtain ⟨is,his⟩:∃ is,(fnd (flsL [] y) q).isSome = is:=⟨_,rfl⟩
   rw [his]
   obtain ⟨fv,hfv⟩:∃ fv,(fnd (flsL [] y) q).getD fl0 = fv:=⟨_,rfl⟩
   rw [hfv]
   have HIS:=hid his
   have hb3':Below w2.heap.size w2 (w3.alloc (.cells #[.slice ap3 fv.p.length cp3, .slice an3 fv.l.length cn3] 171)):=hb3.alloc hz3 _
   have HB3:=hid hb3'
   obtain ⟨wa,hwa⟩:∃ wa,w3.alloc (.cells #[.slice ap3 fv.p.length cp3, .slice an3 fv.l.length cn3] 171) = wa:=⟨_,rfl⟩
   have HWA:=hid hwa
   have hza:wa.heap.size = w3.heap.size + 1:=by rw [← hwa];simp
   rw [hwa] at HB3
   clear his hfv hb3 hb3' hwa HFD hcF
   cases is with
   | false=>
     have hE:dropE y q = 1:=by rw [dropE,if_neg (by simp [HCK.out]),HIS.out];rfl
     have HE:=hid hE
     clear hE
     go_wp2_with fail
     rw [HWA.out]
     exact bodyPost_ret (v := .tuple #[.slice none 0 0, .int .i64 1]) (by simp [results,Tryz.results48,go_sem]) rfl (DropU.bad HE.out (by decide) (HB2.out.trans (HB3.out.mono (by omega))))
   | true=>
     have hE:dropE y q = 0:=by rw [dropE,if_neg (by simp [HCK.out]),HIS.out];rfl
     have hY:dropY y q = (treF 0 ((flsL [] y).filter fun x=>!blP q x.p)).1:=by rw [dropY,if_pos hE];rfl
     have HE:=hid hE
     have HY:=hid hY
     have hne:0 < (flsL [] y).length:=by
      rcases Nat.eq_zero_or_pos (flsL [] y).length with h | h
      · have:=HIS.out
        rw [List.eq_nil_of_length_eq_zero h] at this
        cases this
      · exact h
     obtain ⟨_,⟨_,h00⟩ | ⟨gg,cap,cur,he,hbg,hg,hnc,hcap,_,_⟩⟩:=id HOW.out
     · omega
     cases he
     have hggl:gg < w2.heap.size:=(Array.getElem?_eq_some_iff.1 hg).1
     have hag:∀ b,b < w2.heap.size→wa.heap[b]? = w2.heap[b]?:=fun b hb=>HB3.out.block b hb
     have hgF:w.heap.size ≠ gg:=by omega
     have how2:wa.ownsRow w1.heap.size 171 2 (.slice (some ⟨gg,0,none⟩) (flsL [] y).length cf) (flsL [] y).length cs:=owns_agree HOW.out fun g hg=>hag g (HOW.out.lt g hg).2
     have hls2:LCs rdFl M wa (flsL [] y) cs:=HLS.out.agree fun b hb=>hag b (HM.out b hb).2.1
     have DEL:=hid (del_flat 131 enters131 (fun i=>blP q ((flsL [] y).getD i fl0).p) [.pointer (some ⟨w.heap.size,0,none⟩)] (flsL [] y).length w1.heap.size gg cf cs wa how2 (fun j hj=>by
      obtain ⟨ap,cp,an,cn,e1,e2,_⟩:=flat_cells hls2 hj
      exact ⟨ap,_,cp,an,_,cn,e1,e2⟩) (by omega) (fun i hi W hW=>by
      obtain ⟨ap,cp,an,cn,e1,e2,hp⟩:=flat_cells hls2 hi
      have hgd:(flsL [] y).getD i fl0 = (flsL [] y)[i]:=by simp [List.getD_eq_getElem?_getD,hi]
      have hel:elemV 2 cs i = .agg #[.slice ap (flsL [] y)[i].p.length cp, .slice an (flsL [] y)[i].l.length cn]:=by simp [elemV,List.range_succ,e1,e2, -List.getD_eq_getElem?_getD]
      rw [hel,hgd]
      have hzW:=hW.size
      have hpM:Pth M W (.slice ap (flsL [] y)[i].p.length cp) (flsL [] y)[i].p:=hp.agree fun b hb=>hW.block b (by have:=(HM.out b hb).2.1;omega) (fun e=>(HM.out b hb).2.2 (by rw [e];rfl))
      have hqT:Pth T W (.slice aq q.length cq) q:=HQ.out.agree fun b hb=>(hW.block b (by have:=HT.out b hb;have:=HB2.out.size;omega) (fun e=>by
       have:=HT.out b hb
       have:gg = b:=by simpa using e.symm
       omega)).trans ((hag b (by have:=HT.out b hb;have:=HB2.out.size;omega)).trans (HB2.out.block b (HT.out b hb)))
      refine drop1_any (flsL [] y)[i] q ap an aq cp cn cq w.heap.size (fun b=>M b ∨ T b) W (hpM.wide fun b hb => .inl hb) (hqT.wide fun b hb => .inr hb) (fun b hb=>?_) (HSMF.out _ (List.getElem_mem hi)).1 lq (by omega) ?_
      · rcases hb with hb | hb
        · have:=(HM.out b hb).2.1;omega
        · have:=HT.out b hb;omega
      · rw [World.cell?_of_block (a:=⟨w.heap.size,0,none⟩) ((hW.block w.heap.size (by omega) (fun e=>hgF (Option.some.inj e))).trans (hag _ (by omega)))]
        exact cg_ hF2.out (k:=0) rfl))
     clear how2 hls2 hE hY hg HOW
     have HAG:=hid hag
     clear hag
     go_wp2_with fail
     rw [HWA.out]
     go_wp2_with fail
     refine DEL.out.mono ?_
     rintro e w4 ⟨rfl,hown4,hgr4⟩
     obtain ⟨k1,k2⟩:=kp_lcs (HLS.out.agree fun b hb=>HAG.out b (HM.out b hb).2.1) (p:=fun i=>blP q ((flsL [] y).getD i fl0).p) (pr:=fun x=>blP q x.p) (fun i hi=>by simp [List.getD_eq_getElem?_getD,hi]) (flsL [] y).length (nl_ _)
     rw [List.take_length] at k1 k2
     rw [k2] at hown4 ⊢
     have hz4:=hgr4.size
     obtain ⟨l2,hl2⟩:∃ l2,(flsL [] y).filter (fun x=>!blP q x.p) = l2:=⟨_,rfl⟩
     rw [hl2] at hown4 k1 ⊢
     have HY2:=HY.out
     rw [hl2] at HY2
     have hlsl:FlSl (fun b=>b < w4.heap.size) w4 (.slice (some ⟨gg,0,none⟩) l2.length cf) l2:=⟨_,(SlC.of_owns hown4).wide fun b hb=>hb.2,(k1.agree (w':=w4) fun b hb=>hgr4.block b (by have:=(HM.out b hb).2.1;omega) (fun e=>(HM.out b hb).2.2 (by rw [e];rfl))).wide fun b hb=>by have:=(HM.out b hb).2.1;omega⟩
     have hll2:l2.length ≤ 1000:=by rw [← hl2];exact Nat.le_trans (List.length_filter_le _ _) (by omega)
     have hsm2:SmF l2:=fun x hx=>HSMF.out x (by rw [← hl2] at hx;exact (List.mem_filter.1 hx).1)
     have TR:=hid (tree_u l2 (some ⟨gg,0,none⟩) cf _ w4 hlsl (fun b hb=>hb) hll2 hsm2)
     have hB4:Below w.heap.size w w4:=by
      have hB3:=HB2.out.trans (HB3.out.mono (by omega))
      exact hB3.grown hgr4 (by omega) (fun b hb=>by cases hb;omega)
     have HB4:=hid hB4
     have HY2:=hid HY2
     clear hB4 hlsl hown4 hgr4 k1 k2 hl2 hll2 hsm2 DEL
     go_wp2_with fail
     refine TR.out.mono ?_
     rintro e w5 ⟨a5,c5,rfl,hF5,hb5⟩
     have hz5:=hb5.size
     have hB5:=HB4.out.trans (hb5.mono HB4.out.size)
     have hzz:=HB4.out.size
     clear hb5
     go_wp2_with fail
     refine bodyPost_ret (v := .tuple #[.slice a5 (treF 0 l2).1.len c5, .int .i64 0]) (by simp [results,Tryz.results48,go_sem]) rfl ?_
     unfold DropU
     rw [HE.out,HY2.out]
     exact ⟨a5,c5,rfl,FSlU.wide hF5 fun b hb=>⟨by have:=hb.1;omega,hb.2⟩,hB5⟩
 · have hE:dropE y q = chkY y:=by rw [dropE,if_pos hc]
   obtain ⟨x,hx⟩:∃ x,chkY y = x:=⟨_,rfl⟩
   rw [hx] at hE hc HC
   have hc':¬ x = 0:=hc
   have HE:=hid hE
   clear hE hx hc
   go_enter Tryz.func48,Tryz.ntmps48
   go_wp2_with fail
   refine HC.out.mono ?_
   rintro e w1 ⟨rfl,hb1⟩
   have hB1:=HB0.out.trans (hb1.mono (by simp))
   clear hb1
   go_wp2_with fail
   exact bodyPost_ret (v := .tuple #[.slice none 0 0, .int .i64 x]) (by simp [results,Tryz.results48,go_sem]) rfl (DropU.bad HE.out hc' hB1)
end Go.Proofs.LF
namespace Go.Proofs.LF
open Go.RowKit Go.Sort
set_option maxHeartbeats 4000000
set_option maxRecDepth 100000
attribute [local go_sem] bs_toList bs_size bs_get
theorem same_take {S:Nat→Prop} {w:World} {p q:List Ky} {ap aq:Option Addr} {cp cq b:Nat} (hp:Pth S w (.slice ap p.length cp) p) (hq:Pth S w (.slice aq q.length cq) q) (lp:b ≤ p.length) (lq:b ≤ q.length) (hb:b ≤ 1000) :
 Calls Tryz.prog 73 #[.slice ap b cp, .slice aq b cq] w fun e w'=>e = .returned (.bool (decide (p.take b = q.take b)))∧Below w.heap.size w w':=by
 have e1:(p.take b).length = b:=by rw [List.length_take,Nat.min_eq_left lp]
 have e2:(q.take b).length = b:=by rw [List.length_take,Nat.min_eq_left lq]
 have h1:=hp.pre lp
 have h2:=hq.pre lq
 have:=Same_any (p.take b) (q.take b) ap aq cp cq S w (by rw [e1];exact h1) (by rw [e2];exact h2) (by omega) (by omega)
 rwa [e1,e2] at this
theorem Pth.key {S:Nat→Prop} {w:World} {p:List Ky} {a:Option Addr} {c k:Nat} (hp:Pth S w (.slice a p.length c) p) (hk:k < p.length):∃ g o,a = some ⟨g,o,none⟩∧S g∧w.cell? ⟨g,o + k * 3,none⟩ = some (.string (bs p[k].n))∧w.cell? ⟨g,o + k * 3 + 1,none⟩ = some (.bool p[k].h)∧w.cell? ⟨g,o + k * 3 + 2,none⟩ = some (.int .i64 p[k].x):=by
 obtain ⟨g,o,rfl,hg,_,_,hcell⟩:=SlC.cells hp (by omega)
 obtain ⟨k0,k1,k2⟩:=key_cells hk
 have c0:=hcell _ _ k0
 have c1:=hcell _ _ k1
 have c2:=hcell _ _ k2
 rw [← Nat.add_assoc] at c1 c2
 exact ⟨g,o,rfl,hg,c0,c1,c2⟩
end Go.Proofs.LF
namespace Go.Proofs.LF
open Go.RowKit Go.Sort
set_option maxHeartbeats 4000000
set_option maxRecDepth 100000
attribute [local go_sem] bs_toList bs_size bs_get
theorem Ahead_any (p q:List Ky) (ap aq:Option Addr) (cp cq:Nat) (S:Nat→Prop) (w:World) (hp:Pth S w (.slice ap p.length cp) p) (hq:Pth S w (.slice aq q.length cq) q) (hS:∀ b,S b→b < w.heap.size) (lp:p.length ≤ 100000) (lq:q.length ≤ 100000) :
 Calls Tryz.prog 150 #[.slice ap p.length cp, .slice aq q.length cq] w fun e w'=>e = .returned (.bool (decide (cmpP p q < 0)))∧Below w.heap.size w w':=by
 go_enter Tryz.func150,Tryz.ntmps150
 go_wp2_with fail
 go_loopw [5] (fun i wr=>∃ (k d:Nat),k ≤ p.length∧k ≤ q.length∧i = .int .i64 k∧wr = w.drewN d∧Hid (p.take k = q.take k)) (fun i _=>p.length - (intOf i).toNat)
 case atStart=>exact ⟨0,0,by omega,by omega,rfl,rfl,by simp [Hid]⟩
 case round=>
  obtain ⟨k,d,hk,hkq,rfl,rfl,H2⟩:=hrel
  have i1:(0:Int) ≤ (k:Int):=by omega
  by_cases hlt:k < p.length
  · have i2:(k:Int) < (p.length:Int):=by omega
    by_cases hlt':k < q.length
    · have i3:(k:Int) < (q.length:Int):=by omega
      obtain ⟨g,o,rfl,hg,_,_,hcell⟩:=SlC.cells hp (by omega)
      obtain ⟨g',o',rfl,hg',_,_,hcell'⟩:=SlC.cells hq (by omega)
      obtain ⟨k0,k1,k2⟩:=key_cells hlt
      obtain ⟨k0',k1',k2'⟩:=key_cells hlt'
      have c0:=hcell _ _ k0
      have c1:=hcell _ _ k1
      have c2:=hcell _ _ k2
      have d0:=hcell' _ _ k0'
      have d1:=hcell' _ _ k1'
      have d2:=hcell' _ _ k2'
      rw [← Nat.add_assoc] at c1 c2 d1 d2
      have htp:p.take (k + 1) = p.take k ++ [p[k]]:=List.take_succ_eq_append_getElem hlt
      have htq:q.take (k + 1) = q.take k ++ [q[k]]:=List.take_succ_eq_append_getElem hlt'
      obtain ⟨a,ha⟩:∃ a,p[k] = a:=⟨_,rfl⟩
      obtain ⟨b,hb⟩:∃ b,q[k] = b:=⟨_,rfl⟩
      have HAT:=hid (fun hne=>ahead_at H2.out hlt hlt' ha hb hne)
      rw [ha] at c0 c1 c2 htp
      rw [hb] at d0 d1 d2 htq
      have HTP:=hid htp
      have HTQ:=hid htq
      have HG:=hid (hS g hg)
      have HG':=hid (hS g' hg')
      clear hcell hcell' k0 k1 k2 k0' k1' k2' htp htq ha hb
      by_cases he:a = b
      · subst he
        go_wp2_with fail
        go_quiet (fail)
        go_wp2_with fail
        go_roundw
        case rel=>exact ⟨k + 1,_,by omega,by omega,by go_num,rfl,by rw [Hid,HTP.out,HTQ.out,H2.out]⟩
        case measure=>simp [intOf];omega
      · have hdec:(a.n == b.n && (a.h == b.h && a.x == b.x)) = false:=by rw [← ky_beq];simp [he]
        have HA:=hid (HAT.out he)
        have HDEC:=hid hdec
        clear he hdec HAT
        cases hn:(a.n == b.n) <;> cases hh:(a.h == b.h) <;> cases hx:(a.x == b.x)
        all_goals first
         | (exfalso;have:=HDEC.out;rw [hn,hh,hx] at this;cases this;done)
         | (go_wp2_with fail
            go_quiet (fail)
            go_wp2_with fail
            go_region_held3 (fun w'=>w'.cell? ⟨g,o + k * 3,none⟩ = some (.string (bs a.n))∧w'.cell? ⟨g,o + k * 3 + 1,none⟩ = some (.bool a.h)∧w'.cell? ⟨g,o + k * 3 + 2,none⟩ = some (.int .i64 a.x)∧w'.cell? ⟨g',o' + k * 3,none⟩ = some (.string (bs b.n))∧w'.cell? ⟨g',o' + k * 3 + 1,none⟩ = some (.bool b.h)∧w'.cell? ⟨g',o' + k * 3 + 2,none⟩ = some (.int .i64 b.x))
             (first
               | go_keep
               | (go_split_ands;have hz9:=hb9.size;have hg9:=HG.out;have hg9':=HG'.out;simp at hz9;refine ⟨?_,?_,?_,?_,?_,?_⟩ <;> exact bc_ hb9 (by simp;omega) (by assumption)))
             (first | (go_at_call 108;refine (before_any a b _).mono ?_;rintro e w9 ⟨rfl,hb9⟩))
            go_wp2_with fail
            go_ret
            exact ⟨ret_bool HA.out.symm,⟨hb9.os,hb9.tape,hb9.output,hb9.size,hb9.block⟩⟩)
    · have i3:¬ (k:Int) < (q.length:Int):=by omega
      have HE:=hid (ahead_end H2.out (.inr ⟨by omega,by omega⟩))
      go_wp2_with fail
      go_ret
      refine ⟨ret_bool ?_,below_drewN (Below.refl _ _) _⟩
      rw [HE.out]
  · have i2:¬ (k:Int) < (p.length:Int):=by omega
    have HE:=hid (ahead_end H2.out (.inl ⟨by omega,by omega⟩))
    go_wp2_with fail
    go_ret
    refine ⟨ret_bool ?_,below_drewN (Below.refl _ _) _⟩
    rw [HE.out]
theorem Find_any (l:List Fl) (p:List Ky) (al ap:Option Addr) (cl cp:Nat) (S:Nat→Prop) (w:World) (hl:LSl rdFl S w (.slice al l.length cl) l) (hp:Pth S w (.slice ap p.length cp) p) (hS:∀ b,S b→b < w.heap.size) (ll:l.length ≤ 100000) (lx:∀ x ∈ l,x.p.length ≤ 1000) (lp:p.length ≤ 1000) :
 Calls Tryz.prog 113 #[.slice al l.length cl, .slice ap p.length cp] w fun e w'=>e = .returned (.int .i64 (fiI l p))∧Below w.heap.size w w':=by
 obtain ⟨_,_,he,hc,hm,hat⟩:=hl.at
 cases he
 have HAT:=hid hat
 have HP:=hid hp
 have HS:=hid hS
 have HLX:=hid lx
 unfold maxLen at hm
 clear hl hat hp hS lx
 go_enter Tryz.func113,Tryz.ntmps113
 go_wp2_with fail
 go_loopw [5] (fun i wr=>∃ k:Nat,k ≤ l.length∧i = .int .i64 k∧Hid (fiI l p = fiG p k (l.drop k))∧Hid (Below w.heap.size w wr)) (fun i _=>l.length - (intOf i).toNat)
 case atStart=>exact ⟨0,by omega,rfl,rfl,Below.refl _ _⟩
 case round=>
  obtain ⟨k,hk,rfl,hf,hB⟩:=hrel
  have i1:(0:Int) ≤ (k:Int):=by omega
  by_cases hlt:k < l.length
  · have i2:(k:Int) < (l.length:Int):=by omega
    obtain ⟨g0,o,cs1,rfl,hg,⟨ax,cx,an,cn,rfl,hP,_⟩,hcell⟩:=HAT.out k hlt
    obtain ⟨x,hx⟩:∃ x,l[k] = x:=⟨_,rfl⟩
    rw [hx] at hP hcell
    have hmem:x ∈ l:=by rw [← hx];exact List.getElem_mem hlt
    have x1:=HLX.out x hmem
    have ha:Agree S w wr:=Ag_b hB.out HS.out
    have c0:=ha.cell hg (hcell 0 _ rfl)
    rw [Nat.add_zero] at c0
    obtain ⟨hst1,hst2⟩:=fiG_step hf.out hlt hx
    have H1:=hid hst1
    have H2:=hid hst2
    have SM:=hid (Same_any x.p p ax ap cx cp S wr (hP.agree ha) (HP.out.agree ha) (by omega) (by omega))
    have hsz:=hB.out.size
    clear hcell hP hst1 hst2 hmem hx
    by_cases he:x.p = p
    · rw [decide_eq_true he] at SM
      have H1:=hid (H1.out he)
      clear he
      go_wp2_with fail
      refine SM.out.mono ?_
      rintro e w2 ⟨rfl,hb2⟩
      go_wp2_with fail
      go_ret
      exact ⟨ret_int H1.out.symm,hB.out.trans (hb2.mono hsz)⟩
    · rw [decide_eq_false he] at SM
      have H2:=hid (H2.out he)
      clear he
      go_wp2_with fail
      refine SM.out.mono ?_
      rintro e w2 ⟨rfl,hb2⟩
      go_wp2_with fail
      go_roundw
      case rel=>exact ⟨k + 1,by omega,by go_num,H2.out,hB.out.trans (hb2.mono hsz)⟩
      case measure=>simp [intOf];omega
  · have i2:¬ (k:Int) < (l.length:Int):=by omega
    obtain rfl:k = l.length:=by omega
    have HE:=hid (fiG_end hf.out)
    go_wp2_with fail
    go_ret
    exact ⟨ret_int HE.out.symm,hB.out⟩
end Go.Proofs.LF
namespace Go.Proofs.LF
open Go.RowKit Go.Sort
set_option maxHeartbeats 4000000
set_option maxRecDepth 100000
attribute [local go_sem] bs_toList bs_size bs_get
def TreeC (L:List Fl) (u:List Ky) (a:Option Addr) (c:Nat) (ua:Option Addr) (uc:Nat) (y:Fo):Prop:=∀ (S:Nat→Prop) (w:World),LSl rdFl S w (.slice a L.length c) L→Pth S w (.slice ua u.length uc) u→(∀ b,S b→b < w.heap.size) →
 Calls Tryz.prog 29 #[.slice a L.length c, .slice ua u.length uc] w fun e w'=>∃ a c,e = .returned (.slice a y.len c)∧FSl (Rg w.heap.size w'.heap.size) w' (.slice a y.len c) y∧Below w.heap.size w w'
theorem Tree_step (L:List Fl) (u:List Ky) (g:Fl→Fo) (a:Option Addr) (c:Nat) (ua:Option Addr) (uc:Nat) (ll:L.length ≤ 1000) (lx:∀ x ∈ L,x.p.length ≤ 900∧x.l.length ≤ 900) (lu:u.length ≤ 900)
 (H:∀ x ∈ L,isCh u x = true→∀ (ap:Option Addr) (cp:Nat),TreeC L x.p a c ap cp (g x)):TreeC L u a c ua uc (toFo g u.length (L.filter (isCh u))):=by
 intro S w hL hu hS
 obtain ⟨_,_,he,hc,hm,hat⟩:=hL.at
 cases he
 obtain ⟨i0,hi0,hz0,hz1,hz2⟩:=info_parts Tryz.info97
 obtain ⟨j0,hj0,hy0,hy1,hy2⟩:=info_parts Tryz.info3
 have HH:=hid H
 have HL:=hid hL
 have HU:=hid hu
 have HS:=hid hS
 have HAT:=hid hat
 have HLX:=hid lx
 clear H hL hu hat lx
 unfold maxLen at hm
 go_enter Tryz.func29,Tryz.ntmps29
 go_wp2_with fail
 go_loopw [5,6] (fun v i wr=>∃ (k:Nat) (cs:List Value),k ≤ L.length∧i = .int .i64 k∧wr.ownsRow w.heap.size 97 3 v ((L.take k).filter (isCh u)).length cs∧Hid (FCs (Rx w.heap.size wr.heap.size v) wr (toFo g u.length ((L.take k).filter (isCh u))) cs)∧Hid (Below w.heap.size w wr)) (fun _ i _=>L.length - (intOf i).toNat)
 case atStart=>exact ⟨0,[],by omega,rfl,World.ownsRow_nil _ _ _ _,rfl,Below.refl _ _⟩
 case round=>
  obtain ⟨k,cs,hk,rfl,hown,hfc,hB⟩:=hrel
  by_cases hlt:k < L.length
  · obtain ⟨g0,o,cs1,rfl,hg,⟨ap,cp,an,cn,rfl,hP,hI⟩,hcell⟩:=HAT.out k hlt
    obtain ⟨x,hx⟩:∃ x,L[k] = x:=⟨_,rfl⟩
    rw [hx] at hP hI hcell
    have hmem:x ∈ L:=by rw [← hx];exact List.getElem_mem hlt
    obtain ⟨x1,x2⟩:=HLX.out x hmem
    have ha:Agree S w wr:=Ag_b hB.out HS.out
    have c0:=ha.cell hg (hcell 0 _ rfl)
    have c1:=ha.cell hg (hcell 1 _ rfl)
    rw [Nat.add_zero] at c0
    rw [← Nat.add_assoc] at c1
    have HX:=hid hx
    have HM:=hid hmem
    have HP:=hid hP
    have HI:=hid hI
    have hsz:=hB.out.size
    have hlk:((L.take k).filter (isCh u)).length ≤ k:=Nat.le_trans (List.length_filter_le _ _) (by rw [List.length_take];omega)
    have hlt':(k:Int) < (L.length:Int):=by omega
    clear hcell hx hmem hP hI
    by_cases hlen:x.p.length = u.length + 1
    · have hlen':(x.p.length:Int) = (u.length:Int) + 1:=by omega
      have SM:=hid (same_take (HP.out.agree ha) (HU.out.agree ha) (b:=u.length) (by omega) (nl_ _) (by omega))
      obtain ⟨hcp,_,_⟩:=SlC.caps HP.out
      by_cases hpre:x.p.take u.length = u
      · have hdec:decide (x.p.take u.length = u.take u.length) = true:=by rw [List.take_length];exact decide_eq_true hpre
        have hch:isCh u x = true:=by unfold isCh;rw [decide_eq_true hlen,decide_eq_true hpre];rfl
        have HCH:=hid hch
        rw [hdec] at SM
        clear hpre hch hdec
        go_upto_if 32 with (go_at_call 73;refine SM.out.mono ?_;rintro e w2 ⟨rfl,hb2⟩)
        have hpk:u.length < x.p.length:=by omega
        obtain ⟨gp,op,rfl,hgp,kc0,_,_⟩:=HP.out.key hpk
        obtain ⟨nm,hnm⟩:∃ n,x.p[u.length].n = n:=⟨_,rfl⟩
        rw [hnm] at kc0
        have hzw2:=hb2.size
        have lgp:=HS.out gp hgp
        have lg0:=HS.out g0 hg
        have hB2:Below w.heap.size w w2:=hB.out.trans (hb2.mono hsz)
        have ha2:Agree S w w2:=Ag_b hB2 HS.out
        have d0:=ha2.cell hgp kc0
        have d1:=bc_ hb2 (by omega) c1
        have hown2:=ob_ hown hb2 (nl_ _)
        have hfc2:FCs (Rx w.heap.size w2.heap.size u5) w2 (toFo g u.length (List.filter (isCh u) (List.take k L))) cs:=(hfc.out.agree (Ag_b hb2 fun b hb=>hb.2.1)).wide fun b hb=>⟨hb.1,by have:=hb.2.1;omega,hb.2.2⟩
        have hne:=owns_ne hown2 (nl_ w2.heap.size)
        have hnone:=fun e:an = none=>(SlC.caps HI.out).2.2 e
        have hli:(x.l.map (Value.int .i64)).length = x.l.length * 1:=by simp
        have v1:(0:Int) ≤ (u.length:Int):=by omega
        have v2:(u.length:Int) < (u.length:Int) + 1:=by omega
        have v3:(u.length:Int) < (x.p.length:Int):=by omega
        have HFC:=hid hfc2
        have HB2:=hid hB2
        have HNM:=hid hnm
        have HHX:=hid (HH.out x HM.out HCH.out)
        have hown1u:∀ b,b < w.heap.size→u5.ownBlock ≠ some b:=fun b hb=>owns_ne' hown2 hb
        clear hfc2 hnm hfc hB hown kc0 SM c0 c1 ha
        go_wp2_with fail
        refine (wpIn_wide (n:=9)).1 ?_
        refine region_held (fun w':World=>w'.cell? ⟨gp,op + u.length * 3,none⟩ = some (.string (bs nm))∧w'.cell? ⟨g0,o + k * 2 + 1,none⟩ = some (.slice an x.l.length cn)) (by kernel_rfl) ?_
        have hS0:(fun w':World=>w'.cell? ⟨gp,op + u.length * 3,none⟩ = some (.string (bs nm))∧w'.cell? ⟨g0,o + k * 2 + 1,none⟩ = some (.slice an x.l.length cn)) w2.drew:=⟨d0,d1⟩
        refine tkY 0 33 (u5) rfl rfl hS0 (fun w' hs=>?_) ?_
        · go_simp
        refine tkY 1 34 (.slice (some ⟨gp,op,none⟩) (u.length + 1) cp) rfl rfl hS0 (fun w' hs=>?_) ?_
        · go_simp
        refine tkY 2 35 (.slice ua u.length uc) rfl rfl hS0 (fun w' hs=>?_) ?_
        · go_simp
        refine tkY 3 36 (.int .i64 u.length) rfl rfl hS0 (fun w' hs=>?_) ?_
        · go_simp
        refine tkY 4 37 (.pointer (some ⟨gp,op + u.length * 3,none⟩)) rfl rfl hS0 (fun w' hs=>?_) ?_
        · go_simp
        refine tkY 5 38 (.pointer (some ⟨gp,op + u.length * 3,none⟩)) rfl rfl hS0 (fun w' hs=>?_) ?_
        · go_simp
        refine tkY 6 39 (.string (bs nm)) rfl rfl hS0 (fun w' hs=>?_) ?_
        · go_simp
        refine tkY 8 41 (.slice (some ⟨g0,o,none⟩) L.length c) rfl rfl hS0 (fun w' hs=>?_) ?_
        · go_simp
        refine tkY 9 42 (.int .i64 k) rfl rfl hS0 (fun w' hs=>?_) ?_
        · go_simp
        refine tkY 10 43 (.pointer (some ⟨g0,o + k * 2,none⟩)) rfl rfl hS0 (fun w' hs=>?_) ?_
        · go_simp
        refine tkY 11 44 (.pointer (some ⟨g0,o + k * 2 + 1,none⟩)) rfl rfl hS0 (fun w' hs=>?_) ?_
        · go_simp
        refine tkY 12 45 (.slice an x.l.length cn) rfl rfl hS0 (fun w' hs=>?_) ?_
        · go_simp
        refine tkY 14 47 (.slice (some ⟨g0,o,none⟩) L.length c) rfl rfl hS0 (fun w' hs=>?_) ?_
        · go_simp
        refine tkY 15 48 (.slice (some ⟨gp,op,none⟩) (u.length + 1) cp) rfl rfl hS0 (fun w' hs=>?_) ?_
        · go_simp
        refine AnyH_one (i:=7) (by kernel_rfl) rfl (by kernel_rfl) (fun K hK=>?_)
        go_simp
        have hba:Below w2.heap.size w2 (w2.drew.alloc (.cells #[] 3)):=(Below.refl _ _).drew.alloc (nl_ _) _
        refine hK _ _ ⟨⟨bc_ hba (by omega) d0,bc_ hba (by omega) d1⟩,?_⟩
        clear hK
        obtain ⟨a3,c3,w3,hr3,hown3,hgrow3,hat3⟩:=run_append_ao (P:=Tryz.prog) (w2.drew.alloc (.cells #[] 3)) 66 66 w2.heap.size 3 j0 _ 1 8 Tryz.underlying66 hj0 hy0 hy1 hy2 rfl (by omega) (.slice (some ⟨w2.heap.size,0,none⟩) 0 0) 0 [] (owns_of_row (w:=w2.drew.alloc (.cells #[] 3)) (n:=0) (cap:=0) (cur:=#[]) (nl_ _) (heap_alloc_new w2.drew _) (by omega) (by unfold maxLen;omega) (by simp) (by simp)) an x.l.length cn (x.l.map (Value.int .i64)) hli hnone (SlC.news HI.out (Ag_b (HB2.out.trans (hba.mono HB2.out.size)) HS.out)) (one_ints x.l) (by unfold maxLen;omega) (by omega) (by simp)
        simp only [Nat.zero_add,List.nil_append] at hr3 hown3 hat3
        have hb3:Below w2.heap.size w2 w3:=hba.grown hgrow3 (by simp) (fun b hb=>by simp [Value.ownBlock] at hb;omega)
        have hz3:=hb3.size
        have hS3:(fun w':World=>w'.cell? ⟨gp,op + u.length * 3,none⟩ = some (.string (bs nm))∧w'.cell? ⟨g0,o + k * 2 + 1,none⟩ = some (.slice an x.l.length cn)) w3:=⟨bc_ hb3 (by omega) d0,bc_ hb3 (by omega) d1⟩
        refine AnyH_one (i:=13) (by kernel_rfl) rfl (by kernel_rfl) (fun K hK=>?_)
        refine wpIn_value (fun _=>trivial) rfl (exec_append rfl rfl rfl hr3) ?_
        refine hK _ _ ⟨hS3,?_⟩
        clear hK hr3
        refine AnyH_one (i:=16) (by kernel_rfl) rfl (by kernel_rfl) (fun K hK=>?_)
        go_simp
        have HC:=HHX.out (some ⟨gp,op,none⟩) cp
        unfold TreeC at HC
        have q1:LSl rdFl (fun b=>b < w3.heap.size) w3 (.slice (some ⟨g0,o,none⟩) L.length c) L:=(HL.out.agree (Ag_b (HB2.out.trans (hb3.mono HB2.out.size)) HS.out)).wide (fun b hb=>by have:=HS.out b hb;omega)
        have q2:Pth (fun b=>b < w3.heap.size) w3 (.slice (some ⟨gp,op,none⟩) x.p.length cp) x.p:=(HP.out.agree (Ag_b (HB2.out.trans (hb3.mono HB2.out.size)) HS.out)).wide (fun b hb=>by have:=HS.out b hb;omega)
        have HC2:=HC (fun b=>b < w3.heap.size) w3 q1 q2 (fun b hb=>hb)
        rw [hlen] at HC2
        refine ⟨trivial,(callsIn_wide.2 HC2).mono ?_⟩
        rintro e w4 ⟨a4,c4,rfl,hF4,hb4⟩
        have hz4:=hb4.size
        have hS4:(fun w':World=>w'.cell? ⟨gp,op + u.length * 3,none⟩ = some (.string (bs nm))∧w'.cell? ⟨g0,o + k * 2 + 1,none⟩ = some (.slice an x.l.length cn)) w4:=⟨bc_ hb4 (by omega) hS3.1,bc_ hb4 (by omega) hS3.2⟩
        refine hK _ _ ⟨hS4,?_⟩
        clear hK
        refine tkY 17 50 (.agg #[.string (bs nm), .slice a3 x.l.length c3, .slice a4 (g x).len c4]) rfl rfl hS4 (fun w' hs=>?_) ?_
        · go_simp
        refine AnyH_one (i:=18) (by kernel_rfl) rfl (by kernel_rfl) (fun K hK=>?_)
        go_simp
        have hbb:Below w4.heap.size w4 (w4.alloc (.cells #[.string (bs nm), .slice a3 x.l.length c3, .slice a4 (g x).len c4] 97)):=(Below.refl _ _).alloc (nl_ _) _
        refine hK _ _ ⟨⟨bc_ hbb (by omega) hS4.1,bc_ hbb (by omega) hS4.2⟩,?_⟩
        clear hK
        obtain ⟨a5,c5,w5,hr5,hown5,hgrow5,hat5⟩:=run_append_ao (P:=Tryz.prog) (w4.alloc (.cells #[.string (bs nm), .slice a3 x.l.length c3, .slice a4 (g x).len c4] 97)) 26 26 w.heap.size 97 i0 _ 3 64 Tryz.underlying26 hi0 hz0 hz1 hz2 rfl (by omega) u5 ((L.take k).filter (isCh u)).length cs ((ob_ (ob_ hown2 hb3 (nl_ _)) hb4 (nl_ _)).alloc _) (some ⟨w4.heap.size,0,none⟩) 1 1 [.string (bs nm), .slice a3 x.l.length c3, .slice a4 (g x).len c4] rfl (fun h=>by cases h) (fun ad had=>by cases had;exact World.news_of_block (cs:=#[.string (bs nm), .slice a3 x.l.length c3, .slice a4 (g x).len c4]) (t:=97) (fr:=(0,0)) (heap_alloc_new _ _)) (by simp [Value.oneCell']) (by unfold maxLen;omega) (by omega) (by simp;omega)
        have hS5:(fun w':World=>w'.cell? ⟨gp,op + u.length * 3,none⟩ = some (.string (bs nm))∧w'.cell? ⟨g0,o + k * 2 + 1,none⟩ = some (.slice an x.l.length cn)) w5:=⟨grown_cell hgrow5 (hown1u _ (by omega)) (bc_ hbb (by omega) hS4.1),grown_cell hgrow5 (hown1u _ (by omega)) (bc_ hbb (by omega) hS4.2)⟩
        refine AnyH_one (i:=19) (by kernel_rfl) rfl (by kernel_rfl) (fun K hK=>?_)
        refine wpIn_value (fun _=>trivial) rfl (exec_append rfl rfl rfl hr5) ?_
        refine hK _ _ ⟨hS5,?_⟩
        clear hK hr5
        refine tkY 20 5 (.slice a5 (((L.take k).filter (isCh u)).length + 1) c5) rfl rfl hS5 (fun w' hs=>?_) ?_
        · go_simp
        refine AnyH_done (by kernel_rfl) ?_
        go_simp
        obtain ⟨g5,cap5,he5,hg5,hlt5⟩:=hown5.form (by omega)
        cases he5
        have st:Step w.heap.size w2 (w4.alloc (.cells #[.string (bs nm), .slice a3 x.l.length c3, .slice a4 (g x).len c4] 97)) w5 u5 g5:=⟨(hb3.trans (hb4.mono hz3)).alloc (by omega) _,⟨hgrow5.os,hgrow5.tape,hgrow5.output,hgrow5.size,hgrow5.block⟩,by omega,fun b hb=>hown2.lt b hb,hat5 g5 rfl,hlt5⟩
        have hv5:(Value.slice (some ⟨g5,0,none⟩) (((L.take k).filter (isCh u)).length + 1) c5).ownBlock = some g5:=rfl
        have n1:=st.keep (Stable.fcs _ _) hv5 HFC.out
        have n2:=st.lift (Stable.ints _ _) hv5 (show Ints (Rg w2.heap.size w3.heap.size) w3 (.slice a3 x.l.length c3) x.l from SlC.of_owns hown3) (nl_ _) (by simp;omega) ((hb4.alloc hz4 _))
        have n3:=st.lift (Stable.fsl _ _) hv5 hF4 hz3 (by simp) ((Below.refl _ _).alloc (nl_ _) _)
        have n4:=st.out HB2.out
        have hct:=ch_take_yes hlt HX.out HCH.out
        have hgd:(x.p.getD u.length ⟨[],false,0⟩).n = nm:=by
         rw [List.getD_eq_getElem?_getD,List.getElem?_eq_getElem (by omega)]
         exact HNM.out
        have n5:Hid (FCs (Rx w.heap.size w5.heap.size (.slice (some ⟨g5,0,none⟩) (((L.take k).filter (isCh u)).length + 1) c5)) w5 (toFo g u.length ((L.take (k + 1)).filter (isCh u))) (cs ++ [.string (bs nm), .slice a3 x.l.length c3, .slice a4 (g x).len c4])):=by
         rw [hct,toFo_app]
         simp only [toFo,hgd]
         exact n1.app (FCs.one n2 n3)
        have hown6:w5.ownsRow w.heap.size 97 3 (.slice (some ⟨g5,0,none⟩) (((L.take k).filter (isCh u)).length + 1) c5) ((L.take (k + 1)).filter (isCh u)).length (cs ++ [.string (bs nm), .slice a3 x.l.length c3, .slice a4 (g x).len c4]):=by
         rw [hct,List.length_append];exact hown5
        clear n1 n2 n3 st hown5 hgrow5 hat5 hct
        go_wp2_with fail
        go_roundw
        case rel=>exact ⟨k + 1,_,by omega,by go_num,hown6,n5,n4⟩
        case measure=>simp [intOf];omega
      · have hdec:decide (x.p.take u.length = u.take u.length) = false:=by rw [List.take_length];exact decide_eq_false hpre
        have hch:isCh u x = false:=by unfold isCh;rw [decide_eq_false hpre,Bool.and_false]
        have hct:=ch_take_no hlt HX.out hch
        rw [hdec] at SM
        have hz:=hB.out.size
        clear hpre hch hdec
        go_wp2_with (go_at_call 73;refine SM.out.mono ?_;rintro e w2 ⟨rfl,hb2⟩)
        have hown2:=ob_ hown hb2 (nl_ _)
        have hfc2:Hid (FCs (Rx w.heap.size w2.heap.size u5) w2 (toFo g u.length (List.filter (isCh u) (List.take k L))) cs):=(hfc.out.agree (Ag_b hb2 fun b hb=>hb.2.1)).wide fun b hb=>⟨hb.1,by have:=hb.2.1;have:=hb2.size;omega,hb.2.2⟩
        go_roundw
        case rel=>exact ⟨k + 1,cs,by omega,by go_num,by rw [hct];exact hown2,by rw [hct];exact hfc2,hB.out.trans (hb2.mono hz)⟩
        case measure=>simp [intOf];omega
    · have hlen':((x.p.length:Int) == (u.length:Int) + 1) = false:=beq_eq_false_iff_ne.2 (by omega)
      have hch:isCh u x = false:=by unfold isCh;rw [decide_eq_false hlen,Bool.false_and]
      have hct:=ch_take_no hlt HX.out hch
      have w1:IntKind.i64.wrap ((u.length:Int) + 1) = (u.length:Int) + 1:=IntWalk.i64_in _ (by omega)
      clear hlen hch
      go_wp2_with fail
      go_roundw
      case rel=>exact ⟨k + 1,cs,by omega,by go_num,by rw [hct];exact hown,by rw [hct];exact hfc,hB⟩
      case measure=>simp [intOf];omega
  · have hlt':¬ (k:Int) < (L.length:Int):=by omega
    obtain rfl:k = L.length:=by omega
    go_wp2_with fail
    obtain ⟨a9,c9,rfl,_,_⟩:=owns_shape hown
    go_ret
    have hfc9:=hfc.out
    rw [List.take_length] at hfc9 ⊢
    rw [List.take_length] at hown
    refine ⟨a9,c9,by rw [toFo_len];rfl,⟨cs,by rw [toFo_len];exact SlC.of_owns hown,hfc9.wide fun b hb=>⟨hb.1,hb.2.1⟩⟩,hB.out⟩
theorem Tree_all (L:List Fl) (a:Option Addr) (c:Nat) (ll:L.length ≤ 1000) (lx:∀ x ∈ L,x.p.length ≤ 900∧x.l.length ≤ 900):∀ (f:Nat) (u:List Ky) (ua:Option Addr) (uc:Nat),u.length ≤ 900→(∀ x ∈ L,x.p.length ≤ u.length + f)→TreeC L u a c ua uc (treR f L u)
 | 0,u,ua,uc,lu,h=>by
   have h0:=Tree_step L u (fun x=>treR 0 L x.p) a c ua uc ll lx lu fun x hx hch=>by
    have:=h x hx
    simp only [isCh,Bool.and_eq_true,decide_eq_true_eq] at hch
    omega
   rwa [treR_zero (fun x hx=>by have:=h x hx;omega)] at h0
 | f + 1,u,ua,uc,lu,h=>by
   refine Tree_step L u (fun x=>treR f L x.p) a c ua uc ll lx lu fun x hx hch ap cp=>?_
   simp only [isCh,Bool.and_eq_true,decide_eq_true_eq] at hch
   exact Tree_all L a c ll lx f x.p ap cp (lx x hx).1 fun z hz=>by have:=h z hz;omega
end Go.Proofs.LF
namespace Go.Proofs.LF
open Go.RowKit Go.Sort
set_option maxHeartbeats 4000000
set_option maxRecDepth 100000
attribute [local go_sem] bs_toList bs_size bs_get
theorem keys_snoc {p:List Ky} {k:Nat} {a:Ky} (hk:k < p.length) (ha:p[k] = a):(p.take (k + 1)).flatMap Ky.cells = (p.take k).flatMap Ky.cells ++ [.string (bs a.n), .bool a.h, .int .i64 a.x]:=by
 rw [List.take_succ_eq_append_getElem hk,ha,List.flatMap_append];simp [Ky.cells]
theorem path_any (p:List Ky) (a:Option Addr) (c:Nat) (S:Nat→Prop) (w:World) (hp:Pth S w (.slice a p.length c) p) (hS:∀ b,S b→b < w.heap.size) (lp:p.length ≤ 1000) :
 Calls Tryz.prog 55 #[.slice a p.length c] w fun e w'=>∃ a c,e = .returned (.slice a p.length c)∧Pth (Rg w.heap.size w'.heap.size) w' (.slice a p.length c) p∧Below w.heap.size w w':=by
 obtain ⟨j0,hj0,hy0,hy1,hy2⟩:=info_parts Tryz.info160
 go_enter Tryz.func55,Tryz.ntmps55
 go_wp2_with fail
 go_loopw [3,8] (fun v i wr=>∃ k:Nat,k ≤ p.length∧i = .int .i64 k∧wr.ownsRow w.heap.size 160 3 v k ((p.take k).flatMap Ky.cells)∧Hid (Below w.heap.size w wr)) (fun _ i _=>p.length - (intOf i).toNat)
 case atStart=>exact ⟨0,by omega,rfl,World.ownsRow_nil _ _ _ _,Below.refl _ _⟩
 case round=>
  obtain ⟨k,hk,rfl,hown,hB⟩:=hrel
  have i1:(0:Int) ≤ (k:Int):=by omega
  have hz:=hB.out.size
  by_cases hlt:k < p.length
  · have i2:(k:Int) < (p.length:Int):=by omega
    obtain ⟨g,o,rfl,hg,k0,k1,k2⟩:=hp.key hlt
    obtain ⟨x,hx⟩:∃ x,p[k] = x:=⟨_,rfl⟩
    rw [hx] at k0 k1 k2
    have hgl:=hS g hg
    have c0:=bc_ hB.out hgl k0
    have c1:=bc_ hB.out hgl k1
    have c2:=bc_ hB.out hgl k2
    have hsn:=keys_snoc hlt hx
    have HSN:=hid hsn
    clear k0 k1 k2 hx hsn
    go_wp2_with (at_builtin;refine (wpList_append_ao _ rfl _ _ _ rfl w.heap.size 160 j0 _ 3 32 Tryz.underlying92 hj0 hy0 hy1 hy2 rfl (by omega) u3 k ((p.take k).flatMap Ky.cells) rfl ((hown.alloc _).alloc _) (some ⟨wr.heap.size + 1,0,none⟩) 1 1 [.string (bs x.n), .bool x.h, .int .i64 x.x] rfl rfl (fun h=>by cases h) (fun ad had=>by cases had;exact World.news_of_block (cs:=#[.string (bs x.n), .bool x.h, .int .i64 x.x]) (t:=160) (fr:=(0,0)) (by simpa using heap_alloc_new (wr.alloc (.cells #[.string (bs x.n), .bool x.h, .int .i64 x.x] 71)) (.cells #[.string (bs x.n), .bool x.h, .int .i64 x.x] 160))) (by simp [Value.oneCell']) (by unfold maxLen;omega) (by omega) (by simp;omega) ?_);intro a8 c8 w8 hown8 hgrow8 hat8)
    have hB8:Hid (Below w.heap.size w w8):=((hB.out.alloc hz _).alloc (by simp;omega) _).grown hgrow8 (by simp;omega) (fun q hq=>(hown.lt q hq).1)
    rw [← HSN.out] at hown8
    go_roundw
    case rel=>exact ⟨k + 1,by omega,by go_num,hown8,hB8⟩
    case measure=>simp [intOf];omega
  · have i2:¬ (k:Int) < (p.length:Int):=by omega
    obtain rfl:k = p.length:=by omega
    obtain ⟨a9,c9,rfl,_,_⟩:=owns_shape hown
    go_wp2_with fail
    go_ret
    rw [List.take_length] at hown
    exact ⟨a9,c9,rfl,SlC.of_owns hown,hB.out⟩
theorem enters123:∀ (args:Array Value) (W:World),(callFunc 123 args).run Tryz.prog W = .ok (.enter 123 args) W:=by
 intro args W
 simp [go_sem]
theorem samePath_any (p q:List Ky) (ap aq:Option Addr) (cp cq:Nat) (S:Nat→Prop) (w:World) (hp:Pth S w (.slice ap p.length cp) p) (hq:Pth S w (.slice aq q.length cq) q) (hS:∀ b,S b→b < w.heap.size) (lp:p.length ≤ 1000) (lq:q.length ≤ 1000) :
 Calls Tryz.prog 123 #[.slice ap p.length cp, .slice aq q.length cq] w fun e w'=>e = .returned (.bool (decide (p = q)))∧Below w.heap.size w w':=by
 have P1:=hid (path_any p ap cp S w hp hS lp)
 have HQ:=hid hq
 have HS:=hid hS
 clear hp hq hS
 go_enter Tryz.func123,Tryz.ntmps123
 go_wp2_with fail
 refine P1.out.mono ?_
 rintro e w1 ⟨a1,c1,rfl,hp1,hb1⟩
 have SM:=hid (Same_any p q a1 aq c1 cq (fun b=>b < w1.heap.size) w1 (hp1.wide fun b hb=>hb.2) ((HQ.out.agree (Ag_b hb1 HS.out)).wide fun b hb=>by have:=HS.out b hb;have:=hb1.size;omega) (by omega) (by omega))
 have HB1:=hid hb1
 clear hp1 hb1
 go_wp2_with fail
 refine SM.out.mono ?_
 rintro e w2 ⟨rfl,hb2⟩
 go_wp2_with fail
 go_ret
 exact ⟨rfl,HB1.out.trans (hb2.mono HB1.out.size)⟩
theorem eqPaths_any (y z:List (List Ky)) (ay az:Option Addr) (cy cz:Nat) (S:Nat→Prop) (w:World) (hy:PaSl S w (.slice ay y.length cy) y) (hz:PaSl S w (.slice az z.length cz) z) (hS:∀ b,S b→b < w.heap.size) (ly:y.length ≤ 1000) (lz:z.length ≤ 1000) (sy:∀ p ∈ y,p.length ≤ 1000) (sz:∀ p ∈ z,p.length ≤ 1000) :
 Calls Tryz.prog 122 #[.slice ay y.length cy, .slice az z.length cz, .func (.func 123) #[] #[]] w fun e w'=>e = .returned (.bool (decide (y = z)))∧Below w.heap.size w w':=by
 obtain ⟨_,_,he,hc,hm1,hat⟩:=hy.at
 cases he
 obtain ⟨_,_,he,hc',hm2,hat'⟩:=hz.at
 cases he
 unfold maxLen at hm1 hm2
 have hE:=enters123
 have HAT:=hid hat
 have HAT':=hid hat'
 have HS:=hid hS
 have SY:=hid sy
 have SZ:=hid sz
 clear hat hat' hS sy sz hy hz
 by_cases hne:y.length = z.length
 · have hne':((y.length:Int) != (z.length:Int)) = false:=by simp;omega
   have HN:=hid hne
   clear hne
   go_enter Tryz.func122,Tryz.ntmps122
   go_wp2_with fail
   go_loopw [17] (fun i wr=>∃ k:Nat,k ≤ y.length∧i = .int .i64 k∧Hid (y.take k = z.take k)∧Below w.heap.size w wr) (fun i _=>y.length - (intOf i).toNat)
   case atStart=>exact ⟨0,by omega,rfl,by simp [Hid],Below.refl _ _⟩
   case round=>
    obtain ⟨k,hk,rfl,H2,hB⟩:=hrel
    have hsz:=hB.size
    by_cases hlt:k < y.length
    · have hlt2:k < z.length:=by have:=HN.out;omega
      obtain ⟨g,o,cs1,rfl,hg,⟨ap,cp,rfl,hP⟩,hcell⟩:=HAT.out k hlt
      obtain ⟨g',o',cs2,rfl,hg',⟨aq,cq,rfl,hQ⟩,hcell'⟩:=HAT'.out k hlt2
      have hlt':(k:Int) < (z.length:Int):=by omega
      have ha:Agree S w wr:=Ag_b hB HS.out
      have c0:=ha.cell hg (hcell 0 _ rfl)
      have d0:=ha.cell hg' (hcell' 0 _ rfl)
      rw [Nat.mul_one,Nat.add_zero] at c0 d0
      have l1:=SY.out _ (List.getElem_mem hlt)
      have l2:=SZ.out _ (List.getElem_mem hlt2)
      have ty:y.take (k + 1) = y.take k ++ [y[k]]:=List.take_succ_eq_append_getElem hlt
      have tz:z.take (k + 1) = z.take k ++ [z[k]]:=List.take_succ_eq_append_getElem hlt2
      obtain ⟨p,hp⟩:∃ p,y[k] = p:=⟨_,rfl⟩
      obtain ⟨q,hq⟩:∃ q,z[k] = q:=⟨_,rfl⟩
      rw [hp] at c0 hP l1 ty
      rw [hq] at d0 hQ l2 tz
      have SP:=hid (samePath_any p q ap aq cp cq S wr (hP.agree ha) (hQ.agree ha) (fun b hb=>by have:=HS.out b hb;omega) l1 l2)
      have TY:=hid ty
      have TZ:=hid tz
      have HPp:=hid hp
      have HQq:=hid hq
      clear hcell hcell' hP hQ ty tz hp hq
      by_cases he:p = q
      · rw [decide_eq_true he] at SP
        have HE:=hid he
        clear he
        go_wp2_with fail
        refine SP.out.mono ?_
        rintro e w1 ⟨rfl,hb1⟩
        go_wp2_with fail
        go_roundw
        case rel=>exact ⟨k + 1,by omega,by go_num,by rw [Hid,TY.out,TZ.out,H2.out,HE.out],hB.trans (hb1.mono hsz)⟩
        case measure=>simp [intOf];omega
      · rw [decide_eq_false he] at SP
        have HE:=hid he
        clear he
        go_wp2_with fail
        refine SP.out.mono ?_
        rintro e w1 ⟨rfl,hb1⟩
        go_wp2_with fail
        go_ret
        refine ⟨ret_bool ?_,hB.trans (hb1.mono hsz)⟩
        symm
        rw [decide_eq_false_iff_not]
        rintro rfl
        exact HE.out (HPp.out.symm.trans HQq.out)
    · go_wp2_with fail
      go_ret
      obtain rfl:k = y.length:=by omega
      refine ⟨ret_bool ?_,hB⟩
      symm
      have:=H2.out
      rw [List.take_length,HN.out,List.take_length] at this
      exact decide_eq_true this
 · have hne':((y.length:Int) != (z.length:Int)) = true:=by simp;omega
   have HN:=hid hne
   clear hne
   go_enter Tryz.func122,Tryz.ntmps122
   go_wp2_with fail
   go_ret
   refine ⟨ret_bool ?_,Below.refl _ _⟩
   symm
   rw [decide_eq_false_iff_not]
   rintro rfl
   exact HN.out rfl
theorem samePaths_any (y z:List (List Ky)) (ay az:Option Addr) (cy cz:Nat) (S:Nat→Prop) (w:World) (hy:PaSl S w (.slice ay y.length cy) y) (hz:PaSl S w (.slice az z.length cz) z) (hS:∀ b,S b→b < w.heap.size) (ly:y.length ≤ 1000) (lz:z.length ≤ 1000) (sy:∀ p ∈ y,p.length ≤ 1000) (sz:∀ p ∈ z,p.length ≤ 1000) :
 Calls Tryz.prog 35 #[.slice ay y.length cy, .slice az z.length cz] w fun e w'=>e = .returned (.bool (decide (y = z)))∧Below w.heap.size w w':=by
 have hq:=eqPaths_any y z ay az cy cz S w hy hz hS ly lz sy sz
 have HQ:=hid hq
 clear hq hy hz hS ly lz sy sz
 go_enter Tryz.func35,Tryz.ntmps35
 go_wp2_with fail
 refine HQ.out.mono ?_
 rintro e w1 ⟨rfl,hb1⟩
 go_wp2_with fail
 go_ret
 exact ⟨rfl,hb1⟩
end Go.Proofs.LF
namespace Go.Proofs.LF
open Go.RowKit Go.Sort
set_option maxHeartbeats 4000000
set_option maxRecDepth 100000
attribute [local go_sem] bs_toList bs_size bs_get
theorem putR_any (l:List Fl) (x:Fl) (al ap an:Option Addr) (cl cp cn:Nat) (S:Nat→Prop) (w:World) (hl:LSl rdFl S w (.slice al l.length cl) l) (hp:Pth S w (.slice ap x.p.length cp) x.p) (hi:Ints S w (.slice an x.l.length cn) x.l) (hS:∀ b,S b→b < w.heap.size) (ll:l.length ≤ 100000) (lx:∀ y ∈ l,y.p.length ≤ 1000) (lp:x.p.length ≤ 1000) :
 Calls Tryz.prog 141 #[.slice al l.length cl, .agg #[.slice ap x.p.length cp, .slice an x.l.length cn]] w fun e w'=>∃ v,e = .returned v∧RowS rdFl 159 S (w.heap.size + 1) w' v (putR x l)∧Below w.heap.size w w':=by
 obtain ⟨_,_,he,hc,hm,hat⟩:=hl.at
 cases he
 obtain ⟨i0,hi0,hz0,hz1,hz2⟩:=info_parts Tryz.info159
 have HAT:=hid hat
 have HP:=hid hp
 have HI:=hid hi
 have HS:=hid hS
 have hS1:Hid (∀ b,S b→b < w.heap.size + 1):=fun b hb=>by have:=hS b hb;omega
 have HLX:=hid lx
 have HPG:=hid (putG_false x l [])
 unfold maxLen at hm
 clear hl hat hp hi hS lx
 obtain ⟨W1,hW1⟩:∃ W1,w.alloc (.cells #[.slice ap x.p.length cp, .slice an x.l.length cn] 159) = W1:=⟨_,rfl⟩
 obtain ⟨B0,hB0⟩:∃ B0,w.heap.size = B0:=⟨_,rfl⟩
 have hblk:W1.heap[B0]? = some (.cells #[.slice ap x.p.length cp, .slice an x.l.length cn] 159 (0,0)):=by rw [← hW1,← hB0];exact heap_alloc_new _ _
 have f0:W1.cell? ⟨B0,0,none⟩ = some (.slice ap x.p.length cp):=cg_ hblk (k:=0) rfl
 have f1:W1.cell? ⟨B0,1,none⟩ = some (.slice an x.l.length cn):=cg_ hblk (k:=1) rfl
 have hbw:Below w.heap.size w W1:=by rw [← hW1];exact (Below.refl _ _).alloc (nl_ _) _
 have hz1':W1.heap.size = w.heap.size + 1:=by rw [← hW1];simp
 have F0:=hid f0
 have F1:=hid f1
 have HBW:=hid hbw
 have HZ1:=hid hz1'
 have HB0:=hid hB0
 clear hblk f0 f1 hbw hz1'
 go_enter Tryz.func141,Tryz.ntmps141
 go_wp2_with fail
 go_loopw [5,6,7] (fun v dv iv wr=>∃ (k:Nat) (d:Bool) (acc:List Fl),k ≤ l.length∧iv = .int .i64 k∧dv = .bool d∧RowS rdFl 159 S (w.heap.size + 1) wr v acc∧acc.length ≤ 2 * k + 1∧Hid (putG x false [] l = putG x d acc (l.drop k))∧Hid (Below (w.heap.size + 1) W1 wr)) (fun _ _ i _=>l.length - (intOf i).toNat)
 case atStart=>exact ⟨0,false,[],by omega,rfl,rfl,by have:=HZ1.out;rw [← this];exact RowS.nil _,by simp,rfl,Below.refl _ _⟩
 case round=>
  obtain ⟨k,d,acc,hk,rfl,rfl,hrow,hacc,hput,hB⟩:=hrel
  have hzr:=hB.out.size
  have hz1w:=HZ1.out
  have hb0:=HB0.out
  have hBw:Below w.heap.size w wr:=HBW.out.trans (hB.out.mono (by omega))
  have e0:wr.cell? ⟨B0,0,none⟩ = some (.slice ap x.p.length cp):=bc_ hB.out (by omega) F0.out
  have e1:wr.cell? ⟨B0,1,none⟩ = some (.slice an x.l.length cn):=bc_ hB.out (by omega) F1.out
  have ha:Agree S w wr:=Ag_b hBw HS.out
  have HX:Hid (∀ W,Below w.heap.size w W→rdFl.R S W x [.slice ap x.p.length cp, .slice an x.l.length cn]):=fun W hW=>⟨ap,cp,an,cn,rfl,HP.out.agree (Ag_b hW HS.out),HI.out.agree (Ag_b hW HS.out)⟩
  by_cases hlt:k < l.length
  · have hlt':(k:Int) < (l.length:Int):=by omega
    have i1:(0:Int) ≤ (k:Int):=by omega
    obtain ⟨g,o,cs1,rfl,hg,⟨ay,cy,am,cm,rfl,hPy,hIy⟩,hcell⟩:=HAT.out k hlt
    have hdk:l.drop k = l[k] :: l.drop (k + 1):=List.drop_eq_getElem_cons hlt
    have hmem:l[k] ∈ l:=List.getElem_mem hlt
    have c0:=ha.cell hg (hcell 0 _ rfl)
    have c1:=ha.cell hg (hcell 1 _ rfl)
    rw [Nat.add_zero] at c0
    rw [← Nat.add_assoc] at c1
    have hgl:=HS.out g hg
    obtain ⟨y,hy⟩:∃ y,l[k] = y:=⟨_,rfl⟩
    rw [hy] at hPy hIy c0 c1 hdk hmem
    have ly:=HLX.out y hmem
    have hp1:=hput.out
    rw [hdk] at hp1
    have HY:Hid (∀ W,Below w.heap.size w W→rdFl.R S W y [.slice ay y.p.length cy, .slice am y.l.length cm]):=fun W hW=>⟨ay,cy,am,cm,rfl,hPy.agree (Ag_b hW HS.out),hIy.agree (Ag_b hW HS.out)⟩
    have hSr:∀ b,S b→b < wr.heap.size:=fun b hb=>by have:=HS.out b hb;omega
    have HSr:=hid hSr
    have HPU:=hid hp1
    have HBW2:=hid hBw
    have AHx:∀ W,Below wr.heap.size wr W→Calls Tryz.prog 150 #[.slice ap x.p.length cp, .slice ay y.p.length cy] W fun e w'=>e = .returned (.bool (decide (cmpP x.p y.p < 0)))∧Below W.heap.size W w':=fun W hW=>Ahead_any x.p y.p ap ay cp cy S W (HP.out.agree (Ag_b (hBw.trans (hW.mono (by omega))) HS.out)) (hPy.agree (Ag_b (hBw.trans (hW.mono (by omega))) HS.out)) (fun b hb=>by have:=HS.out b hb;have:=hW.size;omega) (by omega) (by omega)
    have AH:=hid AHx
    have HCS:Hid (∀ W,Below wr.heap.size wr W→(fun w':World=>w'.cell? ⟨B0,0,none⟩ = some (.slice ap x.p.length cp)∧w'.cell? ⟨B0,1,none⟩ = some (.slice an x.l.length cn)∧w'.cell? ⟨g,o + k * 2,none⟩ = some (.slice ay y.p.length cy)) W):=fun W hW=>⟨bc_ hW (by omega) e0,bc_ hW (by omega) e1,bc_ hW (by omega) c0⟩
    clear hcell hPy hIy hdk hmem hp1 hy hBw hSr AHx ha hput
    cases d with
    | true=>
      have hrow2:=hid (hrow.below HSr.out (Below.refl _ _).drew)
      go_wp2_with fail
      refine (wpIn_wide (n:=9)).1 ?_
      refine region_held (fun w':World=>w'.cell? ⟨B0,0,none⟩ = some (.slice ap x.p.length cp)∧w'.cell? ⟨B0,1,none⟩ = some (.slice an x.l.length cn)∧w'.cell? ⟨g,o + k * 2,none⟩ = some (.slice ay y.p.length cy)) (by kernel_rfl) ?_
      have hS0:(fun w':World=>w'.cell? ⟨B0,0,none⟩ = some (.slice ap x.p.length cp)∧w'.cell? ⟨B0,1,none⟩ = some (.slice an x.l.length cn)∧w'.cell? ⟨g,o + k * 2,none⟩ = some (.slice ay y.p.length cy)) wr.drew:=⟨e0,e1,c0⟩
      refine tkY 0 14 (.bool true) rfl rfl hS0 (fun w' hs=>?_) ?_
      · go_simp
      refine tkY 1 15 (.bool false) rfl rfl hS0 (fun w' hs=>?_) ?_
      · go_simp
      refine tkY 2 16 (.bool false) rfl rfl hS0 (fun w' hs=>?_) ?_
      · go_simp
      refine tkN 3 17 rfl rfl hS0 ?_
      refine tkN 4 18 rfl rfl hS0 ?_
      refine tkN 5 19 rfl rfl hS0 ?_
      refine tkN 6 20 rfl rfl hS0 ?_
      refine tkN 7 21 rfl rfl hS0 ?_
      refine tkN 8 22 rfl rfl hS0 ?_
      refine tkN 9 23 rfl rfl hS0 ?_
      refine tkN 10 24 rfl rfl hS0 ?_
      refine tkY 11 25 (.bool false) rfl rfl hS0 (fun w' hs=>?_) ?_
      · go_simp
      refine AnyH_done (by kernel_rfl) ?_
      go_simp
      go_wp2_with (at_builtin;(refine (wpList_push (r:=rdFl) (e:=159) (S:=S) (lo:=w.heap.size + 1) rfl _ _ _ rfl i0 _ 48 Tryz.underlying38 hi0 hz0 hz1 hz2 rfl (by omega) rfl (hrow.below HSr.out (((Below.refl _ _).alloc (nl_ _) _).drew)) hS1.out ?_ y [.slice ay y.p.length cy, .slice am y.l.length cm] wr.heap.size rfl ?_ (HY.out _ ((HBW2.out.alloc (by omega) _).drew)) ?_ ?_ ?_);(simp;omega);exact heap_alloc_new _ _;(try simp only [List.length_append,List.length_cons,List.length_nil]);(unfold maxLen;omega);(try simp only [List.length_append,List.length_cons,List.length_nil]);omega;intro V1 W1 HR1 HG1 HT1 HL1))
      have hp2:=HPU.out
      simp only [putG,Bool.not_true,Bool.false_and,Bool.false_eq_true,if_false] at hp2
      have hp2:=hid hp2
      go_roundw
      case rel=>exact ⟨k + 1,true,acc ++ [y],by omega,by go_num,rfl,HR1,by simp;omega,hp2,HL1 _ ((hB.out.alloc (by omega) _).drew)⟩
      case measure=>simp [intOf];omega
    | false=>
      by_cases hah:cmpP x.p y.p < 0
      · have HTK:=hid (decide_eq_true hah)
        have hp2:=HPU.out
        rw [putG,decide_eq_true hah] at hp2
        simp only [Bool.not_false,Bool.and_true,if_true] at hp2
        have hp2:=hid hp2
        clear hah
        go_wp2_with fail
        refine (wpIn_wide (n:=9)).1 ?_
        refine region_held (fun w':World=>w'.cell? ⟨B0,0,none⟩ = some (.slice ap x.p.length cp)∧w'.cell? ⟨B0,1,none⟩ = some (.slice an x.l.length cn)∧w'.cell? ⟨g,o + k * 2,none⟩ = some (.slice ay y.p.length cy)) (by kernel_rfl) ?_
        have hS0:(fun w':World=>w'.cell? ⟨B0,0,none⟩ = some (.slice ap x.p.length cp)∧w'.cell? ⟨B0,1,none⟩ = some (.slice an x.l.length cn)∧w'.cell? ⟨g,o + k * 2,none⟩ = some (.slice ay y.p.length cy)) wr.drew:=⟨e0,e1,c0⟩
        refine tkY 0 14 (.bool false) rfl rfl hS0 (fun w' hs=>?_) ?_
        · go_simp
        refine tkY 1 15 (.bool true) rfl rfl hS0 (fun w' hs=>?_) ?_
        · go_simp
        refine tkY 2 16 (.bool true) rfl rfl hS0 (fun w' hs=>?_) ?_
        · go_simp
        refine tkY 3 17 (.pointer (some ⟨B0,0,none⟩)) rfl rfl hS0 (fun w' hs=>?_) ?_
        · go_simp
        refine tkY 4 18 (.slice ap x.p.length cp) rfl rfl hS0 (fun w' hs=>?_) ?_
        · go_simp
        refine tkY 5 19 (.slice (some ⟨g,o,none⟩) l.length cl) rfl rfl hS0 (fun w' hs=>?_) ?_
        · go_simp
        refine tkY 6 20 (.int .i64 k) rfl rfl hS0 (fun w' hs=>?_) ?_
        · go_simp
        refine tkY 7 21 (.pointer (some ⟨g,o + k * 2,none⟩)) rfl rfl hS0 (fun w' hs=>?_) ?_
        · go_simp
        refine tkY 8 22 (.pointer (some ⟨g,o + k * 2,none⟩)) rfl rfl hS0 (fun w' hs=>?_) ?_
        · go_simp
        refine tkY 9 23 (.slice ay y.p.length cy) rfl rfl hS0 (fun w' hs=>?_) ?_
        · go_simp
        refine AnyH_one (i:=10) (by kernel_rfl) rfl (by kernel_rfl) (fun K hK=>?_)
        go_simp
        refine ⟨trivial,(callsIn_wide.2 (AH.out _ (Below.refl _ _).drew)).mono ?_⟩
        rintro e w8 ⟨rfl,hb8⟩
        have hb8':Below wr.heap.size wr w8:=(Below.refl _ _).drew.trans hb8
        have hS8:=HCS.out w8 hb8'
        rw [HTK.out]
        refine hK _ _ ⟨hS8,?_⟩
        clear hK
        refine tkY 11 25 (.bool true) rfl rfl hS8 (fun w' hs=>?_) ?_
        · go_simp
        refine AnyH_done (by kernel_rfl) ?_
        go_simp
        have hz8:=hb8'.size
        have HB8:=hid (HBW2.out.trans (hb8'.mono (by omega)))
        have hrow8:=hid (hrow.below HSr.out hb8')
        have hS88:∀ b,S b→b < w8.heap.size:=fun b hb=>by have:=HSr.out b hb;omega
        have HS88:=hid hS88
        have HC1:=hid (bc_ hb8' (by omega) c1)
        obtain ⟨q0,q1,q2⟩:=hS8
        have q3:=bc_ hb8' (by omega) e1
        clear hS88 hS0 e0 e1 c0 c1
        go_wp2_with (at_builtin;first
         | ((refine (wpList_push (r := rdFl) (e := 159) (S := S) (lo := w.heap.size + 1) rfl _ _ _ rfl i0 _ 48 Tryz.underlying38 hi0 hz0 hz1 hz2 rfl (by omega) rfl (hrow8.out.below HS88.out ((Below.refl _ _).alloc (nl_ _) _)) hS1.out ?_ x [.slice ap x.p.length cp, .slice an x.l.length cn] w8.heap.size rfl ?_ (HX.out _ (HB8.out.alloc (by omega) _)) ?_ ?_ ?_); (simp; omega); exact heap_alloc_new _ _; (try simp only [List.length_append, List.length_cons, List.length_nil]); (unfold maxLen; omega); (try simp only [List.length_append, List.length_cons, List.length_nil]); omega; intro V1 W1 HR1 HG1 HT1 HL1);
            have hl1:=hid (HL1 _ (((Below.refl w8.heap.size w8).alloc (nl_ _) _).mono (by omega)));
            have hzl1:=hl1.out.size;
            have y0:=bc_ hl1.out (by omega) q2;
            have y1:=bc_ hl1.out (by omega) HC1.out)
         | (refine (wpList_push (r:=rdFl) (e:=159) (S:=S) (lo:=w.heap.size + 1) rfl _ _ _ rfl i0 _ 48 Tryz.underlying38 hi0 hz0 hz1 hz2 rfl (by omega) rfl (HR1.below (fun b hb=>by have:=HS88.out b hb;omega) ((Below.refl _ _).alloc (nl_ _) _)) hS1.out ?_ y [.slice ay y.p.length cy, .slice am y.l.length cm] W1.heap.size rfl ?_ (HY.out _ ((HB8.out.trans (hl1.out.mono (by omega))).alloc (by omega) _)) ?_ ?_ ?_);(simp;omega);exact heap_alloc_new _ _;(try simp only [List.length_append,List.length_cons,List.length_nil]);(unfold maxLen;omega);(try simp only [List.length_append,List.length_cons,List.length_nil]);omega;intro V2 W2 HR2 HG2 HT2 HL2))
        go_roundw
        case rel=>exact ⟨k + 1,true,acc ++ [x] ++ [y],by omega,by go_num,rfl,HR2,by simp;omega,hp2,HL2 _ (((hB.out.trans (hb8'.mono (by omega))).trans hl1.out).alloc (by omega) _)⟩
        case measure=>simp [intOf];omega
      · have HTK:=hid (decide_eq_false hah)
        have hp2:=HPU.out
        rw [putG,decide_eq_false hah] at hp2
        simp only [Bool.not_false,Bool.and_false,Bool.false_eq_true,if_false] at hp2
        have hp2:=hid hp2
        clear hah
        go_wp2_with fail
        refine (wpIn_wide (n:=9)).1 ?_
        refine region_held (fun w':World=>w'.cell? ⟨B0,0,none⟩ = some (.slice ap x.p.length cp)∧w'.cell? ⟨B0,1,none⟩ = some (.slice an x.l.length cn)∧w'.cell? ⟨g,o + k * 2,none⟩ = some (.slice ay y.p.length cy)) (by kernel_rfl) ?_
        have hS0:(fun w':World=>w'.cell? ⟨B0,0,none⟩ = some (.slice ap x.p.length cp)∧w'.cell? ⟨B0,1,none⟩ = some (.slice an x.l.length cn)∧w'.cell? ⟨g,o + k * 2,none⟩ = some (.slice ay y.p.length cy)) wr.drew:=⟨e0,e1,c0⟩
        refine tkY 0 14 (.bool false) rfl rfl hS0 (fun w' hs=>?_) ?_
        · go_simp
        refine tkY 1 15 (.bool true) rfl rfl hS0 (fun w' hs=>?_) ?_
        · go_simp
        refine tkY 2 16 (.bool true) rfl rfl hS0 (fun w' hs=>?_) ?_
        · go_simp
        refine tkY 3 17 (.pointer (some ⟨B0,0,none⟩)) rfl rfl hS0 (fun w' hs=>?_) ?_
        · go_simp
        refine tkY 4 18 (.slice ap x.p.length cp) rfl rfl hS0 (fun w' hs=>?_) ?_
        · go_simp
        refine tkY 5 19 (.slice (some ⟨g,o,none⟩) l.length cl) rfl rfl hS0 (fun w' hs=>?_) ?_
        · go_simp
        refine tkY 6 20 (.int .i64 k) rfl rfl hS0 (fun w' hs=>?_) ?_
        · go_simp
        refine tkY 7 21 (.pointer (some ⟨g,o + k * 2,none⟩)) rfl rfl hS0 (fun w' hs=>?_) ?_
        · go_simp
        refine tkY 8 22 (.pointer (some ⟨g,o + k * 2,none⟩)) rfl rfl hS0 (fun w' hs=>?_) ?_
        · go_simp
        refine tkY 9 23 (.slice ay y.p.length cy) rfl rfl hS0 (fun w' hs=>?_) ?_
        · go_simp
        refine AnyH_one (i:=10) (by kernel_rfl) rfl (by kernel_rfl) (fun K hK=>?_)
        go_simp
        refine ⟨trivial,(callsIn_wide.2 (AH.out _ (Below.refl _ _).drew)).mono ?_⟩
        rintro e w8 ⟨rfl,hb8⟩
        have hb8':Below wr.heap.size wr w8:=(Below.refl _ _).drew.trans hb8
        have hS8:=HCS.out w8 hb8'
        rw [HTK.out]
        refine hK _ _ ⟨hS8,?_⟩
        clear hK
        refine tkY 11 25 (.bool false) rfl rfl hS8 (fun w' hs=>?_) ?_
        · go_simp
        refine AnyH_done (by kernel_rfl) ?_
        go_simp
        have hz8:=hb8'.size
        have HB8:=hid (HBW2.out.trans (hb8'.mono (by omega)))
        have hrow8:=hid (hrow.below HSr.out hb8')
        have hS88:∀ b,S b→b < w8.heap.size:=fun b hb=>by have:=HSr.out b hb;omega
        have HS88:=hid hS88
        have q1:=bc_ hb8' (by omega) c1
        obtain ⟨q0,q3,q2⟩:=hS8
        clear hS88 hS0 e0 e1 c0 c1
        go_wp2_with (at_builtin;(refine (wpList_push (r:=rdFl) (e:=159) (S:=S) (lo:=w.heap.size + 1) rfl _ _ _ rfl i0 _ 48 Tryz.underlying38 hi0 hz0 hz1 hz2 rfl (by omega) rfl (hrow8.out.below HS88.out ((Below.refl _ _).alloc (nl_ _) _)) hS1.out ?_ y [.slice ay y.p.length cy, .slice am y.l.length cm] w8.heap.size rfl ?_ (HY.out _ (HB8.out.alloc (by omega) _)) ?_ ?_ ?_);(simp;omega);exact heap_alloc_new _ _;(try simp only [List.length_append,List.length_cons,List.length_nil]);(unfold maxLen;omega);(try simp only [List.length_append,List.length_cons,List.length_nil]);omega;intro V1 W1 HR1 HG1 HT1 HL1))
        go_roundw
        case rel=>exact ⟨k + 1,false,acc ++ [y],by omega,by go_num,rfl,HR1,by simp;omega,hp2,HL1 _ ((hB.out.trans (hb8'.mono (by omega))).alloc (by omega) _)⟩
        case measure=>simp [intOf];omega
  · have hlt':¬ (k:Int) < (l.length:Int):=by omega
    obtain rfl:k = l.length:=by omega
    have hp1:=hput.out
    have hpg:=HPG.out
    rw [List.drop_length] at hp1
    rw [hp1,List.nil_append] at hpg
    have hSr:∀ b,S b→b < wr.heap.size:=fun b hb=>by have:=HS.out b hb;omega
    have HBW2:=hid hBw
    cases d with
    | true=>
      simp only [putG,if_true] at hpg
      subst hpg
      go_wp2_with fail
      go_ret
      have hbb:=HB0.out
      subst hbb
      exact ⟨_,rfl,hrow,HBW2.out⟩
    | false=>
      simp only [putG,Bool.false_eq_true,if_false] at hpg
      have HPGG:=hid hpg
      have hrow2:=hid hrow
      clear hpg hp1
      go_wp2_with (at_builtin;(refine (wpList_push (r:=rdFl) (e:=159) (S:=S) (lo:=w.heap.size + 1) rfl _ _ _ rfl i0 _ 48 Tryz.underlying38 hi0 hz0 hz1 hz2 rfl (by omega) rfl (hrow2.out.below hSr ((Below.refl _ _).alloc (nl_ _) _)) hS1.out ?_ x [.slice ap x.p.length cp, .slice an x.l.length cn] wr.heap.size rfl ?_ (HX.out _ (HBW2.out.alloc (by omega) _)) ?_ ?_ ?_);(simp;omega);exact heap_alloc_new _ _;(try simp only [List.length_append,List.length_cons,List.length_nil]);(unfold maxLen;omega);(try simp only [List.length_append,List.length_cons,List.length_nil]);omega;intro V1 W1 HR1 HG1 HT1 HL1))
      go_ret
      have hbb:=HB0.out
      subst hbb
      refine ⟨_,rfl,by rw [← HPGG.out];exact HR1,(HBW.out.trans ((HL1 _ (hB.out.alloc (by omega) _)).mono (by omega)))⟩
end Go.Proofs.LF
namespace Go.Proofs.LF
open Go.RowKit Go.Sort
set_option maxHeartbeats 4000000
set_option maxRecDepth 100000
attribute [local go_sem] bs_toList bs_size bs_get
theorem putR_length (x:Fl):∀ (l:List Fl),(putR x l).length = l.length + 1
 | []=>rfl
 | y :: l=>by
   simp only [putR]
   split
   · rfl
   · simp [putR_length x l]
end Go.Proofs.LF
namespace Go.Proofs.LF
open Go.RowKit Go.Sort
set_option maxHeartbeats 4000000
set_option maxRecDepth 100000
attribute [local go_sem] bs_toList bs_size bs_get
theorem lines_fls (u:List Ky) (y:Fo):linesL u y = flsL u y:=rfl
theorem Tryz.info92:(Tryz.prog.info? 92).map (fun i=>(i.zero,i.size,i.bytes)) = some (some (.slice none 0 0),1,24):=by kernel_rfl
def SmL (l:List Fl):Prop:=l.length ≤ 500∧∀ x ∈ l,x.p.length ≤ 1000∧x.l.length ≤ 1000
theorem SmL.big {l:List Fl} (h:SmL l):l.length ≤ 100000∧∀ x ∈ l,x.p.length ≤ 1000∧x.l.length ≤ 1000:=⟨by have:=h.1;omega,h.2⟩
theorem fls_sml {y:Fo} (h:chkY y = 0) (hs:y.Sm):(flsL [] y).length ≤ 60∧SmL (flsL [] y):=by
 obtain ⟨h1,h2,h3⟩:=fls_ok h
 exact ⟨h3,by omega,fun x hx=>⟨(h2 x hx).1,(h1 x hx).2.1⟩⟩
theorem Lines_at (x:Fo) (ax:Option Addr) (cx:Nat) (w:World) (hx:FSl (fun q=>q < w.heap.size) w (.slice ax x.len cx) x) (lx:x.len ≤ 1000∧x.Sm∧x.cnt ≤ 400) :
 Calls Tryz.prog 96 #[.slice ax x.len cx, .slice none 0 0] w fun e w'=>∃ a c,e = .returned (.slice a (flsL [] x).length c)∧LSl rdFl (fun q=>q < w'.heap.size) w' (.slice a (flsL [] x).length c) (flsL [] x)∧Below w.heap.size w w':=by
 have h:=Lines_any (x.cnt + 1) x [] ax cx none 0 _ w (Nat.lt_succ_self _) hx ⟨rfl,none,0,rfl,nl_ _,by simp [maxLen],fun _=>rfl, .inl rfl⟩ (fun b hb=>hb) lx.1 lx.2.1 (by simp;omega)
 rw [lines_fls] at h
 refine h.mono ?_
 rintro e w' ⟨a,c,rfl,h1,h2⟩
 refine ⟨a,c,rfl,h1.wide fun q hq=>?_,h2⟩
 rcases hq with hq | hq
 · exact Nat.lt_of_lt_of_le hq h2.size
 · exact hq.2
end Go.Proofs.LF
