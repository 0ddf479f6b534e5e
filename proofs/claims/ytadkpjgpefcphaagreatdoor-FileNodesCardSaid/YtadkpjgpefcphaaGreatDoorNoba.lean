/- Parts of the proof of a law of layer 11 (file): LfW118. The conditions stand in each theorem. -/
import Derived.Test.YtadkpjgpefcphaaGreatDoorProg
import Derived.Test.YtadkpjgpefcphaaGreatDoorNoaf
import Derived.Test.YtadkpjgpefcphaaGreatDoorNoat
import Derived.Test.YtadkpjgpefcphaaGreatDoorNoaz
set_option linter.all false
set_option linter.unusedVariables false
set_option linter.unusedSimpArgs false
namespace Go.Proofs.LF
open Go.RowKit Go.Sort
set_option maxHeartbeats 4000000
set_option maxRecDepth 100000
attribute [local go_sem] bs_toList bs_size bs_get
def belB (p q:List Ky):Bool:=decide (q.length ≤ p.length) && decide (p.take q.length = q)
theorem fflt_take8 {l:List Fl} {f:Fl→Bool} {k:Nat} {x:Fl} (hk:k < l.length) (hx:l[k] = x):(l.take (k + 1)).filter f = (l.take k).filter f ++ (if f x then [x] else []):=by
 rw [List.take_succ_eq_append_getElem hk,hx,List.filter_append]
 simp only [List.filter_cons,List.filter_nil]
theorem drP_bel (q:List Ky) (l:List Fl):drP q l = l.filter fun f=>!belB f.p q:=rfl
theorem belowR_any (p q:List Ky) (ap aq:Option Addr) (cp cq:Nat) (S:Nat→Prop) (w:World) (hp:Pth S w (.slice ap p.length cp) p) (hq:Pth S w (.slice aq q.length cq) q) (lp:p.length ≤ 1000) (lq:q.length ≤ 1000) :
 Calls Tryz.prog 206 #[.slice ap p.length cp, .slice aq q.length cq] w fun e w'=>e = .returned (.bool (belB p q))∧Below w.heap.size w w':=by
 by_cases hle:q.length ≤ p.length
 · have hle':(q.length:Int) ≤ (p.length:Int):=by omega
   have hcp:=(SlC.caps hp).1
   have htl:(p.take q.length).length = q.length:=by rw [List.length_take];omega
   have hpp:=hp.pre (b:=q.length) hle
   have SM:=Same_any (p.take q.length) q ap aq cp cq S w (by rw [htl];exact hpp) hq (by omega) (by omega)
   rw [htl] at SM
   have SM:=hid SM
   have v8:(q.length:Int) ≤ (cp:Int):=by omega
   have hbe:=hid (show belB p q = decide (p.take q.length = q) by rw [belB,decide_eq_true hle];rfl)
   clear hpp htl hp hq hle
   go_enter Tryz.func206,Tryz.ntmps206
   go_wp2_with fail
   refine SM.out.mono ?_
   rintro e w1 ⟨rfl,hb⟩
   have HB:=hid hb
   clear hb
   go_wp2_with fail
   go_ret
   exact ⟨by rw [hbe.out];rfl,HB.out⟩
 · have hle':¬ (q.length:Int) ≤ (p.length:Int):=by omega
   have hbe:=hid (show belB p q = false by rw [belB,decide_eq_false hle];rfl)
   clear hp hq hle
   go_enter Tryz.func206,Tryz.ntmps206
   go_wp2_with fail
   go_ret
   exact ⟨by rw [hbe.out];rfl,Below.refl _ _⟩
theorem without_any (l:List Fl) (q:List Ky) (al aq:Option Addr) (cl cq:Nat) (S:Nat→Prop) (w:World) (hl:LSl rdFl S w (.slice al l.length cl) l) (hq:Pth S w (.slice aq q.length cq) q) (hS:∀ b,S b→b < w.heap.size) (ll:l.length ≤ 1000∧∀ x ∈ l,x.p.length ≤ 1000∧x.l.length ≤ 1000) (lq:q.length ≤ 1000) :
 Calls Tryz.prog 140 #[.slice al l.length cl, .slice aq q.length cq] w fun e w'=>∃ a c,e = .returned (.slice a (drP q l).length c)∧RowS rdFl 159 S w.heap.size w' (.slice a (drP q l).length c) (drP q l)∧Below w.heap.size w w':=by
 obtain ⟨i0,hi0,hz0,hz1,hz2⟩:=info_parts Tryz.info159
 obtain ⟨_,_,he,_,hm,hat⟩:=hl.at
 cases he
 have HAT:=hid hat
 have HS:=hid hS
 have LL:=hid ll
 have HQ:=hid hq
 unfold maxLen at hm
 have l1000:=ll.1
 rw [drP_bel]
 obtain ⟨f,hf⟩:∃ f:Fl→Bool,(fun x=>!belB x.p q) = f:=⟨_,rfl⟩
 have HF:=hid (show ∀ x,f x = !belB x.p q from fun x=>by rw [← hf])
 rw [hf]
 clear hl hq hS ll hat hf
 go_enter Tryz.func140,Tryz.ntmps140
 go_wp2_with fail
 go_loopw [5,6] (fun v i wr=>∃ k:Nat,k ≤ l.length∧i = .int .i64 k∧Hid (RowS rdFl 159 S w.heap.size wr v ((l.take k).filter f))∧Hid (Below w.heap.size w wr)) (fun _ i _=>l.length - (intOf i).toNat)
 case atStart=>exact ⟨0,by omega,rfl,RowS.nil _,Below.refl _ _⟩
 case round=>
  obtain ⟨k,hk,rfl,HR,HB⟩:=hrel
  have hzr:=HB.out.size
  obtain ⟨vo,hvo⟩:∃ vo,vo = u5:=⟨_,rfl⟩
  subst hvo
  by_cases hlt:k < l.length
  · have hlt':(k:Int) < (l.length:Int):=by omega
    obtain ⟨g,o,cs,rfl,hg,⟨ap,cp,an,cn,rfl,hP,hN⟩,hcl⟩:=HAT.out k hlt
    have e0:=bc_ HB.out (HS.out g hg) (hcl 0 _ rfl)
    have e1:=bc_ HB.out (HS.out g hg) (hcl 1 _ rfl)
    rw [Nat.add_zero] at e0
    rw [← Nat.add_assoc] at e1
    have hft:=fflt_take8 (f:=f) hlt rfl
    have hsm:=LL.out.2 l[k] (List.getElem_mem hlt)
    obtain ⟨x,hx⟩:∃ x,l[k] = x:=⟨_,rfl⟩
    rw [hx] at hP hN e0 e1 hft hsm
    have hag:=Ag_b (S:=S) HB.out HS.out
    have P2:=hid (hP.agree hag)
    have N2:=hid (hN.agree hag)
    have BE:=belowR_any x.p q ap aq cp cq S wr P2.out (HQ.out.agree hag) hsm.1 lq
    have hlf:((l.take k).filter f).length ≤ k:=by
     refine Nat.le_trans (List.length_filter_le _ _) ?_
     rw [List.length_take];omega
    obtain ⟨acc,hacc⟩:∃ acc,(l.take k).filter f = acc:=⟨_,rfl⟩
    rw [hacc] at HR hft hlf
    have hfx:=HF.out x
    obtain ⟨qs,hqs⟩:∃ b,belB x.p q = b:=⟨_,rfl⟩
    rw [hqs] at BE hfx
    have BE:=hid BE
    rw [hfx] at hft
    have HFT:=hid hft
    have hgw:=HS.out g hg
    clear hcl hP hN hx hft hacc hqs hag hfx hsm hg
    go_wp2_with fail
    refine BE.out.mono ?_
    rintro e wy ⟨rfl,hby⟩
    have hzy:=hby.size
    have BXY:=hid (HB.out.trans (hby.mono hzr))
    have RY:=hid (HR.out.below (fun q hq=>by have:=HS.out q hq;omega) hby)
    have f0:=bc_ hby (by omega) e0
    have f1:=bc_ hby (by omega) e1
    have P3:=hid (P2.out.agree (Ag_b hby (fun q hq=>by have:=HS.out q hq;omega)))
    have N3:=hid (N2.out.agree (Ag_b hby (fun q hq=>by have:=HS.out q hq;omega)))
    clear hby e0 e1
    cases qs
    · have HAC:=hid (show (l.take (k + 1)).filter f = acc ++ [x] by rw [HFT.out];rfl)
      apply_assumption
      go_wp2_with (at_builtin;(refine (wpList_push (r:=rdFl) (e:=159) (S:=S) (lo:=w.heap.size) rfl _ _ _ rfl i0 _ 48 Tryz.underlying38 hi0 hz0 hz1 hz2 rfl (by omega) rfl (RowS.below RY.out (by exact fun q hq=>by have:=HS.out q hq;omega) ((Below.refl _ _).alloc (nl_ _) _)) HS.out ?_ x [.slice ap x.p.length cp, .slice an x.l.length cn] wy.heap.size rfl ?_ (by have hag:=Ag_b (S:=S) ((Below.refl wy.heap.size wy).alloc (nl_ _) (.cells #[.slice ap x.p.length cp, .slice an x.l.length cn] 159)) (fun q hq=>by have:=HS.out q hq;omega);exact ⟨ap,cp,an,cn,rfl,P3.out.agree hag,N3.out.agree hag⟩) ?_ ?_ ?_);(simp;omega);exact heap_alloc_new _ _;(unfold maxLen;omega);omega;intro VN WN HRn HGn HTn HLn);have BN:=hid (HLn _ (BXY.out.alloc (by omega) _));have RN:=hid HRn;clear HRn HGn HTn HLn)
      go_roundw
      case rel=>exact ⟨k + 1,by omega,by go_num,by rw [HAC.out];exact RN,BN⟩
      case measure=>simp [intOf];omega
    · have HAC:=hid (show (l.take (k + 1)).filter f = acc by rw [HFT.out];simp)
      apply_assumption
      go_wp2_with fail
      go_roundw
      case rel=>exact ⟨k + 1,by omega,by go_num,by rw [HAC.out];exact RY,BXY⟩
      case measure=>simp [intOf];omega
  · obtain rfl:k = l.length:=by omega
    have hlt':¬ (l.length:Int) < (l.length:Int):=by omega
    rw [List.take_length] at HR
    obtain ⟨av,cv,rfl,_,_⟩:=HR.out.shape
    go_wp2_with fail
    go_ret
    exact ⟨av,cv,rfl,HR.out,HB.out⟩
end Go.Proofs.LF
