/- Parts of the proof of a law of layer 11 (file): LfYear, LfDr. The conditions stand in each theorem. -/
import Derived.Test.YtadkpjgpefcphaaGreatDoorProg
import Derived.Test.YtadkpjgpefcphaaGreatDoorNoab
import Derived.Test.YtadkpjgpefcphaaGreatDoorNoac
import Derived.Test.YtadkpjgpefcphaaGreatDoorNoad
set_option linter.all false
set_option linter.unusedVariables false
set_option linter.unusedSimpArgs false
namespace Go.Proofs.LF
theorem cntG_over:∀ (y:Fo) (d n:Int),80 < n→80 < cntG d n y
 | .nil,d,n,h=>by simpa [cntG] using h
 | .cons _ _ _ _,d,n,h=>by simp only [cntG];rw [if_pos (.inr (.inl h))];omega
theorem cntG_small:∀ (y:Fo) (d n:Int),0 ≤ n→cntG d n y ≤ 80→cntG d n y = n + y.cnt∧y.Sm
 | .nil,d,n,_,_=>by simp [cntG,Fo.cnt,Fo.Sm]
 | .cons nm l s r,d,n,hn,h=>by
   simp only [cntG] at h ⊢
   by_cases hc:8 < d ∨ 80 < n ∨ 8 < (l.length:Int) ∨ 20 < (nm.length:Int)
   · rw [if_pos hc] at h;omega
   · rw [if_neg hc] at h ⊢
     have hv:n + (1 + cntG (d + 1) 0 s) ≤ 80:=by
      rcases Int.lt_or_le 80 (n + (1 + cntG (d + 1) 0 s)) with h' | h'
      · have:=cntG_over r d _ h';omega
      · exact h'
     have h1:=cntG_small s (d + 1) 0 (Int.le_refl _) (by omega)
     have h2:=cntG_small r d (n + (1 + cntG (d + 1) 0 s)) (by omega) h
     have hl:∀ z:Fo,z.len ≤ z.cnt:=by
      intro z
      induction z with
      | nil=>exact nl_ _
      | cons _ _ _ _ _ ih=>simp only [Fo.len,Fo.cnt];omega
     have:=hl s
     refine ⟨by rw [h2.1,h1.1];simp only [Fo.cnt];omega,by omega,by omega,by omega,h1.2,h2.2⟩
theorem len_cnt:∀ z:Fo,z.len ≤ z.cnt
 | .nil=>nl_ _
 | .cons _ _ _ r=>by have:=len_cnt r;simp only [Fo.len,Fo.cnt];omega
theorem deep_no {y:Fo} (h:¬ 80 < cntG 0 0 y):y.cnt ≤ 80∧y.Sm∧y.len ≤ 80:=by
 have h1:=cntG_small y 0 0 (Int.le_refl _) (by omega)
 have h2:=len_cnt y
 exact ⟨by omega,h1.2,by omega⟩
theorem manyG_cnt:∀ (y:Fo) (most n:Int),0 ≤ n→0 ≤ most→min (manyG most n y) (most + 1) = min (n + y.cnt) (most + 1)
 | .nil,most,n,_,_=>by simp [manyG,Fo.cnt]
 | .cons _ _ s r,most,n,hn,hm=>by
   simp only [manyG,Fo.cnt]
   by_cases h:n ≤ most
   · rw [if_pos h]
     have h1:=manyG_cnt s (most - n) 0 (Int.le_refl _) (by omega)
     rw [h1]
     rw [manyG_cnt r most _ (by omega) hm]
     omega
   · rw [if_neg h];omega
theorem many_cnt (y:Fo) (most:Int) (h:0 ≤ most):many y most = min (y.cnt:Int) (most + 1):=by
 rw [many,manyG_cnt y most 0 (Int.le_refl _) h];omega
theorem byK_bef' (a b:Ky):geK a b = nbefK a b:=by
 unfold geK nbefK byK befK
 by_cases hn:a.n = b.n
 · by_cases hh:a.h = b.h
   · simp only [hn,hh,ne_eq,not_true,if_false,cmpI]
     by_cases h1:a.x < b.x
     · simp [h1]
     · by_cases h2:b.x < a.x <;> simp [h1,h2]
   · simp only [hn,hh,ne_eq,not_true,not_false_eq_true,if_false,if_true]
     cases b.h <;> simp
 · simp only [hn,ne_eq,not_false_eq_true,if_true,cmpB]
   cases h1:Op.bytesLess a.n b.n
   · cases h2:Op.bytesLess b.n a.n <;> simp
   · simp
theorem ord_chk (d:Int) (y:Fo):ordF d y = chkF d y:=by
 unfold ordF chkF
 rw [show geK = nbefK from funext fun a=>funext fun b=>byK_bef' a b]
def refChk (y:Fo):Int:=if 60 < many y 60 then 2 else chkF 0 y
theorem refChk_eq (y:Fo):refChk y = chkY y:=by
 unfold refChk chkY
 rw [many_cnt y 60 (by omega),ord_chk]
 by_cases h:y.cnt ≤ 60
 · rw [if_neg (by omega),if_pos h]
 · rw [if_pos (by omega),if_neg h]
theorem ordG_cons {bad:Ky→Ky→Bool} {n:List UInt8} {l:List Int} {s r:Fo} {d:Int} {p:Option Ky} (h:ordG bad d p (.cons n l s r) = 0):d ≤ 3∧(∀ q,p = some q→bad q (kyOf n l) = false)∧ordG bad (d + 1) none s = 0∧ordG bad d (some (kyOf n l)) r = 0:=by
 simp only [ordG] at h
 by_cases h1:3 < d
 · rw [if_pos h1] at h;omega
 rw [if_neg h1] at h
 by_cases h2:badNm n = true
 · rw [if_pos h2] at h;omega
 rw [if_neg h2] at h
 by_cases h3:4 < (l.length:Int)
 · rw [if_pos h3] at h;omega
 rw [if_neg h3] at h
 by_cases h4:badNs l = true
 · rw [if_pos h4] at h;omega
 rw [if_neg h4] at h
 have h0:(∀ q,p = some q→bad q (kyOf n l) = false)∧(if ordG bad (d + 1) none s ≠ 0 then ordG bad (d + 1) none s else ordG bad d (some (kyOf n l)) r) = 0:=by
  cases p with
  | none=>dsimp only at h;rw [if_neg (by simp)] at h;exact ⟨(fun q e=>by cases e),h⟩
  | some q=>
    dsimp only at h
    have a5:¬ (bad q (kyOf n l) = true):=fun e=>by rw [if_pos e] at h;omega
    rw [if_neg a5] at h
    exact ⟨(fun q' e=>by cases e;simpa using a5),h⟩
 have a6:¬ (ordG bad (d + 1) none s ≠ 0):=fun e=>by have h:=h0.2;rw [if_pos e] at h;exact e h
 have h7:=h0.2
 rw [if_neg a6] at h7
 exact ⟨by omega,h0.1,by simpa using a6,h7⟩
theorem ordG_srt:∀ (y:Fo) (d:Int) (p:Option Ky) (u:List Ky),ordG geK d p y = 0→Srt (flsL u y)∧∀ q,p = some q→∀ x ∈ flsL u y,∃ k t,x.p = u ++ k :: t∧byK q k < 0
 | .nil,_,_,u,_=>by simp [flsL_nil,Srt]
 | .cons n l s r,d,p,u,h=>by
   obtain ⟨hd3,hp,h1',h⟩:=ordG_cons h
   ·
    obtain ⟨s1,_⟩:=ordG_srt s (d + 1) none (u ++ [kyOf n l]) h1'
    obtain ⟨s2,t2⟩:=ordG_srt r d (some (kyOf n l)) u h
    have t2:=t2 _ rfl
    refine ⟨?_,?_⟩
    · rw [flsL_cons]
      unfold Srt at *
      rw [List.pairwise_cons,List.pairwise_append]
      refine ⟨fun x hx=>?_,s1,s2,fun a ha b hb=>?_⟩
      · rcases List.mem_append.1 hx with hx | hx
        · obtain ⟨k,t,hk⟩:=flsL_pre s _ x hx
          rw [hk];exact cmpP_pre _ _ (by simp)
        · obtain ⟨k,t,hk,hb⟩:=t2 x hx
          rw [hk,cmpP_same]
          simp only [cmpP]
          rw [if_pos (by omega)];exact hb
      · obtain ⟨k,t,hk⟩:=flsL_pre s _ a ha
        obtain ⟨k',t',hk',hb'⟩:=t2 b hb
        rw [hk,hk',List.append_assoc,cmpP_same]
        simp only [List.singleton_append,cmpP]
        rw [if_pos (by omega)];exact hb'
    · rintro q rfl x hx
      have hq:byK q (kyOf n l) < 0:=by
       have:=hp q rfl
       simp only [geK,decide_eq_false_iff_not] at this;omega
      rw [flsL_cons] at hx
      rcases List.mem_cons.1 hx with rfl | hx
      · exact ⟨_,[],rfl,hq⟩
      · rcases List.mem_append.1 hx with hx | hx
        · obtain ⟨k,t,hk⟩:=flsL_pre s _ x hx
          exact ⟨kyOf n l,k :: t,by rw [hk];simp,hq⟩
        · obtain ⟨k,t,hk,hb⟩:=t2 x hx
          exact ⟨k,t,hk,byK_ord.trans hq hb⟩
theorem fls_four:∀ (y:Fo) (d:Int) (p:Option Ky) (u:List Ky),ordG geK d p y = 0→(u.length:Int) = d→∀ x ∈ flsL u y,x.p.length ≤ 4
 | .nil,_,_,u,_,_,x,hx=>by simp [flsL_nil] at hx
 | .cons n l s r,d,p,u,h,hd,x,hx=>by
   obtain ⟨hd3,hp,h1',h⟩:=ordG_cons h
   ·
    rw [flsL_cons] at hx
    rcases List.mem_cons.1 hx with rfl | hx
    · simp;omega
    · rcases List.mem_append.1 hx with hx | hx
      · exact fls_four s (d + 1) none _ h1' (by simp;omega) x hx
      · exact fls_four r d _ u h hd x hx
end Go.Proofs.LF
namespace Go.Proofs.LF
def drP (q:List Ky) (l:List Fl):List Fl:=l.filter fun f=>!(decide (q.length ≤ f.p.length) && decide (f.p.take q.length = q))
def dropE (y:Fo) (q:List Ky):Int:=if chkY y ≠ 0 then chkY y else if (fnd (flsL [] y) q).isSome then 0 else 1
def dropY (y:Fo) (q:List Ky):Fo:=if dropE y q = 0 then (treF 0 (drP q (flsL [] y))).1 else .nil
end Go.Proofs.LF
