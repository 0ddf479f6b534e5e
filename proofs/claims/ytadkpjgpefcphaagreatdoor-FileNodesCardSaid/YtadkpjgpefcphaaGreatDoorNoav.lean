/- Parts of the proof of a law of layer 11 (file): LfPt, LfW71. The conditions stand in each theorem. -/
import Derived.Test.YtadkpjgpefcphaaGreatDoorProg
import Derived.Test.YtadkpjgpefcphaaGreatDoorNoal
import Derived.Test.YtadkpjgpefcphaaGreatDoorNoam
import Derived.Test.YtadkpjgpefcphaaGreatDoorNoan
import Derived.Test.YtadkpjgpefcphaaGreatDoorNoat
set_option linter.all false
set_option linter.unusedVariables false
set_option linter.unusedSimpArgs false
namespace Go.Proofs.LF
def OkG:Nat→Fo→Prop
 | _, .nil=>True
 | d, .cons n l s r=>(d ≤ 3∧badNm n = false∧l.length ≤ 4∧badNs l = false)∧OkG (d + 1) s∧(∀ k ∈ tops r,byK (kyOf n l) k < 0)∧OkG d r
theorem okG_ord:∀ (y:Fo) (d:Nat) (p:Option Ky),OkG d y→(∀ q,p = some q→∀ k ∈ tops y,byK q k < 0)→ordG geK (d:Int) p y = 0
 | .nil,_,_,_,_=>rfl
 | .cons n l s r,d,p,⟨⟨h1,h2,h3,h4⟩,h5,h6,h7⟩,hp=>by
   have e1:ordG geK ((d:Int) + 1) none s = 0:=by
    have:=okG_ord s (d + 1) none h5 (fun q hq=>by cases hq)
    rwa [show ((d + 1:Nat):Int) = (d:Int) + 1 by omega] at this
   have e2:ordG geK (d:Int) (some (kyOf n l)) r = 0:=okG_ord r d _ h7 (fun q hq k hk=>by cases hq;exact h6 k hk)
   simp only [ordG]
   rw [if_neg (by omega),if_neg (by rw [h2];simp),if_neg (by omega),if_neg (by rw [h4];simp)]
   cases p with
   | none=>dsimp only;rw [if_neg (by simp),e1,e2];simp
   | some q=>
     have:=hp q rfl (kyOf n l) (by simp [tops])
     have hg:geK q (kyOf n l) = false:=by simp only [geK,decide_eq_false_iff_not];omega
     dsimp only
     rw [if_neg (by rw [hg];simp),e1,e2];simp
theorem ite_zero {c:Prop} [Decidable c] {a b:Int} (ha:a ≠ 0) (h:(if c then a else b) = 0):¬ c∧b = 0:=by
 by_cases hc:c
 · rw [if_pos hc] at h;exact absurd h ha
 · rw [if_neg hc] at h;exact ⟨hc,h⟩
theorem okG_of:∀ (y:Fo) (d:Nat) (p:Option Ky),ordG geK (d:Int) p y = 0→OkG d y∧∀ q,p = some q→∀ k ∈ tops y,byK q k < 0
 | .nil,_,_,_=>⟨trivial,fun _ _ _ h=>by cases h⟩
 | .cons n l s r,d,p,h=>by
   rw [ordG.eq_def] at h
   dsimp only at h
   obtain ⟨h1,h⟩:=ite_zero (by decide) h
   obtain ⟨h2,h⟩:=ite_zero (by decide) h
   obtain ⟨h3,h⟩:=ite_zero (by decide) h
   obtain ⟨h4,h⟩:=ite_zero (by decide) h
   obtain ⟨h5,h⟩:=ite_zero (by decide) h
   have h6:ordG geK ((d + 1:Nat):Int) none s = 0∧ordG geK (d:Int) (some (kyOf n l)) r = 0:=by
    rw [show ((d + 1:Nat):Int) = (d:Int) + 1 by omega]
    by_cases hc:ordG geK ((d:Int) + 1) none s = 0
    · rw [if_neg (by simp [hc])] at h
      exact ⟨hc,h⟩
    · rw [if_pos hc] at h
      exact absurd h hc
   obtain ⟨i1,_⟩:=okG_of s (d + 1) none h6.1
   obtain ⟨i2,i3⟩:=okG_of r d (some (kyOf n l)) h6.2
   refine ⟨⟨⟨by omega,by simpa using h2,by omega,by simpa using h4⟩,i1,i3 _ rfl,i2⟩,fun q hq k hk=>?_⟩
   subst hq
   have hqk:byK q (kyOf n l) < 0:=by
    have:geK q (kyOf n l) = false:=by simpa using h5
    simp only [geK,decide_eq_false_iff_not] at this
    omega
   rcases List.mem_cons.1 hk with rfl | hk
   · exact hqk
   · exact byK_ord.trans hqk (i3 _ rfl k hk)
theorem okG_chk {y:Fo} (h:OkG 0 y):chkY y = if y.cnt ≤ 60 then 0 else 2:=by
 have:=okG_ord y 0 none h (fun q hq=>by cases hq)
 unfold chkY
 split
 · exact this
 · rfl
theorem chk_okG {y:Fo} (h:chkY y = 0):OkG 0 y:=by
 unfold chkY at h
 split at h
 · exact (okG_of y 0 none h).1
 · omega
theorem tops_get:∀ (y:Fo) (i:Nat),keyAt y i = (tops y)[i]?
 | .nil,i=>by cases i <;> rfl
 | .cons n l s r,0=>rfl
 | .cons n l s r,i + 1=>by
   have:=tops_get r i
   simpa [keyAt,Fo.drop,tops] using this
theorem tops_len:∀ (y:Fo),(tops y).length = y.len
 | .nil=>rfl
 | .cons n l s r=>by simp [tops,Fo.len,tops_len r]
theorem keyD_get (y:Fo) (i:Nat):keyD y i = (tops y).getD i ky0:=by
 rw [keyD,tops_get,List.getD_eq_getElem?_getD]
def insK (n:List UInt8) (l:List Int) (s:Fo):Fo→Fo
 | .nil => .cons n l s .nil
 | .cons n' l' s' r'=>if byK (kyOf n' l') (kyOf n l) < 0 then .cons n' l' s' (insK n l s r') else if byK (kyOf n' l') (kyOf n l) = 0 then .cons n l s r' else .cons n l s (.cons n' l' s' r')
theorem okG_part {k:Ky}:∀ {y:Fo} {d:Nat},OkG d y→∃ A B,y = A.app B∧(∀ q ∈ tops A,byK q k < 0)∧∀ q ∈ tops B,0 ≤ byK q k
 | .nil,_,_=>⟨.nil, .nil,rfl,(fun _ h=>by cases h),fun _ h=>by cases h⟩
 | .cons n l s r,d,⟨h1,h2,h3,h4⟩=>by
   by_cases hk:byK (kyOf n l) k < 0
   · obtain ⟨A,B,rfl,hA,hB⟩:=okG_part (k:=k) h4
     refine ⟨.cons n l s A,B,rfl,fun q hq=>?_,hB⟩
     rcases List.mem_cons.1 hq with rfl | hq
     · exact hk
     · exact hA q hq
   · refine ⟨.nil, .cons n l s r,rfl,(fun _ h=>by cases h),fun q hq=>?_⟩
     rcases List.mem_cons.1 hq with rfl | hq
     · omega
     · have:=h3 q hq
       rcases Int.lt_or_le (byK q k) 0 with h' | h'
       · have:=byK_ord.trans this h';omega
       · exact h'
theorem take_app_len:∀ (A B:Fo),(A.app B).take A.len = A∧∀ i,(A.app B).drop (A.len + i) = B.drop i
 | .nil,B=>by
   refine ⟨?_,fun i=>by simp [Fo.app,Fo.len]⟩
   simp only [Fo.app,Fo.len]
   cases B <;> rfl
 | .cons n l s r,B=>by
   obtain ⟨h1,h2⟩:=take_app_len r B
   refine ⟨by simp only [Fo.app,Fo.len,Fo.take,h1],fun i=>?_⟩
   rw [show (Fo.cons n l s r).len + i = (r.len + i) + 1 by simp only [Fo.len];omega]
   exact h2 i
theorem insK_app {n:List UInt8} {l:List Int} {s:Fo}:∀ {A B:Fo},(∀ q ∈ tops A,byK q (kyOf n l) < 0)→insK n l s (A.app B) = A.app (insK n l s B)
 | .nil,_,_=>rfl
 | .cons n' l' s' r',B,h=>by
   simp only [Fo.app,insK]
   rw [if_pos (h _ (by simp [tops])),insK_app fun q hq=>h q (by simp [tops,hq])]
theorem putN_ins {n:List UInt8} {l:List Int} {s y:Fo} {d:Nat} (hy:OkG d y):putN n l s y = insK n l s y:=by
 obtain ⟨A,B,rfl,hA,hB⟩:=okG_part (k:=kyOf n l) hy
 have hlen:(A.app B).len = A.len + B.len:=Fo.len_app A B
 have hm:fndN (A.app B) (kyOf n l) = A.len:=by
  unfold fndN
  refine bsF_at' (J:=(A.app B).len) (fun k hk=>?_) (fun k hk hJ=>?_) _ _ _ (nl_ _) (Nat.zero_le _) (by omega) (nl_ _)
  · rw [decide_eq_true_eq,keyD_get,tops_app,List.getD_eq_getElem?_getD,List.getElem?_append_left (by rw [tops_len];exact hk),List.getElem?_eq_getElem (by rw [tops_len];exact hk)]
    exact hA _ (List.getElem_mem _)
  · rw [decide_eq_false_iff_not,keyD_get,tops_app,List.getD_eq_getElem?_getD,List.getElem?_append_right (by rw [tops_len];exact hk),List.getElem?_eq_getElem (by rw [tops_len,tops_len];omega)]
    have:=hB _ (List.getElem_mem (show k - (tops A).length < (tops B).length by rw [tops_len,tops_len];omega))
    simp only [Option.getD_some];omega
 obtain ⟨t1,t2⟩:=take_app_len A B
 rw [putN,hm,insK_app hA,Fo.setN,Fo.insN,t1,t2 1]
 have t0:=t2 0
 rw [Nat.add_zero] at t0
 rw [t0]
 have hk0:keyD (A.app B) A.len = (tops B).getD 0 ky0:=by
  rw [keyD_get,tops_app,List.getD_eq_getElem?_getD,List.getElem?_append_right (by rw [tops_len];exact nl_ _),tops_len,Nat.sub_self,List.getD_eq_getElem?_getD]
 rw [hk0]
 cases B with
 | nil=>rw [if_neg (by simp only [Fo.len] at hlen;omega)];rfl
 | cons n' l' s' r'=>
   have h0:=hB (kyOf n' l') (by simp [tops])
   simp only [tops,List.getD_cons_zero,insK,Fo.drop]
   simp only [Fo.len] at hlen
   rw [if_neg (show ¬ byK (kyOf n' l') (kyOf n l) < 0 by omega)]
   by_cases he:byK (kyOf n' l') (kyOf n l) = 0
   · rw [if_pos ⟨by omega,he⟩,if_pos he]
   · rw [if_neg (fun h=>he h.2),if_neg he]
theorem fls_top:∀ (y:Fo) (u:List Ky),∀ x ∈ flsL u y,∃ k ∈ tops y,∃ t,x.p = u ++ k :: t
 | .nil,u,x,h=>by simp [flsL_nil] at h
 | .cons n l s r,u,x,h=>by
   rw [flsL_cons] at h
   rcases List.mem_cons.1 h with rfl | h
   · exact ⟨_,by simp [tops],[],rfl⟩
   · rcases List.mem_append.1 h with h | h
     · obtain ⟨k,t,hp⟩:=flsL_pre s _ x h
       exact ⟨kyOf n l,by simp [tops],k :: t,by rw [hp];simp⟩
     · obtain ⟨k,hk,t,hp⟩:=fls_top r _ x h
       exact ⟨k,by simp [tops,hk],t,hp⟩
theorem pre_cons {u t:List Ky} {k k':Ky}:(u ++ [k]) <+: (u ++ k' :: t) ↔ k = k':=by
 rw [List.prefix_append_right_inj,List.cons_prefix_cons]
 simp
theorem fls_node (u:List Ky) (n:List UInt8) (l:List Int) (s r:Fo) (x:Fl):x ∈ flsL u (.cons n l s r) ↔ x ∈ flsL u (.cons n l s .nil) ∨ x ∈ flsL u r:=by
 rw [flsL_cons,flsL_cons,flsL_nil,List.append_nil,List.mem_cons,List.mem_cons,List.mem_append,or_assoc]
theorem fls_one_pre {u:List Ky} {n:List UInt8} {l:List Int} {s:Fo} {x:Fl} (h:x ∈ flsL u (.cons n l s .nil)):(u ++ [kyOf n l]) <+: x.p:=by
 obtain ⟨k,hk,t,hp⟩:=fls_top _ _ x h
 simp only [tops,List.mem_cons,List.not_mem_nil,or_false] at hk
 rw [hp,pre_cons,hk]
theorem fls_rest_pre {u:List Ky} {k:Ky} {r:Fo} {x:Fl} (hr:∀ q ∈ tops r,k ≠ q) (h:x ∈ flsL u r):¬ (u ++ [k]) <+: x.p:=by
 obtain ⟨q,hq,t,hp⟩:=fls_top _ _ x h
 rw [hp,pre_cons]
 exact hr q hq
theorem byK_ne {a b:Ky} (h:byK a b < 0):a ≠ b:=fun e=>by rw [e,byK_ord.refl] at h;omega
theorem insK_mem {n:List UInt8} {l:List Int} {s:Fo}:∀ (y:Fo) (u:List Ky) (d:Nat),OkG d y→∀ x,x ∈ flsL u (insK n l s y) ↔ x ∈ flsL u (.cons n l s .nil) ∨ (x ∈ flsL u y∧¬ (u ++ [kyOf n l]) <+: x.p)
 | .nil,u,d,_,x=>by simp [insK,flsL_nil]
 | .cons n' l' s' r',u,d,⟨_,_,h3,h4⟩,x=>by
   simp only [insK]
   split
   · rename_i hlt
     rw [fls_node,insK_mem r' u d h4 x,fls_node u n' l' s' r']
     constructor
     · rintro (h | h | ⟨h,h'⟩)
       · refine .inr ⟨.inl h,?_⟩
         obtain ⟨k,hk,t,hp⟩:=fls_top _ _ x h
         simp only [tops,List.mem_cons,List.not_mem_nil,or_false] at hk
         rw [hp,pre_cons,hk]
         exact (byK_ne hlt).symm
       · exact .inl h
       · exact .inr ⟨.inr h,h'⟩
     · rintro (h | ⟨h | h,h'⟩)
       · exact .inr (.inl h)
       · exact .inl h
       · exact .inr (.inr ⟨h,h'⟩)
   · rename_i hlt
     split
     · rename_i he
       have he:=byK_ord.eq he
       rw [fls_node,fls_node u n' l' s' r']
       constructor
       · rintro (h | h)
         · exact .inl h
         · exact .inr ⟨.inr h,fls_rest_pre (fun q hq=>by rw [← he];exact byK_ne (h3 q hq)) h⟩
       · rintro (h | ⟨h | h,h'⟩)
         · exact .inl h
         · rw [← he] at h'
           exact absurd (fls_one_pre h) h'
         · exact .inr h
     · rename_i he
       have hgt:byK (kyOf n l) (kyOf n' l') < 0:=by
        have:0 < byK (kyOf n' l') (kyOf n l):=by omega
        exact byK_ord.flop this
       rw [fls_node]
       constructor
       · rintro (h | h)
         · exact .inl h
         · refine .inr ⟨h,fls_rest_pre (fun q hq=>?_) h⟩
           rcases List.mem_cons.1 hq with rfl | hq
           · exact byK_ne hgt
           · exact byK_ne (byK_ord.trans hgt (h3 q hq))
       · rintro (h | ⟨h,_⟩)
         · exact .inl h
         · exact .inr h
def Pl (y:Fo) (p:List Ky):Prop:=p = [] ∨ (atF y p).isSome = true
theorem pl_cons {y:Fo} {k:Ky} {r:List Ky} (h:Pl y (k :: r)):∃ n l s,fstK k y = some (n,l,s)∧Pl s r:=by
 rcases h with h | h
 · cases h
 · rw [atF] at h
   cases hf:fstK k y with
   | none=>rw [hf] at h;cases h
   | some x=>
     rw [hf] at h
     dsimp only at h
     refine ⟨x.1,x.2.1,x.2.2,rfl,?_⟩
     by_cases hr:r = []
     · exact .inl hr
     · rw [if_neg hr] at h
       exact .inr h
theorem modK_mem {k:Ky} {f:Fo→Fo} {new:List Fl} {q u:List Ky} {d:Nat}:∀ (y:Fo),OkG d y→(∀ n l s,fstK k y = some (n,l,s)→∀ x,x ∈ flsL (u ++ [k]) (f s) ↔ x ∈ new ∨ (x ∈ flsL (u ++ [k]) s∧¬ q <+: x.p))→(u ++ [k]) <+: q→q ≠ u ++ [k]→(fstK k y).isSome = true →
 ∀ x,x ∈ flsL u (modK k f y) ↔ x ∈ new ∨ (x ∈ flsL u y∧¬ q <+: x.p)
 | .nil,_,_,_,_,h,_=>by simp [fstK] at h
 | .cons n l s r,⟨_,_,h3,h4⟩,hf,hq,hqn,hs,x=>by
   have hother:∀ {z:Fo},(∀ j ∈ tops z,k ≠ j)→x ∈ flsL u z→¬ q <+: x.p:=fun hz hx hp=>fls_rest_pre hz hx (hq.trans hp)
   simp only [modK]
   by_cases hk:kyOf n l = k
   · rw [if_pos hk]
     have hfn:=hf n l s (by simp [fstK,hk])
     rw [flsL_cons,flsL_cons,List.mem_cons,List.mem_append,List.mem_cons,List.mem_append,hk,hfn x]
     constructor
     · rintro (h | (h | ⟨h,h'⟩) | h)
       · refine .inr ⟨.inl h,?_⟩
         rw [h]
         intro hp
         have h1:=hp.length_le
         have h2:=hq.length_le
         exact hqn (hq.eq_of_length (by simp at h1 h2 ⊢;omega)).symm
       · exact .inl h
       · exact .inr ⟨.inr (.inl h),h'⟩
       · exact .inr ⟨.inr (.inr h),hother (fun j hj=>by rw [← hk];exact byK_ne (h3 j hj)) h⟩
     · rintro (h | ⟨h | h | h,h'⟩)
       · exact .inr (.inl (.inl h))
       · exact .inl h
       · exact .inr (.inl (.inr ⟨h,h'⟩))
       · exact .inr (.inr h)
   · rw [if_neg hk]
     have hs':(fstK k r).isSome = true:=by simpa [fstK,hk] using hs
     rw [fls_node,modK_mem r h4 (fun n' l' s' hfs=>hf n' l' s' (by simpa [fstK,hk] using hfs)) hq hqn hs' x,fls_node u n l s r]
     constructor
     · rintro (h | h | ⟨h,h'⟩)
       · exact .inr ⟨.inl h,hother (z := .cons n l s .nil) (fun j hj=>by
          simp only [tops,List.mem_cons,List.not_mem_nil,or_false] at hj
          rw [hj];exact fun e=>hk e.symm) h⟩
       · exact .inl h
       · exact .inr ⟨.inr h,h'⟩
     · rintro (h | ⟨h | h,h'⟩)
       · exact .inr (.inl h)
       · exact .inl h
       · exact .inr (.inr ⟨h,h'⟩)
theorem fstK_okG {k:Ky} {n:List UInt8} {l:List Int} {s:Fo}:∀ {y:Fo} {d:Nat},OkG d y→fstK k y = some (n,l,s)→OkG (d + 1) s∧kyOf n l = k
 | .nil,_,_,h=>by cases h
 | .cons n' l' s' r',d,⟨_,h2,_,h4⟩,h=>by
   rw [fstK] at h
   split at h
   · rename_i hk
     simp only [Option.some.injEq,Prod.mk.injEq] at h
     obtain ⟨rfl,rfl,rfl⟩:=h
     exact ⟨h2,hk⟩
   · exact fstK_okG h4 h
theorem putF_mem {n:List UInt8} {l:List Int} {s:Fo}:∀ (p:List Ky) (y:Fo) (u:List Ky) (d:Nat),OkG d y→Pl y p→∀ x,x ∈ flsL u (putF n l s p y) ↔ x ∈ flsL (u ++ p) (.cons n l s .nil) ∨ (x ∈ flsL u y∧¬ (u ++ p ++ [kyOf n l]) <+: x.p)
 | [],y,u,d,hy,_,x=>by
   simp only [putF,List.append_nil]
   rw [putN_ins hy]
   exact insK_mem y u d hy x
 | k :: r,y,u,d,hy,hp,x=>by
   obtain ⟨n',l',s',hf,hp'⟩:=pl_cons hp
   have hs':=(fstK_okG hy hf).1
   simp only [putF]
   have:=modK_mem (k:=k) (f:=putF n l s r) (new:=flsL (u ++ k :: r) (.cons n l s .nil)) (q:=u ++ k :: r ++ [kyOf n l]) (u:=u) y hy (fun n2 l2 s2 h2 x=>by
    rw [hf] at h2
    simp only [Option.some.injEq,Prod.mk.injEq] at h2
    obtain ⟨rfl,rfl,rfl⟩:=h2
    have:=putF_mem (n:=n) (l:=l) (s:=s) r s' (u ++ [k]) (d + 1) hs' hp' x
    simpa using this) ⟨r ++ [kyOf n l],by simp⟩ (fun e=>by
    have:=congrArg List.length e
    simp at this) (by rw [hf];rfl) x
   exact this
theorem modK_tops {k:Ky} {f:Fo→Fo}:∀ (y:Fo),tops (modK k f y) = tops y
 | .nil=>rfl
 | .cons n l s r=>by
   simp only [modK]
   split
   · rfl
   · simp only [tops,modK_tops r]
theorem modK_okG {k:Ky} {f:Fo→Fo} {d:Nat} (hf:∀ s,OkG (d + 1) s→OkG (d + 1) (f s)):∀ {y:Fo},OkG d y→OkG d (modK k f y)
 | .nil,_=>trivial
 | .cons n l s r,⟨h1,h2,h3,h4⟩=>by
   simp only [modK]
   split
   · exact ⟨h1,hf s h2,h3,h4⟩
   · exact ⟨h1,h2,by rw [modK_tops];exact h3,modK_okG hf h4⟩
theorem srt_ext:∀ {l l':List Fl},Srt l→Srt l'→(∀ x,x ∈ l ↔ x ∈ l')→l = l'
 | [],[],_,_,_=>rfl
 | [],y :: l',_,_,h=>by have:=(h y).2 (by simp);cases this
 | x :: l,[],_,_,h=>by have:=(h x).1 (by simp);cases this
 | x :: l,y :: l',h1,h2,h=>by
   obtain ⟨a1,a2⟩:=List.pairwise_cons.1 h1
   obtain ⟨b1,b2⟩:=List.pairwise_cons.1 h2
   have hxy:x = y:=by
    rcases List.mem_cons.1 ((h x).1 (by simp)) with e | e
    · exact e
    · rcases List.mem_cons.1 ((h y).2 (by simp)) with e' | e'
      · exact e'.symm
      · have h3:=a1 y e'
        have h4:=b1 x e
        have:=cmpP_ord.trans h3 h4
        rw [cmpP_ord.refl] at this
        omega
   subst hxy
   have hne:∀ {z:Fl},(z ∈ l ∨ z ∈ l')→z ≠ x:=fun hz e=>by
    subst e
    rcases hz with hz | hz
    · have:=a1 _ hz;rw [cmpP_ord.refl] at this;omega
    · have:=b1 _ hz;rw [cmpP_ord.refl] at this;omega
   rw [srt_ext a2 b2 fun z=>?_]
   constructor
   · intro hz
     rcases List.mem_cons.1 ((h z).1 (by simp [hz])) with e | e
     · exact absurd e (hne (.inl hz))
     · exact e
   · intro hz
     rcases List.mem_cons.1 ((h z).2 (by simp [hz])) with e | e
     · exact absurd e (hne (.inr hz))
     · exact e
end Go.Proofs.LF
namespace Go.Proofs.LF
open Go.RowKit Go.Sort
set_option maxHeartbeats 4000000
set_option maxRecDepth 100000
attribute [local go_sem] bs_toList bs_size bs_get
theorem Hp.below {b:Nat} {S:Nat→Prop} {w w':World} (h:Hp b S w) (hb:b < w.heap.size) (hS:∀ q,S q→q < w.heap.size) (hB:Below w.heap.size w w'):Hp b S w':=by
 obtain ⟨a,l,c,nx,rd,h1,h2,h3,h4,h5⟩:=h
 exact ⟨a,l,c,nx,rd,(hB.block b hb).trans h1,h2,h3,SlC.agree h4 (Ag_b hB hS),h5⟩
theorem Hp.agree {b:Nat} {S:Nat→Prop} {w w':World} (h:Hp b S w) (hb:w'.heap[b]? = w.heap[b]?) (hS:Agree S w w'):Hp b S w':=by
 obtain ⟨a,l,c,nx,rd,h1,h2,h3,h4,h5⟩:=h
 exact ⟨a,l,c,nx,rd,hb.trans h1,h2,h3,SlC.agree h4 hS,h5⟩
def FRow (B:Nat) (w:World) (v:Value) (y:Fo):Prop:=∃ cs,w.ownsRow B 85 3 v y.len cs∧FCs (Rx B w.heap.size v) w y cs
theorem FRow.fsl {B:Nat} {w:World} {v:Value} {y:Fo} (h:FRow B w v y):FSl (Rg B w.heap.size) w v y:=let ⟨cs,h1,h2⟩:=h;⟨cs,SlC.of_owns h1,h2.wide fun _ hq=>⟨hq.1,hq.2.1⟩⟩
end Go.Proofs.LF
