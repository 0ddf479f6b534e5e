/- Parts of the proof of a law of layer 11 (file): LfYaj. The conditions stand in each theorem. -/
import Derived.Lib.ItoaMem
import Derived.Test.YtffjknkcogmnbaaGreatDoorProg
import Derived.Test.YtffjknkcogmnbaaGreatDoorTyae
import Derived.Test.YtffjknkcogmnbaaGreatDoorTyal
set_option linter.all false
set_option linter.unusedVariables false
set_option linter.unusedSimpArgs false
set_option linter.all false
set_option linter.unusedVariables false
set_option linter.unusedSimpArgs false
namespace Go.Proofs.LF
def rfd (l:List Fl) (p:List Ky):Option Fl:=l.find? fun x=>decide (x.p = p)
theorem jf_ {lt:Nat→Bool} {m J:Nat} (h1:∀ k,k < m→lt k = true) (h2:∀ k,m ≤ k→k < J→lt k = false):∀ (n i j:Nat),j - i ≤ n→i ≤ m→m ≤ j→j ≤ J→bsF lt i j = m
 | 0,i,j,h,hi,hj,_=>by rw [kP_ (by omega)];omega
 | n + 1,i,j,h,hi,hj,hJ=>by
   by_cases hij:i < j
   · rw [bsF_go hij]
     by_cases hm:(i + j) / 2 < m
     · rw [if_pos (h1 _ hm)];exact jf_ h1 h2 n _ _ (by omega) (by omega) hj hJ
     · rw [if_neg (by rw [h2 _ (by omega) (by omega)];simp)];exact jf_ h1 h2 n _ _ (by omega) hi (by omega) (by omega)
   · rw [kP_ hij];omega
theorem yx_ {p:List Ky}:∀ {l:List Fl},Srt l→∃ A B,l = A ++ B∧(∀ x ∈ A,cmpP x.p p < 0)∧∀ x ∈ B,0 ≤ cmpP x.p p
 | [],_=>⟨[],[],rfl,by simp,by simp⟩
 | x :: l,h=>by
   obtain ⟨h1,h2⟩:=List.pairwise_cons.1 h
   by_cases hx:cmpP x.p p < 0
   · obtain ⟨A,B,rfl,hA,hB⟩:=yx_ (p:=p) h2
     refine ⟨x :: A,B,rfl,fun y hy=>?_,hB⟩
     rcases List.mem_cons.1 hy with rfl | hy
     · exact hx
     · exact hA y hy
   · refine ⟨[],x :: l,rfl,by simp,fun y hy=>?_⟩
     rcases List.mem_cons.1 hy with rfl | hy
     · omega
     · have:=h1 y hy
       rcases Int.lt_or_le (cmpP y.p p) 0 with h' | h'
       · have:=qi_.trans this h';omega
       · exact h'
theorem kv_ {l:List Fl} (h:Srt l) (p:List Ky):fnd l p = rfd l p:=by
 obtain ⟨A,B,rfl,hA,hB⟩:=yx_ (p:=p) h
 have hm:fndI (A ++ B) p = A.length:=by
  unfold fndI
  refine jf_ (J:=(A ++ B).length) (fun k hk=>?_) (fun k hk hJ=>?_) _ _ _ (nl_ _) (Nat.zero_le _) (by simp) (nl_ _)
  · rw [decide_eq_true_eq,List.getD_eq_getElem?_getD,List.getElem?_append_left hk,List.getElem?_eq_getElem hk]
    exact hA _ (List.getElem_mem hk)
  · rw [List.length_append] at hJ
    rw [decide_eq_false_iff_not,List.getD_eq_getElem?_getD,List.getElem?_append_right hk,List.getElem?_eq_getElem (by omega)]
    have:=hB _ (List.getElem_mem (show k - A.length < B.length by omega))
    simp only [Option.getD_some];omega
 have hf:rfd (A ++ B) p = rfd B p:=by
  unfold rfd
  rw [List.find?_append,show A.find? (fun x=>decide (x.p = p)) = none from List.find?_eq_none.2 fun x hx=>by
   have:=hA x hx
   simp only [decide_eq_true_eq]
   intro e;rw [e,qi_.refl] at this;omega]
  rfl
 rw [hf,fnd,hm,List.getElem?_append_right (nl_ _),Nat.sub_self]
 have hsB:Srt B:=(List.pairwise_append.1 h).2.1
 cases B with
 | nil=>rfl
 | cons x B=>
   simp only [List.getElem?_cons_zero,rfd]
   by_cases hx:cmpP x.p p = 0
   · rw [if_pos hx,List.find?_cons_of_pos (by simpa using qi_.eq hx)]
   · have hne:x.p ≠ p:=fun e=>hx (by rw [e,qi_.refl])
     rw [if_neg hx,List.find?_cons_of_neg (by simpa using hne)]
     symm
     rw [List.find?_eq_none]
     intro y hy
     have h1:=(List.pairwise_cons.1 hsB).1 y hy
     have h2:=hB x (by simp)
     simp only [decide_eq_true_eq]
     intro e
     rw [e] at h1
     omega
theorem zj_ {l:List Fl} {p:List Ky} {x:Fl} (h:rfd l p = some x):x ∈ l∧x.p = p:=⟨List.mem_of_find?_eq_some h,by have:=List.find?_some h;simpa using this⟩
theorem rfd_iff {l:List Fl} {p:List Ky}:(rfd l p).isSome = true ↔ p ∈ l.map Fl.p:=by
 unfold rfd
 rw [List.find?_isSome]
 simp
def eqR (a b:List Fl) (p:List Ky):Bool:=match rfd a p,rfd b p with | some x,some y=>decide (x.l = y.l) | none,none=>true | _,_=>false
theorem jn_ {a b:List Fl} (ha:Srt a) (hb:Srt b) (p:List Ky):smF a b p = eqR a b p:=by
 rw [smF,eqR,kv_ ha,kv_ hb]
 cases rfd a p <;> cases rfd b p <;> rfl
def SrtP (l:List (List Ky)):Prop:=l.Pairwise (fun a b=>cmpP a b < 0)
theorem vY_:∀ {l l':List (List Ky)},SrtP l→SrtP l'→(∀ p,p ∈ l ↔ p ∈ l')→l = l'
 | [],l',_,_,h=>by
   cases l' with
   | nil=>rfl
   | cons b t=>have:=(h b).2 (by simp);cases this
 | a :: t,[],_,_,h=>by have:=(h a).1 (by simp);cases this
 | a :: t,b :: t',h1,h2,h=>by
   obtain ⟨p1,p2⟩:=List.pairwise_cons.1 h1
   obtain ⟨q1,q2⟩:=List.pairwise_cons.1 h2
   have hab:a = b:=by
    rcases List.mem_cons.1 ((h a).1 (by simp)) with e | e
    · exact e
    · rcases List.mem_cons.1 ((h b).2 (by simp)) with e' | e'
      · exact e'.symm
      · have:=qi_.trans (p1 b e') (q1 a e)
        rw [qi_.refl] at this;omega
   subst hab
   rw [vY_ p2 q2 fun p=>⟨fun hp=>?_,fun hp=>?_⟩]
   · rcases List.mem_cons.1 ((h p).1 (by simp [hp])) with rfl | e
     · have:=p1 p hp;rw [qi_.refl] at this;omega
     · exact e
   · rcases List.mem_cons.1 ((h p).2 (by simp [hp])) with rfl | e
     · have:=q1 p hp;rw [qi_.refl] at this;omega
     · exact e
theorem vs_ {l:List (List Ky)} (h:l.Nodup):SrtP (xw_ l):=by
 have h1:=k1_ l
 have h2:(xw_ l).Nodup:=(z1_ l).nodup_iff.2 h
 unfold SrtP
 refine (List.Pairwise.and h1 h2).imp fun {a b} ⟨hab,hne⟩=>?_
 rcases Int.lt_or_eq_of_le hab with h' | h'
 · exact h'
 · exact absurd (qi_.eq h') hne
theorem yA_ {l:List (List Ky)} {p:List Ky}:p ∈ xw_ l ↔ p ∈ l:=(z1_ l).mem_iff
def jh_ (k:Ky):Prop:=(∀ c ∈ k.n,qM_ c = true)∧0 ≤ k.x∧(k.h = false→k.x = 0)
def vu_ (p:List Ky):Prop:=∀ k ∈ p,jh_ k
theorem decN_app (l:List UInt8) (c:UInt8):xU_ (l ++ [c]) = xU_ l * 10 + (c.toNat - 48):=by simp [xU_,List.foldl_append]
theorem kT_:∀ (m u:Nat),u < m→xU_ (Lib.decDigits u) = u∧∀ c ∈ Lib.decDigits u,qH_ c = true
 | 0,_,h=>by omega
 | m + 1,u,h=>by
   rw [Lib.decDigits]
   have hd:∀ k,k < 10→(UInt8.ofNat (48 + k)).toNat = 48 + k:=fun k hk=>by
    rw [UInt8.toNat_ofNat'];omega
   by_cases hu:u < 10
   · rw [dif_pos hu]
     refine ⟨?_,fun c hc=>?_⟩
     · show 0 * 10 + ((UInt8.ofNat (48 + u)).toNat - 48) = u
       rw [hd u hu];omega
     obtain rfl:=List.mem_singleton.1 hc
     rw [vP_,hd u hu];omega
   · rw [dif_neg hu]
     obtain ⟨h1,h2⟩:=kT_ m (u / 10) (by omega)
     refine ⟨?_,fun c hc=>?_⟩
     · rw [decN_app,h1,hd _ (Nat.mod_lt _ (by omega))];omega
     · rcases List.mem_append.1 hc with hc | hc
       · exact h2 c hc
       · obtain rfl:=List.mem_singleton.1 hc
         rw [vP_,hd _ (Nat.mod_lt _ (by omega))];omega
theorem xi_ {q:UInt8→Bool}:∀ {x x' T T':List UInt8},(∀ c ∈ x,q c = true)→(∀ c ∈ x',q c = true)→(∀ c,T.head? = some c→q c = false)→(∀ c,T'.head? = some c→q c = false)→x ++ T = x' ++ T'→x = x'∧T = T'
 | [],[],_,_,_,_,_,_,h=>⟨rfl,h⟩
 | [],c :: x',T,T',_,h2,h3,_,h=>by
   have h:T = c :: (x' ++ T'):=h
   have:=h3 c (by rw [h];rfl)
   rw [h2 c (by simp)] at this;cases this
 | c :: x,[],T,T',h1,_,_,h4,h=>by
   have h:c :: (x ++ T) = T':=h
   have:=h4 c (by rw [← h];rfl)
   rw [h1 c (by simp)] at this;cases this
 | c :: x,c' :: x',T,T',h1,h2,h3,h4,h=>by
   simp only [List.cons_append,List.cons.injEq] at h
   obtain ⟨rfl,h⟩:=h
   obtain ⟨rfl,rfl⟩:=xi_ (fun d hd=>h1 d (by simp [hd])) (fun d hd=>h2 d (by simp [hd])) h3 h4 h
   exact ⟨rfl,rfl⟩
theorem zC_ (k:Ky) (p:List Ky):sptL (k :: p) = yq_ k ++ sptL p:=by simp [sptL]
theorem zF_ (p:List Ky):∀ c,(sptL p).head? = some c→c = 47:=fun c h=>by
 cases p with
 | nil=>simp [sptL] at h
 | cons k p=>rw [zC_,yq_] at h;simpa using h.symm
theorem x4_:∀ {p q:List Ky},vu_ p→vu_ q→sptL p = sptL q→p = q
 | [],[],_,_,_=>rfl
 | [],k :: q,_,_,h=>by rw [zC_,yq_] at h;simp [sptL] at h
 | k :: p,[],_,_,h=>by rw [zC_,yq_] at h;simp [sptL] at h
 | k :: p,j :: q,hp,hq,h=>by
   have gk:=hp k (by simp)
   have gj:=hq j (by simp)
   have hp':vu_ p:=fun x hx=>hp x (by simp [hx])
   have hq':vu_ q:=fun x hx=>hq x (by simp [hx])
   have e:∀ (k:Ky),jh_ k→yq_ k = 47 :: k.n ++ (if k.h then 58 :: Lib.itoa k.x else []):=fun k g=>by
    rw [yq_]
    cases hh:k.h with
    | true=>rfl
    | false=>simp [g.2.2 hh]
   rw [zC_,zC_,e k gk,e j gj] at h
   simp only [List.cons_append,List.append_assoc,List.cons.injEq,true_and] at h
   have hd:∀ (k:Ky) (p:List Ky),∀ c,((if k.h then 58 :: Lib.itoa k.x else []) ++ sptL p).head? = some c→qM_ c = false:=fun k p c hc=>by
    have hc2:c = 58 ∨ c = 47:=by
     cases hh:k.h with
     | true=>rw [hh] at hc;exact .inl (by simpa using hc.symm)
     | false=>rw [hh] at hc;exact .inr (zF_ p c (by simpa using hc))
    rcases hc2 with rfl | rfl <;> decide
   obtain ⟨hn,hr⟩:=xi_ gk.1 gj.1 (hd k p) (hd j q) h
   obtain ⟨kn,kh,kx⟩:=k
   obtain ⟨jn,jh,jx⟩:=j
   simp only at hn hr gk gj
   subst hn
   cases kh with
   | true=>
     cases jh with
     | true=>
       simp only [if_true,List.cons_append,List.cons.injEq,true_and] at hr
       have ek:Lib.itoa kx = Lib.decDigits kx.toNat:=by have:=Lib.itoa_nonneg kx.toNat;rwa [Int.toNat_of_nonneg gk.2.1] at this
       have ej:Lib.itoa jx = Lib.decDigits jx.toNat:=by have:=Lib.itoa_nonneg jx.toNat;rwa [Int.toNat_of_nonneg gj.2.1] at this
       rw [ek,ej] at hr
       have dk:=kT_ (kx.toNat + 1) kx.toNat (Nat.lt_succ_self _)
       have dj:=kT_ (jx.toNat + 1) jx.toNat (Nat.lt_succ_self _)
       obtain ⟨h1,h2⟩:=xi_ (q:=qH_) dk.2 dj.2 (fun c hc=>by rw [zF_ p c hc];decide) (fun c hc=>by rw [zF_ q c hc];decide) hr
       have hx:kx.toNat = jx.toNat:=by rw [← dk.1,← dj.1,h1]
       have h0:=gk.2.1
       have h0':=gj.2.1
       obtain rfl:kx = jx:=by simp only at h0 h0';omega
       rw [x4_ hp' hq' h2]
     | false=>
       have:=zF_ q 58 (by simp at hr;rw [← hr];rfl)
       simp at this
   | false=>
     cases jh with
     | true=>
       have:=zF_ p 58 (by simp at hr;rw [hr];rfl)
       simp at this
     | false=>
       have h0:=gk.2.2 rfl
       have h0':=gj.2.2 rfl
       simp only at h0 h0'
       subst h0 h0'
       rw [x4_ hp' hq' (by simpa using hr)]
theorem xn_:∀ {r acc:List (List Ky)},(∀ p ∈ acc,vu_ p)→(∀ p ∈ r,vu_ p)→acc.Nodup→(ddP acc r).Nodup∧∀ p,p ∈ ddP acc r ↔ p ∈ acc ∨ p ∈ r
 | [],acc,_,_,h=>⟨h,fun p=>by simp [ddP]⟩
 | q :: r,acc,ha,hr,h=>by
   simp only [ddP]
   by_cases hs:sptL q ∈ acc.map sptL
   · rw [if_pos hs]
     obtain ⟨h1,h2⟩:=xn_ (r:=r) ha (fun p hp=>hr p (by simp [hp])) h
     refine ⟨h1,fun p=>?_⟩
     rw [h2 p,List.mem_cons]
     obtain ⟨z,hz,he⟩:=List.mem_map.1 hs
     have:z = q:=x4_ (ha z hz) (hr q (by simp)) he
     subst this
     constructor
     · rintro (h | h) <;> simp [h]
     · rintro (h | rfl | h)
       · exact .inl h
       · exact .inl hz
       · exact .inr h
   · rw [if_neg hs]
     have hnq:q ∉ acc:=fun e=>hs (List.mem_map.2 ⟨q,e,rfl⟩)
     obtain ⟨h1,h2⟩:=xn_ (r:=r) (acc:=acc ++ [q]) (fun p hp=>by
      rcases List.mem_append.1 hp with hp | hp
      · exact ha p hp
      · obtain rfl:p = q:=by simpa using hp
        exact hr p (by simp)) (fun p hp=>hr p (by simp [hp])) (by
      rw [List.nodup_append]
      exact ⟨h, by simp, fun a ha b hb e => by obtain rfl : b = q := by simpa using hb
                                               exact hnq (e ▸ ha)⟩)
     refine ⟨h1,fun p=>?_⟩
     rw [h2 p,List.mem_append,List.mem_singleton,List.mem_cons]
     constructor
     · rintro ((h | h) | h) <;> simp [h]
     · rintro (h | h | h) <;> simp [h]
theorem pths_spec {ls:List (List Fl)} (h:∀ l ∈ ls,∀ x ∈ l,vu_ x.p):SrtP (pthsF ls)∧∀ p,p ∈ pthsF ls ↔ ∃ l ∈ ls,p ∈ l.map Fl.p:=by
 have hg:∀ p ∈ ls.flatten.map Fl.p,vu_ p:=fun p hp=>by
  obtain ⟨x,hx,rfl⟩:=List.mem_map.1 hp
  obtain ⟨l,hl,hxl⟩:=List.mem_flatten.1 hx
  exact h l hl x hxl
 obtain ⟨h1,h2⟩:=xn_ (acc:=[]) (by simp) hg List.nodup_nil
 refine ⟨vs_ h1,fun p=>?_⟩
 rw [pthsF,yA_,h2 p]
 simp only [List.not_mem_nil,false_or,List.mem_map,List.mem_flatten]
 constructor
 · rintro ⟨x,⟨l,hl,hx⟩,rfl⟩;exact ⟨l,hl,x,hx,rfl⟩
 · rintro ⟨l,hl,x,hx,rfl⟩;exact ⟨x,⟨l,hl,hx⟩,rfl⟩
def clB (o a b:List Fl) (p:List Ky):Bool:=!eqR a b p && !eqR o a p && !eqR o b p
def frR (o a b:List Fl) (p:List Ky):Option Fl:=if clB o a b p then rfd o p else if eqR o a p then rfd b p else rfd a p
theorem x8_ {a b:List Fl} {p:List Ky} (h:eqR a b p = true):rfd a p = rfd b p:=by
 unfold eqR at h
 cases ha:rfd a p with
 | none=>cases hb:rfd b p with
   | none=>rfl
   | some y=>rw [ha,hb] at h;cases h
 | some x=>cases hb:rfd b p with
   | none=>rw [ha,hb] at h;cases h
   | some y=>
     rw [ha,hb] at h
     have h1:=zj_ ha
     have h2:=zj_ hb
     have h3:x.l = y.l:=by simpa using h
     cases x;cases y;simp_all
theorem y8_ {o a b:List Fl} (ho:Srt o) (ha:Srt a) (hb:Srt b):∀ (ps:List (List Ky)) (all:List Fl) (con:List (List Ky)),
 jnF o a b all con ps = (all ++ ps.filterMap (frR o a b),con ++ ps.filter (clB o a b))
 | [],all,con=>by simp [jnF]
 | p :: ps,all,con=>by
   simp only [jnF,jn_ ha hb,jn_ ho hb,jn_ ho ha]
   by_cases h1:eqR a b p = true ∨ eqR o b p = true
   · have hc:clB o a b p = false:=by
      unfold clB
      rcases h1 with h | h <;> simp [h]
     have hf:frR o a b p = rfd a p:=by
      rw [frR,hc,if_neg (by simp)]
      by_cases h2:eqR o a p = true
      · rw [if_pos h2]
        rcases h1 with h | h
        · exact (x8_ h).symm
        · exact ((x8_ h).symm.trans (x8_ h2))
      · rw [if_neg h2]
     rw [if_pos h1]
     simp only
     rw [y8_ ho ha hb ps,kv_ ha,List.filterMap_cons,List.filter_cons,hf,hc]
     cases rfd a p <;> simp
   · rw [if_neg h1]
     simp only [not_or,Bool.not_eq_true] at h1
     by_cases h2:eqR o a p = true
     · have hc:clB o a b p = false:=by simp [clB,h2]
       have hf:frR o a b p = rfd b p:=by rw [frR,hc,if_neg (by simp),if_pos h2]
       rw [if_pos h2]
       simp only
       rw [y8_ ho ha hb ps,kv_ hb,List.filterMap_cons,List.filter_cons,hf,hc]
       cases rfd b p <;> simp
     · have hc:clB o a b p = true:=by
        have h2':eqR o a p = false:=by simpa using h2
        simp [clB,h1.1,h1.2,h2']
       have hf:frR o a b p = rfd o p:=by rw [frR,hc,if_pos rfl]
       rw [if_neg h2]
       simp only
       rw [y8_ ho ha hb ps,kv_ ho,List.filterMap_cons,List.filter_cons,hf,hc]
       cases rfd o p <;> simp
def jnR (o a b:List Fl):List (List Ky)→List Fl→List (List Ky)→List Fl × List (List Ky)
 | [],kept,named=>(kept,named)
 | p :: ps,kept,named=>
   match frR o a b p with
   | none=>jnR o a b ps kept (if clB o a b p then named ++ [p] else named)
   | some x=>
     if 1 < p.length∧(rfd kept p.dropLast).isNone then jnR o a b ps kept (named ++ [p])
     else jnR o a b ps (kept ++ [x]) (if clB o a b p then named ++ [p] else named)
theorem frR_p {o a b:List Fl} {p:List Ky} {x:Fl} (h:frR o a b p = some x):x.p = p∧(x ∈ o ∨ x ∈ a ∨ x ∈ b):=by
 unfold frR at h
 split at h
 · exact ⟨(zj_ h).2, .inl (zj_ h).1⟩
 · split at h
   · exact ⟨(zj_ h).2, .inr (.inr (zj_ h).1)⟩
   · exact ⟨(zj_ h).2, .inr (.inl (zj_ h).1)⟩
theorem jn_ls {o a b:List Fl}:∀ (ps:List (List Ky)) (kept:List Fl) (named out:List (List Ky)),SrtP ps→(∀ p ∈ ps,p ≠ [])→Srt kept→Clo kept→(∀ x ∈ kept,∀ p ∈ ps,cmpP x.p p < 0) →
 (jnR o a b ps kept named).1 = (lsF kept out (ps.filterMap (frR o a b))).1∧Srt (jnR o a b ps kept named).1∧Clo (jnR o a b ps kept named).1∧(∀ x ∈ (jnR o a b ps kept named).1,x ∈ kept ∨ x ∈ o ∨ x ∈ a ∨ x ∈ b) ∧
 ∃ nm oo,(jnR o a b ps kept named).2 = named ++ nm∧(lsF kept out (ps.filterMap (frR o a b))).2 = out ++ oo∧nm.Sublist ps∧oo.Sublist ps∧∀ p,p ∈ nm ↔ p ∈ ps.filter (clB o a b) ∨ p ∈ oo
 | [],kept,named,out,_,_,hk,hcl,_=>⟨rfl,hk,hcl,fun x hx => .inl hx,[],[],by simp [jnR],by simp [lsF],by simp,by simp,by simp⟩
 | p :: ps,kept,named,out,hs,hne,hk,hcl,hkp=>by
   obtain ⟨s1,s2⟩:=List.pairwise_cons.1 hs
   have hne':∀ q ∈ ps,q ≠ []:=fun q hq=>hne q (by simp [hq])
   have hkp':∀ x ∈ kept,∀ q ∈ ps,cmpP x.p q < 0:=fun x hx q hq=>hkp x hx q (by simp [hq])
   simp only [jnR,List.filterMap_cons]
   cases hf:frR o a b p with
   | none=>
     simp only
     obtain ⟨i1,i2,i3,i4,nm,oo,i5,i6,i7,i8,i9⟩:=jn_ls ps kept (if clB o a b p then named ++ [p] else named) out s2 hne' hk hcl hkp'
     refine ⟨i1,i2,i3,i4,(if clB o a b p then [p] else []) ++ nm,oo,?_,i6,?_,i8.cons _,fun q=>?_⟩
     · rw [i5];split <;> simp
     · split
       · exact i7.cons_cons _
       · exact i7.cons _
     · rw [List.filter_cons,List.mem_append,i9 q]
       split <;> simp [or_assoc]
   | some x=>
     obtain ⟨hxp,hxm⟩:=frR_p hf
     simp only [lsF,hxp,kv_ hk]
     have hpl:0 < p.length:=List.length_pos_iff.2 (hne p (by simp))
     by_cases hl:1 < p.length∧(rfd kept p.dropLast).isNone
     · have hl':¬ ((rfd kept p.dropLast).isSome = true ∨ p.length = 1):=by
        rintro (h | h)
        · rw [Option.isNone_iff_eq_none.1 hl.2] at h;cases h
        · omega
       rw [if_pos hl,if_neg hl']
       obtain ⟨i1,i2,i3,i4,nm,oo,i5,i6,i7,i8,i9⟩:=jn_ls ps kept (named ++ [p]) (out ++ [p]) s2 hne' hk hcl hkp'
       refine ⟨i1,i2,i3,i4,p :: nm,p :: oo,by rw [i5];simp,by rw [i6];simp,i7.cons_cons _,i8.cons_cons _,fun q=>?_⟩
       rw [List.filter_cons,List.mem_cons,i9 q,List.mem_cons]
       split
       · simp only [List.mem_cons]
         constructor
         · rintro (h | h | h) <;> simp [h]
         · rintro ((h | h) | h | h) <;> simp [h]
       · constructor
         · rintro (h | h | h) <;> simp [h]
         · rintro (h | h | h) <;> simp [h]
     · have hl':(rfd kept p.dropLast).isSome = true ∨ p.length = 1:=by
        by_cases h1:1 < p.length
        · refine .inl ?_
          cases hq:rfd kept p.dropLast with
          | none=>exact absurd ⟨h1,by rw [hq];rfl⟩ hl
          | some z=>rfl
        · exact .inr (by omega)
       rw [if_neg hl,if_pos hl']
       have hk2:Srt (kept ++ [x]):=by
        unfold Srt
        rw [List.pairwise_append]
        exact ⟨hk,by simp,fun c hc d hd=>by
         obtain rfl:d = x:=by simpa using hd
         rw [hxp];exact hkp c hc p (by simp)⟩
       have hcl2:Clo (kept ++ [x]):=fun z hz hzne=>by
        rcases List.mem_append.1 hz with hz | hz
        · obtain ⟨y,hy,hyp⟩:=hcl z hz hzne
          exact ⟨y,by simp [hy],hyp⟩
        · obtain rfl:z = x:=by simpa using hz
          rw [hxp] at hzne ⊢
          rcases hl' with h | h
          · obtain ⟨y,hy,hyp⟩:=List.mem_map.1 (rfd_iff.1 h)
            exact ⟨y,by simp [hy],hyp⟩
          · exfalso;apply hzne
            rw [← List.length_eq_zero_iff,List.length_dropLast];omega
       obtain ⟨i1,i2,i3,i4,nm,oo,i5,i6,i7,i8,i9⟩:=jn_ls ps (kept ++ [x]) (if clB o a b p then named ++ [p] else named) out s2 hne' hk2 hcl2 (fun c hc q hq=>by
        rcases List.mem_append.1 hc with hc | hc
        · exact hkp' c hc q hq
        · obtain rfl:c = x:=by simpa using hc
          rw [hxp];exact s1 q hq)
       refine ⟨i1,i2,i3,fun z hz=>?_,(if clB o a b p then [p] else []) ++ nm,oo,?_,i6,?_,i8.cons _,fun q=>?_⟩
       · rcases i4 z hz with h | h
         · rcases List.mem_append.1 h with h | h
           · exact .inl h
           · obtain rfl:z = x:=by simpa using h
             exact .inr hxm
         · exact .inr h
       · rw [i5];split <;> simp
       · split
         · exact i7.cons_cons _
         · exact i7.cons _
       · rw [List.filter_cons,List.mem_append,i9 q]
         split <;> simp [or_assoc]
theorem x6_:∀ {out con:List (List Ky)},con.Nodup→(cnF con out).Nodup∧∀ p,p ∈ cnF con out ↔ p ∈ con ∨ p ∈ out
 | [],con,h=>⟨h,fun p=>by simp [cnF]⟩
 | q :: out,con,h=>by
   simp only [cnF]
   by_cases hs:con.any (fun z=>decide (cmpP z q = 0)) = true
   · rw [if_pos hs]
     obtain ⟨h1,h2⟩:=x6_ (out:=out) h
     obtain ⟨z,hz,he⟩:=List.any_eq_true.1 hs
     have:z = q:=qi_.eq (by simpa using he)
     subst this
     refine ⟨h1,fun p=>?_⟩
     rw [h2 p,List.mem_cons]
     constructor
     · rintro (h | h) <;> simp [h]
     · rintro (h | rfl | h)
       · exact .inl h
       · exact .inl hz
       · exact .inr h
   · rw [if_neg hs]
     have hnq:q ∉ con:=fun e=>hs (List.any_eq_true.2 ⟨q,e,by simp [qi_.refl]⟩)
     obtain ⟨h1,h2⟩:=x6_ (out:=out) (con:=con ++ [q]) (by
      rw [List.nodup_append]
      exact ⟨h, by simp, fun a ha b hb e => by obtain rfl : b = q := by simpa using hb
                                               exact hnq (e ▸ ha)⟩)
     refine ⟨h1,fun p=>?_⟩
     rw [h2 p,List.mem_append,List.mem_singleton,List.mem_cons]
     constructor
     · rintro ((h | h) | h) <;> simp [h]
     · rintro (h | h | h) <;> simp [h]
theorem SrtP.nodup {l:List (List Ky)} (h:SrtP l):l.Nodup:=h.imp fun {a b} hab e=>by rw [e,qi_.refl] at hab;omega
theorem join_eq {o a b:List Fl} (ho:Srt o) (ha:Srt a) (hb:Srt b) (hg:∀ l ∈ [o,a,b],∀ x ∈ l,vu_ x.p∧x.p ≠ []) :
 let J:=jnF o a b [] [] (pthsF [o,a,b])
 let K:=lsF [] [] J.1
 jnR o a b (pthsF [o,a,b]) [] [] = (K.1,xw_ (cnF J.2 K.2))∧Srt K.1∧Clo K.1∧∀ x ∈ K.1,x ∈ o ∨ x ∈ a ∨ x ∈ b:=by
 intro J K
 obtain ⟨h5,h6⟩:=pths_spec (fun l hl x hx=>(hg l hl x hx).1)
 have hne:∀ p ∈ pthsF [o,a,b],p ≠ []:=fun p hp=>by
  obtain ⟨l,hl,hp⟩:=(h6 p).1 hp
  obtain ⟨x,hx,rfl⟩:=List.mem_map.1 hp
  exact (hg l hl x hx).2
 have hJ:J = ([] ++ (pthsF [o,a,b]).filterMap (frR o a b),[] ++ (pthsF [o,a,b]).filter (clB o a b)):=y8_ ho ha hb _ _ _
 simp only [List.nil_append] at hJ
 obtain ⟨i1,i2,i3,i4,nm,oo,i5,i6,i7,i8,i9⟩:=jn_ls (o:=o) (a:=a) (b:=b) (pthsF [o,a,b]) [] [] [] h5 hne List.Pairwise.nil (fun x hx=>by cases hx) (fun x hx=>by cases hx)
 have hK:K = lsF [] [] ((pthsF [o,a,b]).filterMap (frR o a b)):=by show lsF [] [] J.1 = _;rw [hJ]
 rw [← hK] at i1 i6
 simp only [List.nil_append] at i5 i6
 rw [i1] at i2 i3 i4
 refine ⟨?_,i2,i3,fun x hx=>by rcases i4 x hx with h | h;cases h;exact h⟩
 have hnm:nm = xw_ (cnF J.2 K.2):=by
  have hJ2:J.2 = (pthsF [o,a,b]).filter (clB o a b):=by rw [hJ]
  have hcn:J.2.Nodup:=by rw [hJ2];exact h5.nodup.sublist List.filter_sublist
  obtain ⟨c1,c2⟩:=x6_ (out:=K.2) hcn
  refine vY_ (h5.sublist i7) (vs_ c1) fun p=>?_
  rw [i9 p,yA_,c2 p,hJ2,i6]
 rw [← hnm,← i1,← i5]
end Go.Proofs.LF