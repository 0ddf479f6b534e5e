/- Parts of the proof of a law of layer 11 (file): LfYaj, LsStep. The conditions stand in each theorem. -/
import Derived.Lib.ItoaMem
import Derived.Test.YtffjknkcogmnbaaGreatDoorProg
import Derived.Test.YtffjknkcogmnbaaGreatDoorSpae
import Derived.Test.YtffjknkcogmnbaaGreatDoorSpal
import Derived.Test.YtffjknkcogmnbaaGreatDoorSpam
set_option linter.all false
set_option linter.unusedVariables false
set_option linter.unusedSimpArgs false
set_option linter.all false
set_option linter.unusedVariables false
set_option linter.unusedSimpArgs false
namespace Go.Proofs.LF
def rfd (l:List Fl) (p:List Ky):Option Fl:=l.find? fun x=>decide (x.p = p)
theorem jw_ {lt:Nat→Bool} {m J:Nat} (h1:∀ k,k < m→lt k = true) (h2:∀ k,m ≤ k→k < J→lt k = false):∀ (n i j:Nat),j - i ≤ n→i ≤ m→m ≤ j→j ≤ J→bsF lt i j = m
 | 0,i,j,h,hi,hj,_=>by rw [zk_ (by omega)];omega
 | n + 1,i,j,h,hi,hj,hJ=>by
   by_cases hij:i < j
   · rw [yu_ hij]
     by_cases hm:(i + j) / 2 < m
     · rw [if_pos (h1 _ hm)];exact jw_ h1 h2 n _ _ (by omega) (by omega) hj hJ
     · rw [if_neg (by rw [h2 _ (by omega) (by omega)];simp)];exact jw_ h1 h2 n _ _ (by omega) hi (by omega) (by omega)
   · rw [zk_ hij];omega
theorem yA_ {p:List Ky}:∀ {l:List Fl},Srt l→∃ A B,l = A ++ B∧(∀ x ∈ A,cmpP x.p p < 0)∧∀ x ∈ B,0 ≤ cmpP x.p p
 | [],_=>⟨[],[],rfl,by simp,by simp⟩
 | x :: l,h=>by
   obtain ⟨h1,h2⟩:=List.pairwise_cons.1 h
   by_cases hx:cmpP x.p p < 0
   · obtain ⟨A,B,rfl,hA,hB⟩:=yA_ (p:=p) h2
     refine ⟨x :: A,B,rfl,fun y hy=>?_,hB⟩
     rcases List.mem_cons.1 hy with rfl | hy
     · exact hx
     · exact hA y hy
   · refine ⟨[],x :: l,rfl,by simp,fun y hy=>?_⟩
     rcases List.mem_cons.1 hy with rfl | hy
     · omega
     · have:=h1 y hy
       rcases Int.lt_or_le (cmpP y.p p) 0 with h' | h'
       · have:=qj_.trans this h';omega
       · exact h'
theorem kQ_ {l:List Fl} (h:Srt l) (p:List Ky):fnd l p = rfd l p:=by
 obtain ⟨A,B,rfl,hA,hB⟩:=yA_ (p:=p) h
 have hm:fndI (A ++ B) p = A.length:=by
  unfold fndI
  refine jw_ (J:=(A ++ B).length) (fun k hk=>?_) (fun k hk hJ=>?_) _ _ _ (nl_ _) (Nat.zero_le _) (by simp) (nl_ _)
  · rw [decide_eq_true_eq,List.getD_eq_getElem?_getD,List.getElem?_append_left hk,List.getElem?_eq_getElem hk]
    exact hA _ (List.getElem_mem hk)
  · rw [List.length_append] at hJ
    rw [decide_eq_false_iff_not,List.getD_eq_getElem?_getD,List.getElem?_append_right hk,List.getElem?_eq_getElem (by omega)]
    have:=hB _ (List.getElem_mem (show k - A.length < B.length by omega))
    simp only [Option.getD_some];omega
 have hf:rfd (A ++ B) p = rfd B p:=by
  unfold rfd
  rw [List.find?_append,show A.find? (fun x=>decide (x.p = p)) = none from List.find?_eq_none.2 fun x hx=>by
   have:=hA x hx
   simp only [decide_eq_true_eq]
   intro e;rw [e,qj_.refl] at this;omega]
  rfl
 rw [hf,fnd,hm,List.getElem?_append_right (nl_ _),Nat.sub_self]
 have hsB:Srt B:=(List.pairwise_append.1 h).2.1
 cases B with
 | nil=>rfl
 | cons x B=>
   simp only [List.getElem?_cons_zero,rfd]
   by_cases hx:cmpP x.p p = 0
   · rw [if_pos hx,List.find?_cons_of_pos (by simpa using qj_.eq hx)]
   · have hne:x.p ≠ p:=fun e=>hx (by rw [e,qj_.refl])
     rw [if_neg hx,List.find?_cons_of_neg (by simpa using hne)]
     symm
     rw [List.find?_eq_none]
     intro y hy
     have h1:=(List.pairwise_cons.1 hsB).1 y hy
     have h2:=hB x (by simp)
     simp only [decide_eq_true_eq]
     intro e
     rw [e] at h1
     omega
theorem rfd_some {l:List Fl} {p:List Ky} {x:Fl} (h:rfd l p = some x):x ∈ l∧x.p = p:=⟨List.mem_of_find?_eq_some h,by have:=List.find?_some h;simpa using this⟩
theorem xB_ {l:List Fl} {p:List Ky}:(rfd l p).isSome = true ↔ p ∈ l.map Fl.p:=by
 unfold rfd
 rw [List.find?_isSome]
 simp
def eqR (a b:List Fl) (p:List Ky):Bool:=match rfd a p,rfd b p with | some x,some y=>decide (x.l = y.l) | none,none=>true | _,_=>false
theorem xE_ {a b:List Fl} (ha:Srt a) (hb:Srt b) (p:List Ky):smF a b p = eqR a b p:=by
 rw [smF,eqR,kQ_ ha,kQ_ hb]
 cases rfd a p <;> cases rfd b p <;> rfl
def SrtP (l:List (List Ky)):Prop:=l.Pairwise (fun a b=>cmpP a b < 0)
theorem yI_:∀ {l l':List (List Ky)},SrtP l→SrtP l'→(∀ p,p ∈ l ↔ p ∈ l')→l = l'
 | [],l',_,_,h=>by
   cases l' with
   | nil=>rfl
   | cons b t=>have:=(h b).2 (by simp);cases this
 | a :: t,[],_,_,h=>by have:=(h a).1 (by simp);cases this
 | a :: t,b :: t',h1,h2,h=>by
   obtain ⟨p1,p2⟩:=List.pairwise_cons.1 h1
   obtain ⟨q1,q2⟩:=List.pairwise_cons.1 h2
   have hab:a = b:=by
    rcases List.mem_cons.1 ((h a).1 (by simp)) with e | e
    · exact e
    · rcases List.mem_cons.1 ((h b).2 (by simp)) with e' | e'
      · exact e'.symm
      · have:=qj_.trans (p1 b e') (q1 a e)
        rw [qj_.refl] at this;omega
   subst hab
   rw [yI_ p2 q2 fun p=>⟨fun hp=>?_,fun hp=>?_⟩]
   · rcases List.mem_cons.1 ((h p).1 (by simp [hp])) with rfl | e
     · have:=p1 p hp;rw [qj_.refl] at this;omega
     · exact e
   · rcases List.mem_cons.1 ((h p).2 (by simp [hp])) with rfl | e
     · have:=q1 p hp;rw [qj_.refl] at this;omega
     · exact e
theorem jP_ {l:List (List Ky)} (h:l.Nodup):SrtP (j9_ l):=by
 have h1:=k7_ l
 have h2:(j9_ l).Nodup:=(z2_ l).nodup_iff.2 h
 unfold SrtP
 refine (List.Pairwise.and h1 h2).imp fun {a b} ⟨hab,hne⟩=>?_
 rcases Int.lt_or_eq_of_le hab with h' | h'
 · exact h'
 · exact absurd (qj_.eq h') hne
theorem srtP_mem {l:List (List Ky)} {p:List Ky}:p ∈ j9_ l ↔ p ∈ l:=(z2_ l).mem_iff
def jF_ (k:Ky):Prop:=(∀ c ∈ k.n,qK_ c = true)∧0 ≤ k.x∧(k.h = false→k.x = 0)
def vk_ (p:List Ky):Prop:=∀ k ∈ p,jF_ k
theorem decN_app (l:List UInt8) (c:UInt8):j4_ (l ++ [c]) = j4_ l * 10 + (c.toNat - 48):=by simp [j4_,List.foldl_append]
theorem vb_:∀ (m u:Nat),u < m→j4_ (Lib.decDigits u) = u∧∀ c ∈ Lib.decDigits u,qG_ c = true
 | 0,_,h=>by omega
 | m + 1,u,h=>by
   rw [Lib.decDigits]
   have hd:∀ k,k < 10→(UInt8.ofNat (48 + k)).toNat = 48 + k:=fun k hk=>by
    rw [UInt8.toNat_ofNat'];omega
   by_cases hu:u < 10
   · rw [dif_pos hu]
     refine ⟨?_,fun c hc=>?_⟩
     · show 0 * 10 + ((UInt8.ofNat (48 + u)).toNat - 48) = u
       rw [hd u hu];omega
     obtain rfl:=List.mem_singleton.1 hc
     rw [vW_,hd u hu];omega
   · rw [dif_neg hu]
     obtain ⟨h1,h2⟩:=vb_ m (u / 10) (by omega)
     refine ⟨?_,fun c hc=>?_⟩
     · rw [decN_app,h1,hd _ (Nat.mod_lt _ (by omega))];omega
     · rcases List.mem_append.1 hc with hc | hc
       · exact h2 c hc
       · obtain rfl:=List.mem_singleton.1 hc
         rw [vW_,hd _ (Nat.mod_lt _ (by omega))];omega
theorem xw_ {q:UInt8→Bool}:∀ {x x' T T':List UInt8},(∀ c ∈ x,q c = true)→(∀ c ∈ x',q c = true)→(∀ c,T.head? = some c→q c = false)→(∀ c,T'.head? = some c→q c = false)→x ++ T = x' ++ T'→x = x'∧T = T'
 | [],[],_,_,_,_,_,_,h=>⟨rfl,h⟩
 | [],c :: x',T,T',_,h2,h3,_,h=>by
   have h:T = c :: (x' ++ T'):=h
   have:=h3 c (by rw [h];rfl)
   rw [h2 c (by simp)] at this;cases this
 | c :: x,[],T,T',h1,_,_,h4,h=>by
   have h:c :: (x ++ T) = T':=h
   have:=h4 c (by rw [← h];rfl)
   rw [h1 c (by simp)] at this;cases this
 | c :: x,c' :: x',T,T',h1,h2,h3,h4,h=>by
   simp only [List.cons_append,List.cons.injEq] at h
   obtain ⟨rfl,h⟩:=h
   obtain ⟨rfl,rfl⟩:=xw_ (fun d hd=>h1 d (by simp [hd])) (fun d hd=>h2 d (by simp [hd])) h3 h4 h
   exact ⟨rfl,rfl⟩
theorem zG_ (k:Ky) (p:List Ky):sptL (k :: p) = yr_ k ++ sptL p:=by simp [sptL]
theorem zK_ (p:List Ky):∀ c,(sptL p).head? = some c→c = 47:=fun c h=>by
 cases p with
 | nil=>simp [sptL] at h
 | cons k p=>rw [zG_,yr_] at h;simpa using h.symm
theorem xF_:∀ {p q:List Ky},vk_ p→vk_ q→sptL p = sptL q→p = q
 | [],[],_,_,_=>rfl
 | [],k :: q,_,_,h=>by rw [zG_,yr_] at h;simp [sptL] at h
 | k :: p,[],_,_,h=>by rw [zG_,yr_] at h;simp [sptL] at h
 | k :: p,j :: q,hp,hq,h=>by
   have gk:=hp k (by simp)
   have gj:=hq j (by simp)
   have hp':vk_ p:=fun x hx=>hp x (by simp [hx])
   have hq':vk_ q:=fun x hx=>hq x (by simp [hx])
   have e:∀ (k:Ky),jF_ k→yr_ k = 47 :: k.n ++ (if k.h then 58 :: Lib.itoa k.x else []):=fun k g=>by
    rw [yr_]
    cases hh:k.h with
    | true=>rfl
    | false=>simp [g.2.2 hh]
   rw [zG_,zG_,e k gk,e j gj] at h
   simp only [List.cons_append,List.append_assoc,List.cons.injEq,true_and] at h
   have hd:∀ (k:Ky) (p:List Ky),∀ c,((if k.h then 58 :: Lib.itoa k.x else []) ++ sptL p).head? = some c→qK_ c = false:=fun k p c hc=>by
    have hc2:c = 58 ∨ c = 47:=by
     cases hh:k.h with
     | true=>rw [hh] at hc;exact .inl (by simpa using hc.symm)
     | false=>rw [hh] at hc;exact .inr (zK_ p c (by simpa using hc))
    rcases hc2 with rfl | rfl <;> decide
   obtain ⟨hn,hr⟩:=xw_ gk.1 gj.1 (hd k p) (hd j q) h
   obtain ⟨kn,kh,kx⟩:=k
   obtain ⟨jn,jh,jx⟩:=j
   simp only at hn hr gk gj
   subst hn
   cases kh with
   | true=>
     cases jh with
     | true=>
       simp only [if_true,List.cons_append,List.cons.injEq,true_and] at hr
       have ek:Lib.itoa kx = Lib.decDigits kx.toNat:=by have:=Lib.itoa_nonneg kx.toNat;rwa [Int.toNat_of_nonneg gk.2.1] at this
       have ej:Lib.itoa jx = Lib.decDigits jx.toNat:=by have:=Lib.itoa_nonneg jx.toNat;rwa [Int.toNat_of_nonneg gj.2.1] at this
       rw [ek,ej] at hr
       have dk:=vb_ (kx.toNat + 1) kx.toNat (Nat.lt_succ_self _)
       have dj:=vb_ (jx.toNat + 1) jx.toNat (Nat.lt_succ_self _)
       obtain ⟨h1,h2⟩:=xw_ (q:=qG_) dk.2 dj.2 (fun c hc=>by rw [zK_ p c hc];decide) (fun c hc=>by rw [zK_ q c hc];decide) hr
       have hx:kx.toNat = jx.toNat:=by rw [← dk.1,← dj.1,h1]
       have h0:=gk.2.1
       have h0':=gj.2.1
       obtain rfl:kx = jx:=by simp only at h0 h0';omega
       rw [xF_ hp' hq' h2]
     | false=>
       have:=zK_ q 58 (by simp at hr;rw [← hr];rfl)
       simp at this
   | false=>
     cases jh with
     | true=>
       have:=zK_ p 58 (by simp at hr;rw [hr];rfl)
       simp at this
     | false=>
       have h0:=gk.2.2 rfl
       have h0':=gj.2.2 rfl
       simp only at h0 h0'
       subst h0 h0'
       rw [xF_ hp' hq' (by simpa using hr)]
theorem xy_:∀ {r acc:List (List Ky)},(∀ p ∈ acc,vk_ p)→(∀ p ∈ r,vk_ p)→acc.Nodup→(ddP acc r).Nodup∧∀ p,p ∈ ddP acc r ↔ p ∈ acc ∨ p ∈ r
 | [],acc,_,_,h=>⟨h,fun p=>by simp [ddP]⟩
 | q :: r,acc,ha,hr,h=>by
   simp only [ddP]
   by_cases hs:sptL q ∈ acc.map sptL
   · rw [if_pos hs]
     obtain ⟨h1,h2⟩:=xy_ (r:=r) ha (fun p hp=>hr p (by simp [hp])) h
     refine ⟨h1,fun p=>?_⟩
     rw [h2 p,List.mem_cons]
     obtain ⟨z,hz,he⟩:=List.mem_map.1 hs
     have:z = q:=xF_ (ha z hz) (hr q (by simp)) he
     subst this
     constructor
     · rintro (h | h) <;> simp [h]
     · rintro (h | rfl | h)
       · exact .inl h
       · exact .inl hz
       · exact .inr h
   · rw [if_neg hs]
     have hnq:q ∉ acc:=fun e=>hs (List.mem_map.2 ⟨q,e,rfl⟩)
     obtain ⟨h1,h2⟩:=xy_ (r:=r) (acc:=acc ++ [q]) (fun p hp=>by
      rcases List.mem_append.1 hp with hp | hp
      · exact ha p hp
      · obtain rfl:p = q:=by simpa using hp
        exact hr p (by simp)) (fun p hp=>hr p (by simp [hp])) (by
      rw [List.nodup_append]
      exact ⟨h, by simp, fun a ha b hb e => by obtain rfl : b = q := by simpa using hb
                                               exact hnq (e ▸ ha)⟩)
     refine ⟨h1,fun p=>?_⟩
     rw [h2 p,List.mem_append,List.mem_singleton,List.mem_cons]
     constructor
     · rintro ((h | h) | h) <;> simp [h]
     · rintro (h | h | h) <;> simp [h]
theorem pths_spec {ls:List (List Fl)} (h:∀ l ∈ ls,∀ x ∈ l,vk_ x.p):SrtP (pthsF ls)∧∀ p,p ∈ pthsF ls ↔ ∃ l ∈ ls,p ∈ l.map Fl.p:=by
 have hg:∀ p ∈ ls.flatten.map Fl.p,vk_ p:=fun p hp=>by
  obtain ⟨x,hx,rfl⟩:=List.mem_map.1 hp
  obtain ⟨l,hl,hxl⟩:=List.mem_flatten.1 hx
  exact h l hl x hxl
 obtain ⟨h1,h2⟩:=xy_ (acc:=[]) (by simp) hg List.nodup_nil
 refine ⟨jP_ h1,fun p=>?_⟩
 rw [pthsF,srtP_mem,h2 p]
 simp only [List.not_mem_nil,false_or,List.mem_map,List.mem_flatten]
 constructor
 · rintro ⟨x,⟨l,hl,hx⟩,rfl⟩;exact ⟨l,hl,x,hx,rfl⟩
 · rintro ⟨l,hl,x,hx,rfl⟩;exact ⟨x,⟨l,hl,hx⟩,rfl⟩
def clB (o a b:List Fl) (p:List Ky):Bool:=!eqR a b p && !eqR o a p && !eqR o b p
def frR (o a b:List Fl) (p:List Ky):Option Fl:=if clB o a b p then rfd o p else if eqR o a p then rfd b p else rfd a p
theorem v9_ {a b:List Fl} {p:List Ky} (h:eqR a b p = true):rfd a p = rfd b p:=by
 unfold eqR at h
 cases ha:rfd a p with
 | none=>cases hb:rfd b p with
   | none=>rfl
   | some y=>rw [ha,hb] at h;cases h
 | some x=>cases hb:rfd b p with
   | none=>rw [ha,hb] at h;cases h
   | some y=>
     rw [ha,hb] at h
     have h1:=rfd_some ha
     have h2:=rfd_some hb
     have h3:x.l = y.l:=by simpa using h
     cases x;cases y;simp_all
theorem yM_ {o a b:List Fl} (ho:Srt o) (ha:Srt a) (hb:Srt b):∀ (ps:List (List Ky)) (all:List Fl) (con:List (List Ky)),
 jnF o a b all con ps = (all ++ ps.filterMap (frR o a b),con ++ ps.filter (clB o a b))
 | [],all,con=>by simp [jnF]
 | p :: ps,all,con=>by
   simp only [jnF,xE_ ha hb,xE_ ho hb,xE_ ho ha]
   by_cases h1:eqR a b p = true ∨ eqR o b p = true
   · have hc:clB o a b p = false:=by
      unfold clB
      rcases h1 with h | h <;> simp [h]
     have hf:frR o a b p = rfd a p:=by
      rw [frR,hc,if_neg (by simp)]
      by_cases h2:eqR o a p = true
      · rw [if_pos h2]
        rcases h1 with h | h
        · exact (v9_ h).symm
        · exact ((v9_ h).symm.trans (v9_ h2))
      · rw [if_neg h2]
     rw [if_pos h1]
     simp only
     rw [yM_ ho ha hb ps,kQ_ ha,List.filterMap_cons,List.filter_cons,hf,hc]
     cases rfd a p <;> simp
   · rw [if_neg h1]
     simp only [not_or,Bool.not_eq_true] at h1
     by_cases h2:eqR o a p = true
     · have hc:clB o a b p = false:=by simp [clB,h2]
       have hf:frR o a b p = rfd b p:=by rw [frR,hc,if_neg (by simp),if_pos h2]
       rw [if_pos h2]
       simp only
       rw [yM_ ho ha hb ps,kQ_ hb,List.filterMap_cons,List.filter_cons,hf,hc]
       cases rfd b p <;> simp
     · have hc:clB o a b p = true:=by
        have h2':eqR o a p = false:=by simpa using h2
        simp [clB,h1.1,h1.2,h2']
       have hf:frR o a b p = rfd o p:=by rw [frR,hc,if_pos rfl]
       rw [if_neg h2]
       simp only
       rw [yM_ ho ha hb ps,kQ_ ho,List.filterMap_cons,List.filter_cons,hf,hc]
       cases rfd o p <;> simp
theorem SrtP.nodup {l:List (List Ky)} (h:SrtP l):l.Nodup:=h.imp fun {a b} hab e=>by rw [e,qj_.refl] at hab;omega
end Go.Proofs.LF
namespace Go.Proofs.LS
theorem fill_step {xs:List Way} (hx:Fit xs) {i:Nat} {ws:List Way} (hF:Flow ws) (hS:z6_ ws xs) (hi:i < ws.length) (hlt:(at_ ws i).goes < (at_ ws i).lo) :
 ∃ l met,path ws (at_ ws i).t (at_ ws i).f = some (l,met)∧l ≠ []∧l.length ≤ 12∧(∀ c ∈ l ++ [⟨i,true⟩],c.way < ws.length)∧Flow (kP_ ws (l ++ [⟨i,true⟩]) ((at_ ws i).lo - (at_ ws i).goes))∧z6_ ws (kP_ ws (l ++ [⟨i,true⟩]) ((at_ ws i).lo - (at_ ws i).goes)) ∧
  (at_ ws i).goes < (at_ (kP_ ws (l ++ [⟨i,true⟩]) ((at_ ws i).lo - (at_ ws i).goes)) i).goes∧(∀ j,j < ws.length→(at_ ws j).lo ≤ (at_ ws j).goes→(at_ ws j).lo ≤ (at_ (kP_ ws (l ++ [⟨i,true⟩]) ((at_ ws i).lo - (at_ ws i).goes)) j).goes):=by
 obtain ⟨n1,n2,n3⟩:=hF.node i hi
 rcases path_ok (b:=(at_ ws i).f) hF n2 n3.symm with ⟨met,p1,_,p2,p3,p4⟩ | ⟨l,met,p1,_,p2,p6,p3,p4,p5⟩
 · exact (lack_no hF hS hx hi hlt (fun v=>met.getD v false) p2 p3 p4).elim
 · have hno:∀ c ∈ l,c.way ≠ i:=fun c hc e=>by
    obtain ⟨q1,q2⟩:=p4 c hc
    have hr:=(qu_.1 q1).2
    cases hm:c.more with
    | true=>rw [eT,hm,e] at q2;exact q2 rfl
    | false=>
      rw [eR,hm,e,show (ws.getD i Way.z) = at_ ws i from rfl] at hr
      simp only [Bool.false_eq_true,if_false] at hr
      omega
   have hlv:(⟨i,true⟩:Cg) ∈ qM_ ws ws.length:=qu_.2 ⟨hi,by
    show (0:Int) < (at_ ws i).hi - (at_ ws i).goes
    have h1:=hx.lim i (by rw [← hS.len];exact hi)
    have h2:=hx.need i (by rw [← hS.len];exact hi)
    have h3:=hS.at i
    omega⟩
   have hch:Chn ws (l ++ [⟨i,true⟩]) (at_ ws i).f (at_ ws i).f:=p3.app ⟨rfl,rfl⟩
   have hon:Once (l ++ [⟨i,true⟩]):=List.pairwise_append.2 ⟨p5,List.pairwise_cons.2 ⟨by simp,List.Pairwise.nil⟩,fun c hc d hd=>by rw [List.mem_singleton.1 hd];exact hno c hc⟩
   have hli:∀ c ∈ l ++ [⟨i,true⟩],c ∈ qM_ ws ws.length:=fun c hc=>by
    rcases List.mem_append.1 hc with e | e
    · exact (p4 c e).1
    · rw [List.mem_singleton.1 e];exact hlv
   obtain ⟨m1,m2,m3,m4,m5,m6,_⟩:=make_flow (m:=(at_ ws i).lo - (at_ ws i).goes) hF hli hon hch (by omega)
   have hd:dls (l ++ [⟨i,true⟩]) i = 1:=by
    have:∀ (l k:List Cg),dls (l ++ k) i = dls l i + dls k i:=fun l k=>by rw [dls,List.foldl_append,dls_acc];rfl
    rw [this,dls_no hno]
    simp [dls,dl]
   have hg:=m5 i hi
   rw [hd,Int.mul_one] at hg
   exact ⟨l,met,p1,p2,p6,fun c hc=>(qu_.1 (hli c hc)).1,m1,m2,by omega,m6⟩
theorem cheap_step {ws:List Way} (hF:Fit ws) (hc:∀ i,i < ws.length→0 ≤ (at_ ws i).cost) (hl:¬ (cAll ws).last < 0) :
 ∃ l,cycle ws (cAll ws) = some l∧l ≠ []∧l.length ≤ 13∧(∀ c ∈ l,c.way < ws.length)∧Fit (kP_ ws l 1000000)∧z6_ ws (kP_ ws l 1000000)∧costW (kP_ ws l 1000000) < costW ws∧0 ≤ costW (kP_ ws l 1000000):=by
 obtain ⟨l,a,c1,c2,c3,c4,c5,c6,c7⟩:=cycle_ok hF.toFlow (by omega)
 obtain ⟨m1,m2,m3,m4,m5,m6,m7⟩:=make_flow (m:=1000000) hF.toFlow c5 c6 c4 (by omega)
 have hF':Fit (kP_ ws l 1000000):=⟨m1,fun i hi=>by
  have hi':i < ws.length:=by rw [m2.len];exact hi
  rw [← (m2.at i).2.2.1];exact m6 i hi' (hF.need i hi')⟩
 have hc':∀ i,i < (kP_ ws l 1000000).length→0 ≤ (at_ (kP_ ws l 1000000) i).cost:=fun i hi=>by
  rw [← (m2.at i).2.2.2.2];exact hc i (by rw [m2.len];exact hi)
 have hdec:mMost ws l 1000000 * cs ws l < 0:=Int.mul_neg_of_pos_of_neg m3 c7
 exact ⟨l,c1,c2,c3,fun c hc=>(qu_.1 (c5 c hc)).1,hF',m2,by omega,costW_nn m1 hc'⟩
theorem wb_ {ws xs:List Way} (hF:Fit ws) (hl:(cAll ws).last < 0) (hS:z6_ ws xs) (hx:Fit xs):costW ws ≤ costW xs:=by
 obtain ⟨τ,L,N,hJ⟩:=cAll_ok hF.toFlow
 exact opt hF hS hx (fr (cAll ws)) fun c h=>hJ.no hl c h
end Go.Proofs.LS