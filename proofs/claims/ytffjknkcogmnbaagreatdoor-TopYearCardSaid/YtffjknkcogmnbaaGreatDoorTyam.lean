/- Parts of the proof of a law of layer 11 (file): LfYaj, LfYak, LsStep, LfYal. The conditions stand in each theorem. -/
import Derived.Lib.AtoiAll
import Derived.Lib.ItoaMem
import Derived.Lib.SliceRun
import Derived.Shelf.SlSortCmp.NoneTotal
import Derived.Shelf.SlSortCmp.Whole1
import Derived.Shelf.Spec.SlicesGrow
import Derived.Test.YtffjknkcogmnbaaGreatDoorProg
import Derived.Test.YtffjknkcogmnbaaGreatDoorTyaa
import Derived.Test.YtffjknkcogmnbaaGreatDoorTyac
import Derived.Test.YtffjknkcogmnbaaGreatDoorTyae
import Derived.Test.YtffjknkcogmnbaaGreatDoorTyah
import Derived.Test.YtffjknkcogmnbaaGreatDoorTyai
import Derived.Test.YtffjknkcogmnbaaGreatDoorTyak
import Derived.Test.YtffjknkcogmnbaaGreatDoorTyal
set_option linter.all false
set_option linter.unusedVariables false
set_option linter.unusedSimpArgs false
set_option linter.all false
set_option linter.unusedVariables false
set_option linter.unusedSimpArgs false
namespace Go.Proofs.LF
def rfd (l:List Fl) (p:List Ky):Option Fl:=l.find? fun x=>decide (x.p = p)
theorem xW_ {lt:Nat→Bool} {m J:Nat} (h1:∀ k,k < m→lt k = true) (h2:∀ k,m ≤ k→k < J→lt k = false):∀ (n i j:Nat),j - i ≤ n→i ≤ m→m ≤ j→j ≤ J→bsF lt i j = m
 | 0,i,j,h,hi,hj,_=>by rw [kq_ (by omega)];omega
 | n + 1,i,j,h,hi,hj,hJ=>by
   by_cases hij:i < j
   · rw [bsF_go hij]
     by_cases hm:(i + j) / 2 < m
     · rw [if_pos (h1 _ hm)];exact xW_ h1 h2 n _ _ (by omega) (by omega) hj hJ
     · rw [if_neg (by rw [h2 _ (by omega) (by omega)];simp)];exact xW_ h1 h2 n _ _ (by omega) hi (by omega) (by omega)
   · rw [kq_ hij];omega
theorem ja_ {p:List Ky}:∀ {l:List Fl},Srt l→∃ A B,l = A ++ B∧(∀ x ∈ A,cmpP x.p p < 0)∧∀ x ∈ B,0 ≤ cmpP x.p p
 | [],_=>⟨[],[],rfl,by simp,by simp⟩
 | x :: l,h=>by
   obtain ⟨h1,h2⟩:=List.pairwise_cons.1 h
   by_cases hx:cmpP x.p p < 0
   · obtain ⟨A,B,rfl,hA,hB⟩:=ja_ (p:=p) h2
     refine ⟨x :: A,B,rfl,fun y hy=>?_,hB⟩
     rcases List.mem_cons.1 hy with rfl | hy
     · exact hx
     · exact hA y hy
   · refine ⟨[],x :: l,rfl,by simp,fun y hy=>?_⟩
     rcases List.mem_cons.1 hy with rfl | hy
     · omega
     · have:=h1 y hy
       rcases Int.lt_or_le (cmpP y.p p) 0 with h' | h'
       · have:=cmpP_ord.trans this h';omega
       · exact h'
theorem k8_ {l:List Fl} (h:Srt l) (p:List Ky):fnd l p = rfd l p:=by
 obtain ⟨A,B,rfl,hA,hB⟩:=ja_ (p:=p) h
 have hm:fndI (A ++ B) p = A.length:=by
  unfold fndI
  refine xW_ (J:=(A ++ B).length) (fun k hk=>?_) (fun k hk hJ=>?_) _ _ _ (nl_ _) (Nat.zero_le _) (by simp) (nl_ _)
  · rw [decide_eq_true_eq,List.getD_eq_getElem?_getD,List.getElem?_append_left hk,List.getElem?_eq_getElem hk]
    exact hA _ (List.getElem_mem hk)
  · rw [List.length_append] at hJ
    rw [decide_eq_false_iff_not,List.getD_eq_getElem?_getD,List.getElem?_append_right hk,List.getElem?_eq_getElem (by omega)]
    have:=hB _ (List.getElem_mem (show k - A.length < B.length by omega))
    simp only [Option.getD_some];omega
 have hf:rfd (A ++ B) p = rfd B p:=by
  unfold rfd
  rw [List.find?_append,show A.find? (fun x=>decide (x.p = p)) = none from List.find?_eq_none.2 fun x hx=>by
   have:=hA x hx
   simp only [decide_eq_true_eq]
   intro e;rw [e,cmpP_ord.refl] at this;omega]
  rfl
 rw [hf,fnd,hm,List.getElem?_append_right (nl_ _),Nat.sub_self]
 have hsB:Srt B:=(List.pairwise_append.1 h).2.1
 cases B with
 | nil=>rfl
 | cons x B=>
   simp only [List.getElem?_cons_zero,rfd]
   by_cases hx:cmpP x.p p = 0
   · rw [if_pos hx,List.find?_cons_of_pos (by simpa using cmpP_ord.eq hx)]
   · have hne:x.p ≠ p:=fun e=>hx (by rw [e,cmpP_ord.refl])
     rw [if_neg hx,List.find?_cons_of_neg (by simpa using hne)]
     symm
     rw [List.find?_eq_none]
     intro y hy
     have h1:=(List.pairwise_cons.1 hsB).1 y hy
     have h2:=hB x (by simp)
     simp only [decide_eq_true_eq]
     intro e
     rw [e] at h1
     omega
theorem z8_ {l:List Fl} {p:List Ky} {x:Fl} (h:rfd l p = some x):x ∈ l∧x.p = p:=⟨List.mem_of_find?_eq_some h,by have:=List.find?_some h;simpa using this⟩
theorem rfd_iff {l:List Fl} {p:List Ky}:(rfd l p).isSome = true ↔ p ∈ l.map Fl.p:=by
 unfold rfd
 rw [List.find?_isSome]
 simp
def eqR (a b:List Fl) (p:List Ky):Bool:=match rfd a p,rfd b p with | some x,some y=>decide (x.l = y.l) | none,none=>true | _,_=>false
theorem xP_ {a b:List Fl} (ha:Srt a) (hb:Srt b) (p:List Ky):smF a b p = eqR a b p:=by
 rw [smF,eqR,k8_ ha,k8_ hb]
 cases rfd a p <;> cases rfd b p <;> rfl
def SrtP (l:List (List Ky)):Prop:=l.Pairwise (fun a b=>cmpP a b < 0)
theorem kB_ {l:List (List Ky)} (h:l.Nodup):SrtP (srtP l):=by
 have h1:=srtP_sorted l
 have h2:(srtP l).Nodup:=(srtP_perm l).nodup_iff.2 h
 unfold SrtP
 refine (List.Pairwise.and h1 h2).imp fun {a b} ⟨hab,hne⟩=>?_
 rcases Int.lt_or_eq_of_le hab with h' | h'
 · exact h'
 · exact absurd (cmpP_ord.eq h') hne
theorem j2_ {l:List (List Ky)} {p:List Ky}:p ∈ srtP l ↔ p ∈ l:=(srtP_perm l).mem_iff
def GoodK (k:Ky):Prop:=(∀ c ∈ k.n,qV_ c = true)∧0 ≤ k.x∧(k.h = false→k.x = 0)
def GoodP (p:List Ky):Prop:=∀ k ∈ p,GoodK k
theorem pths_spec {ls:List (List Fl)} (h:∀ l ∈ ls,∀ x ∈ l,GoodP x.p):SrtP (pthsF ls)∧∀ p,p ∈ pthsF ls ↔ ∃ l ∈ ls,p ∈ l.map Fl.p:=by
 have hg:∀ p ∈ ls.flatten.map Fl.p,GoodP p:=fun p hp=>by
  obtain ⟨x,hx,rfl⟩:=List.mem_map.1 hp
  obtain ⟨l,hl,hxl⟩:=List.mem_flatten.1 hx
  exact h l hl x hxl
 obtain ⟨h1,h2⟩:=ddP_spec (acc:=[]) (by simp) hg List.nodup_nil
 refine ⟨kB_ h1,fun p=>?_⟩
 rw [pthsF,j2_,h2 p]
 simp only [List.not_mem_nil,false_or,List.mem_map,List.mem_flatten]
 constructor
 · rintro ⟨x,⟨l,hl,hx⟩,rfl⟩;exact ⟨l,hl,x,hx,rfl⟩
 · rintro ⟨l,hl,x,hx,rfl⟩;exact ⟨x,⟨l,hl,hx⟩,rfl⟩
def clB (o a b:List Fl) (p:List Ky):Bool:=!eqR a b p && !eqR o a p && !eqR o b p
def frR (o a b:List Fl) (p:List Ky):Option Fl:=if clB o a b p then rfd o p else if eqR o a p then rfd b p else rfd a p
theorem vB_ {a b:List Fl} {p:List Ky} (h:eqR a b p = true):rfd a p = rfd b p:=by
 unfold eqR at h
 cases ha:rfd a p with
 | none=>cases hb:rfd b p with
   | none=>rfl
   | some y=>rw [ha,hb] at h;cases h
 | some x=>cases hb:rfd b p with
   | none=>rw [ha,hb] at h;cases h
   | some y=>
     rw [ha,hb] at h
     have h1:=z8_ ha
     have h2:=z8_ hb
     have h3:x.l = y.l:=by simpa using h
     cases x;cases y;simp_all
theorem jl_ {o a b:List Fl} (ho:Srt o) (ha:Srt a) (hb:Srt b):∀ (ps:List (List Ky)) (all:List Fl) (con:List (List Ky)),
 jnF o a b all con ps = (all ++ ps.filterMap (frR o a b),con ++ ps.filter (clB o a b))
 | [],all,con=>by simp [jnF]
 | p :: ps,all,con=>by
   simp only [jnF,xP_ ha hb,xP_ ho hb,xP_ ho ha]
   by_cases h1:eqR a b p = true ∨ eqR o b p = true
   · have hc:clB o a b p = false:=by
      unfold clB
      rcases h1 with h | h <;> simp [h]
     have hf:frR o a b p = rfd a p:=by
      rw [frR,hc,if_neg (by simp)]
      by_cases h2:eqR o a p = true
      · rw [if_pos h2]
        rcases h1 with h | h
        · exact (vB_ h).symm
        · exact ((vB_ h).symm.trans (vB_ h2))
      · rw [if_neg h2]
     rw [if_pos h1]
     simp only
     rw [jl_ ho ha hb ps,k8_ ha,List.filterMap_cons,List.filter_cons,hf,hc]
     cases rfd a p <;> simp
   · rw [if_neg h1]
     simp only [not_or,Bool.not_eq_true] at h1
     by_cases h2:eqR o a p = true
     · have hc:clB o a b p = false:=by simp [clB,h2]
       have hf:frR o a b p = rfd b p:=by rw [frR,hc,if_neg (by simp),if_pos h2]
       rw [if_pos h2]
       simp only
       rw [jl_ ho ha hb ps,k8_ hb,List.filterMap_cons,List.filter_cons,hf,hc]
       cases rfd b p <;> simp
     · have hc:clB o a b p = true:=by
        have h2':eqR o a p = false:=by simpa using h2
        simp [clB,h1.1,h1.2,h2']
       have hf:frR o a b p = rfd o p:=by rw [frR,hc,if_pos rfl]
       rw [if_neg h2]
       simp only
       rw [jl_ ho ha hb ps,k8_ ho,List.filterMap_cons,List.filter_cons,hf,hc]
       cases rfd o p <;> simp
def jnR (o a b:List Fl):List (List Ky)→List Fl→List (List Ky)→List Fl × List (List Ky)
 | [],kept,named=>(kept,named)
 | p :: ps,kept,named=>
   match frR o a b p with
   | none=>jnR o a b ps kept (if clB o a b p then named ++ [p] else named)
   | some x=>
     if 1 < p.length∧(rfd kept p.dropLast).isNone then jnR o a b ps kept (named ++ [p])
     else jnR o a b ps (kept ++ [x]) (if clB o a b p then named ++ [p] else named)
theorem frR_p {o a b:List Fl} {p:List Ky} {x:Fl} (h:frR o a b p = some x):x.p = p∧(x ∈ o ∨ x ∈ a ∨ x ∈ b):=by
 unfold frR at h
 split at h
 · exact ⟨(z8_ h).2, .inl (z8_ h).1⟩
 · split at h
   · exact ⟨(z8_ h).2, .inr (.inr (z8_ h).1)⟩
   · exact ⟨(z8_ h).2, .inr (.inl (z8_ h).1)⟩
theorem jn_ls {o a b:List Fl}:∀ (ps:List (List Ky)) (kept:List Fl) (named out:List (List Ky)),SrtP ps→(∀ p ∈ ps,p ≠ [])→Srt kept→Clo kept→(∀ x ∈ kept,∀ p ∈ ps,cmpP x.p p < 0) →
 (jnR o a b ps kept named).1 = (lsF kept out (ps.filterMap (frR o a b))).1∧Srt (jnR o a b ps kept named).1∧Clo (jnR o a b ps kept named).1∧(∀ x ∈ (jnR o a b ps kept named).1,x ∈ kept ∨ x ∈ o ∨ x ∈ a ∨ x ∈ b) ∧
 ∃ nm oo,(jnR o a b ps kept named).2 = named ++ nm∧(lsF kept out (ps.filterMap (frR o a b))).2 = out ++ oo∧nm.Sublist ps∧oo.Sublist ps∧∀ p,p ∈ nm ↔ p ∈ ps.filter (clB o a b) ∨ p ∈ oo
 | [],kept,named,out,_,_,hk,hcl,_=>⟨rfl,hk,hcl,fun x hx => .inl hx,[],[],by simp [jnR],by simp [lsF],by simp,by simp,by simp⟩
 | p :: ps,kept,named,out,hs,hne,hk,hcl,hkp=>by
   obtain ⟨s1,s2⟩:=List.pairwise_cons.1 hs
   have hne':∀ q ∈ ps,q ≠ []:=fun q hq=>hne q (by simp [hq])
   have hkp':∀ x ∈ kept,∀ q ∈ ps,cmpP x.p q < 0:=fun x hx q hq=>hkp x hx q (by simp [hq])
   simp only [jnR,List.filterMap_cons]
   cases hf:frR o a b p with
   | none=>
     simp only
     obtain ⟨i1,i2,i3,i4,nm,oo,i5,i6,i7,i8,i9⟩:=jn_ls ps kept (if clB o a b p then named ++ [p] else named) out s2 hne' hk hcl hkp'
     refine ⟨i1,i2,i3,i4,(if clB o a b p then [p] else []) ++ nm,oo,?_,i6,?_,i8.cons _,fun q=>?_⟩
     · rw [i5];split <;> simp
     · split
       · exact i7.cons_cons _
       · exact i7.cons _
     · rw [List.filter_cons,List.mem_append,i9 q]
       split <;> simp [or_assoc]
   | some x=>
     obtain ⟨hxp,hxm⟩:=frR_p hf
     simp only [lsF,hxp,k8_ hk]
     have hpl:0 < p.length:=List.length_pos_iff.2 (hne p (by simp))
     by_cases hl:1 < p.length∧(rfd kept p.dropLast).isNone
     · have hl':¬ ((rfd kept p.dropLast).isSome = true ∨ p.length = 1):=by
        rintro (h | h)
        · rw [Option.isNone_iff_eq_none.1 hl.2] at h;cases h
        · omega
       rw [if_pos hl,if_neg hl']
       obtain ⟨i1,i2,i3,i4,nm,oo,i5,i6,i7,i8,i9⟩:=jn_ls ps kept (named ++ [p]) (out ++ [p]) s2 hne' hk hcl hkp'
       refine ⟨i1,i2,i3,i4,p :: nm,p :: oo,by rw [i5];simp,by rw [i6];simp,i7.cons_cons _,i8.cons_cons _,fun q=>?_⟩
       rw [List.filter_cons,List.mem_cons,i9 q,List.mem_cons]
       split
       · simp only [List.mem_cons]
         constructor
         · rintro (h | h | h) <;> simp [h]
         · rintro ((h | h) | h | h) <;> simp [h]
       · constructor
         · rintro (h | h | h) <;> simp [h]
         · rintro (h | h | h) <;> simp [h]
     · have hl':(rfd kept p.dropLast).isSome = true ∨ p.length = 1:=by
        by_cases h1:1 < p.length
        · refine .inl ?_
          cases hq:rfd kept p.dropLast with
          | none=>exact absurd ⟨h1,by rw [hq];rfl⟩ hl
          | some z=>rfl
        · exact .inr (by omega)
       rw [if_neg hl,if_pos hl']
       have hk2:Srt (kept ++ [x]):=by
        unfold Srt
        rw [List.pairwise_append]
        exact ⟨hk,by simp,fun c hc d hd=>by
         obtain rfl:d = x:=by simpa using hd
         rw [hxp];exact hkp c hc p (by simp)⟩
       have hcl2:Clo (kept ++ [x]):=fun z hz hzne=>by
        rcases List.mem_append.1 hz with hz | hz
        · obtain ⟨y,hy,hyp⟩:=hcl z hz hzne
          exact ⟨y,by simp [hy],hyp⟩
        · obtain rfl:z = x:=by simpa using hz
          rw [hxp] at hzne ⊢
          rcases hl' with h | h
          · obtain ⟨y,hy,hyp⟩:=List.mem_map.1 (rfd_iff.1 h)
            exact ⟨y,by simp [hy],hyp⟩
          · exfalso;apply hzne
            rw [← List.length_eq_zero_iff,List.length_dropLast];omega
       obtain ⟨i1,i2,i3,i4,nm,oo,i5,i6,i7,i8,i9⟩:=jn_ls ps (kept ++ [x]) (if clB o a b p then named ++ [p] else named) out s2 hne' hk2 hcl2 (fun c hc q hq=>by
        rcases List.mem_append.1 hc with hc | hc
        · exact hkp' c hc q hq
        · obtain rfl:c = x:=by simpa using hc
          rw [hxp];exact s1 q hq)
       refine ⟨i1,i2,i3,fun z hz=>?_,(if clB o a b p then [p] else []) ++ nm,oo,?_,i6,?_,i8.cons _,fun q=>?_⟩
       · rcases i4 z hz with h | h
         · rcases List.mem_append.1 h with h | h
           · exact .inl h
           · obtain rfl:z = x:=by simpa using h
             exact .inr hxm
         · exact .inr h
       · rw [i5];split <;> simp
       · split
         · exact i7.cons_cons _
         · exact i7.cons _
       · rw [List.filter_cons,List.mem_append,i9 q]
         split <;> simp [or_assoc]
theorem SrtP.nodup {l:List (List Ky)} (h:SrtP l):l.Nodup:=h.imp fun {a b} hab e=>by rw [e,cmpP_ord.refl] at hab;omega
theorem join_eq {o a b:List Fl} (ho:Srt o) (ha:Srt a) (hb:Srt b) (hg:∀ l ∈ [o,a,b],∀ x ∈ l,GoodP x.p∧x.p ≠ []) :
 let J:=jnF o a b [] [] (pthsF [o,a,b])
 let K:=lsF [] [] J.1
 jnR o a b (pthsF [o,a,b]) [] [] = (K.1,srtP (cnF J.2 K.2))∧Srt K.1∧Clo K.1∧∀ x ∈ K.1,x ∈ o ∨ x ∈ a ∨ x ∈ b:=by
 intro J K
 obtain ⟨h5,h6⟩:=pths_spec (fun l hl x hx=>(hg l hl x hx).1)
 have hne:∀ p ∈ pthsF [o,a,b],p ≠ []:=fun p hp=>by
  obtain ⟨l,hl,hp⟩:=(h6 p).1 hp
  obtain ⟨x,hx,rfl⟩:=List.mem_map.1 hp
  exact (hg l hl x hx).2
 have hJ:J = ([] ++ (pthsF [o,a,b]).filterMap (frR o a b),[] ++ (pthsF [o,a,b]).filter (clB o a b)):=jl_ ho ha hb _ _ _
 simp only [List.nil_append] at hJ
 obtain ⟨i1,i2,i3,i4,nm,oo,i5,i6,i7,i8,i9⟩:=jn_ls (o:=o) (a:=a) (b:=b) (pthsF [o,a,b]) [] [] [] h5 hne List.Pairwise.nil (fun x hx=>by cases hx) (fun x hx=>by cases hx)
 have hK:K = lsF [] [] ((pthsF [o,a,b]).filterMap (frR o a b)):=by show lsF [] [] J.1 = _;rw [hJ]
 rw [← hK] at i1 i6
 simp only [List.nil_append] at i5 i6
 rw [i1] at i2 i3 i4
 refine ⟨?_,i2,i3,fun x hx=>by rcases i4 x hx with h | h;cases h;exact h⟩
 have hnm:nm = srtP (cnF J.2 K.2):=by
  have hJ2:J.2 = (pthsF [o,a,b]).filter (clB o a b):=by rw [hJ]
  have hcn:J.2.Nodup:=by rw [hJ2];exact h5.nodup.sublist List.filter_sublist
  obtain ⟨c1,c2⟩:=cnF_spec (out:=K.2) hcn
  refine srtP_ext (h5.sublist i7) (kB_ c1) fun p=>?_
  rw [i9 p,j2_,c2 p,hJ2,i6]
 rw [← hnm,← i1,← i5]
end Go.Proofs.LF
set_option linter.all false
set_option linter.unusedVariables false
set_option linter.unusedSimpArgs false
namespace Go.Proofs.LF
open Go.RowKit
set_option maxRecDepth 100000
theorem cells5:Tryz.prog.cellsOf 5 = 1:=by kernel_rfl
section
variable {H:Type} {enc:TypeId × Value→H} {W:World}
theorem read_bytes {fuel:Nat} {v:Value} {x:DataW H × List MemPlace} (h:DataW.trod enc Tryz.prog W 0 (fun _=>true) true fuel 22 [v] = some x):∃ l,Byt (fun b=>b < W.heap.size) W v l:=by
 rcases Go.ChangeShapes.open_ints Tryz.underlying22 Tryz.underlying5 cells5 h with ⟨hc,_⟩ | ⟨a,len,cap,zs,hc,_,hl,hm,hz,_,hcell,_⟩
 · obtain rfl:v = _:=by simpa using hc
   exact ⟨[],rfl,none,0,rfl,nl_ _,by simp [maxLen],fun _=>rfl, .inl rfl⟩
 · obtain rfl:v = _:=by simpa using hc
   simp only [if_true] at hz
   have hlen:(zs.take len).length = len:=by rw [List.length_take];omega
   refine ⟨zs.take len,?_⟩
   unfold Byt
   rw [hlen]
   refine ⟨by simp;omega,some a,cap,rfl,hl,hm,(fun h=>by cases h),?_⟩
   by_cases h0:len = 0
   · exact .inl h0
   · have hs:=jL_ (hcell 0 (by omega))
     have h1:=hs.1
     have hadd0:(a.add 0) = a:=rfl
     rw [hadd0] at hs
     refine .inr ⟨a.block,a.off,by cases a;simp only at hs;rw [hs.1],hs.2,fun j u hj=>?_⟩
     simp only [List.getElem?_map,Option.map_eq_some_iff,List.getElem?_take] at hj
     obtain ⟨z,hz',rfl⟩:=hj
     split at hz'
     · have hj':=(List.getElem?_eq_some_iff.1 hz').1
       have:=hcell j hj'
       rw [add_plain a hs.1] at this
       rw [this,List.getD_eq_getElem?_getD,hz'];rfl
     · cases hz'
end
end Go.Proofs.LF
namespace Go.Proofs.LF
open Go.RowKit Go.Sort
set_option maxHeartbeats 4000000
set_option maxRecDepth 100000
attribute [local go_sem] q1_ q3_ qa_
theorem Tryz.info71':(Tryz.prog.info? 96).map (fun i=>(i.zero,i.size,i.bytes)) = some (some (.agg #[.string ByteArray.empty, .bool false, .int .i64 0]),3,32):=by kernel_rfl
theorem k6_ (p:List Ky) (a:Option Addr) (c:Nat) (S:Nat→Prop) (w:World) (hv:Pth S w (.slice a p.length c) p) (hS:∀ b,S b→b < w.heap.size) (hlen:p.length ≤ 1000) :
 Calls Tryz.prog 31 #[.slice a p.length c] w fun e w'=>∃ a' c',e = .returned (.slice a' p.length c')∧Pth (Rg w.heap.size w'.heap.size) w' (.slice a' p.length c') p∧Below w.heap.size w w':=by
 obtain ⟨j0,hj0,hy0,hy1,hy2⟩:=info_parts Tryz.info71'
 have hcaps:=SlC.caps hv
 have hlk:=zo_ p
 have q65:∀ (w:World) (a:Option Addr) (n c:Nat),(binOp .eql 92 (.slice a n c) (.slice none 0 0)).run Tryz.prog w = .ok (.bool a.isNone) w:=fun w a n c=>Lib.run_eql_slice_nil w 92 96 a n c 0 0 Tryz.underlying92
 cases a with
 | none=>
   obtain ⟨h0,rfl⟩:=hcaps.2.2 rfl
   obtain rfl:p = []:=List.eq_nil_of_length_eq_zero h0
   simp only [List.length_nil]
   go_enter Tryz.func31,Tryz.ntmps31
   go_wp2_with fail
   go_ret
   exact ⟨none,0,rfl,⟨rfl,none,0,rfl,nl_ _,by simp [maxLen],fun _=>rfl, .inl rfl⟩,Below.refl _ _⟩
 | some ad=>
   have hbel:Below w.heap.size w (w.alloc (.cells #[] 96)):=(Below.refl _ _).alloc (nl_ _) _
   have hnews:=SlC.news hv (qd_ hbel hS)
   have how:(w.alloc (.cells #[] 96)).ownsRow w.heap.size 96 3 (.slice (some ⟨w.heap.size,0,none⟩) 0 0) 0 []:=qr_ (n:=0) (cap:=0) (cur:=#[]) (nl_ _) (ha_ _ _) (by omega) (by unfold maxLen;omega) (by simp) (by simp)
   have HB:=hid hbel
   clear hbel hv
   go_enter Tryz.func31,Tryz.ntmps31
   go_wp2_with (at_builtin;go_loud (refine qb_ _ rfl _ _ _ rfl w.heap.size 96 j0 _ 3 32 Tryz.underlying92 hj0 hy0 hy1 hy2 rfl (by omega) _ 0 [] rfl how (some ad) p.length c _ rfl hlk (fun h=>by cases h) hnews (jv_ p) (by unfold maxLen;omega) (by omega) (by simp) ?_);intro a1 c1 w1 hown1 hgrow1 hat1)
   simp only [Nat.zero_add,List.nil_append] at hown1
   go_ret
   refine ⟨a1,c1,by simp,SlC.of_owns hown1,HB.out.grown hgrow1 (by simp) (fun b hb=>by cases hb;exact nl_ _)⟩
theorem Atoi_any (s:List UInt8) (n:Nat) (w:World) (hs:s.length ≤ 1000) (h:Lib.atoiAll s = .ok (n:Int)) :
 Calls Tryz.prog 100 #[.string (bs s)] w fun e w'=>e = .returned (.tuple #[.int .i64 (n:Int), .nilIface])∧Below w.heap.size w w':=by
 refine (Tryz.strconv_Atoi_ok (bs s) (by rw [q3_];omega) (n:Int) (by rw [vC_];exact h) w).mono ?_
 rintro e w' ⟨rfl,rfl | ⟨t,rfl⟩⟩
 · exact ⟨rfl,Below.refl _ _⟩
 · refine ⟨rfl,?_⟩
   exact Lib.bytesWorld_below w 5 t
end Go.Proofs.LF
namespace Go.Proofs
theorem Tryz.laysGrow:Go.Proofs.Lays8.n4 Tryz.prog Tryz.laysGrow_ren:={
 mixed:=by kernel_rfl
 f4:=⟨Tryz.f125.name,by decide,Tryz.func125.trans (congrArg some (by kernel_rfl))⟩
 t0:=Tryz.underlying0
 a0:=Tryz.isAgg0
 z0:=Tryz.sizeOf0
 v0:=Tryz.zeroValue0
 t3:=Tryz.underlying3
 a3:=Tryz.isAgg3
 z3:=Tryz.sizeOf3
 v3:=Tryz.zeroValue3
 t4:=Tryz.underlying4
 a4:=Tryz.isAgg4
 z4:=Tryz.sizeOf4
 v4:=Tryz.zeroValue4
 t9:=Tryz.underlying9
 a9:=Tryz.isAgg9
 z9:=Tryz.sizeOf9
 v9:=Tryz.zeroValue9
 t20:=Tryz.underlying20
 a20:=Tryz.isAgg20
 z20:=Tryz.sizeOf20
 v20:=Tryz.zeroValue20
 t22:=Tryz.underlying90
 a22:=Tryz.isAgg90
 z22:=Tryz.sizeOf90
 v22:=Tryz.zeroValue90 }
namespace LF
open Go.RowKit Go.Sort
set_option maxHeartbeats 4000000
set_option maxRecDepth 100000
attribute [local go_sem] q1_ q3_ qa_
theorem xA_ (n:Nat) (w:World) (hn:n ≤ 1000000):Calls Tryz.prog 125 #[.slice none 0 0, .int .i64 n] w fun e w'=>∃ v,e = .returned v∧w'.ownsRow w.heap.size 98 2 v 0 []∧Below w.heap.size w w':=by
 by_cases h0:n = 0
 · subst h0
   refine (Any8.slices_Grow_room Tryz.laysGrow none 0 0 0 w (Nat.le_refl _) (by omega) (by omega) (by omega)).mono ?_
   rintro e w' ⟨rfl,rfl⟩
   exact ⟨_,rfl,World.ownsRow_nil _ _ _ _,Below.refl _ _⟩
 · obtain ⟨i0,hi0,hz0,hz1,hz2⟩:=info_parts Tryz.info171''
   refine (Any8.slices_Grow_grow Tryz.laysGrow i0 _ hi0 hz0 (by rw [hz1];omega) none 0 0 n [] w (Nat.le_refl _) (by omega) (by rw [hz2];omega) (by omega) (by simp) (fun _=>rfl) (fun a h=>by cases h)).mono ?_
   rintro e w' ⟨rfl,rfl⟩
   refine ⟨_,rfl,?_,((Below.refl w.heap.size w).drew).alloc (Nat.le_refl _) _⟩
   have hge:=grownCap_ge w (0 + n) 0 98
   have hle:=grownCap_le_maxLen w (0 + n) 0 98 (by unfold maxLen;omega)
   exact qr_ (g:=w.heap.size) (cap:=grownCap w (0 + n) 0 98) (Nat.le_refl _) (ha_ w.drew _) (Nat.zero_le _) hle (by have e25:Tryz.laysGrow_ren.t 25 = 98:=rfl;simp only [Nat.zero_add] at hge hle;simp [Builtin.zeroCells,Value.cells,e25];omega) (by simp)
theorem yc_ (ls:List (List Fl)) (a:Option Addr) (c:Nat) (S:Nat→Prop) (w:World) (hv:LSl rdLs S w (.slice a ls.length c) ls) (hS:∀ b,S b→b < w.heap.size) (hl:ls.length ≤ 1000) (hn:(ls.map List.length).sum ≤ 100000) :
 Calls Tryz.prog 75 #[.slice a ls.length c] w fun e w'=>∃ a' c',e = .returned (.slice a' ls.flatten.length c')∧FlSl (fun b=>S b ∨ Rg w.heap.size w'.heap.size b) w' (.slice a' ls.flatten.length c') ls.flatten∧Below w.heap.size w w':=by
 obtain ⟨a',c',he,hc,hcm,hat⟩:=hv.at
 obtain ⟨rfl,rfl⟩:a = a'∧c = c':=by cases he;exact ⟨rfl,rfl⟩
 obtain ⟨i0,hi0,hz0,hz1,hz2⟩:=info_parts Tryz.info171''
 have HAT:=hid hat
 have HS:=hid hS
 have HN:=hid hn
 clear hat hS he hv hn
 unfold maxLen at hcm
 have hsum:∀ k,((ls.take k).map List.length).sum ≤ 100000:=fun k=>by
  have h1:=HN.out
  have:(ls.map List.length).sum = ((ls.take k).map List.length).sum + ((ls.drop k).map List.length).sum:=by
   rw [← List.sum_append,← List.map_append,List.take_append_drop]
  omega
 have HSUM:=hid hsum
 clear hsum
 go_enter Tryz.func75,Tryz.ntmps75
 go_wp2_with fail
 go_loopw [3,11] (fun sz i wr=>∃ k:Nat,k ≤ ls.length∧i = .int .i64 k∧sz = .int .i64 (((ls.take k).map List.length).sum:Nat)∧Below w.heap.size w wr) (fun _ i _=>ls.length - (intOf i).toNat)
 case atStart=>exact ⟨0,by omega,rfl,by simp,Below.refl _ _⟩
 case round=>
  obtain ⟨k,hk,rfl,rfl,hB⟩:=hrel
  have hsz:=hB.size
  have hs1:=HSUM.out k
  by_cases hlt:k < ls.length
  · have hlt':(k:Int) < (ls.length:Int):=by omega
    obtain ⟨g,o,cs1,rfl,hg,⟨ap,cp,rfl,hF⟩,hcell⟩:=HAT.out k hlt
    have c0:=(qd_ hB HS.out).cell hg (hcell 0 _ rfl)
    rw [Nat.mul_one,Nat.add_zero] at c0
    have hs2:=HSUM.out (k + 1)
    have hst:((ls.take (k + 1)).map List.length).sum = ((ls.take k).map List.length).sum + ls[k].length:=by
     rw [List.take_succ_eq_append_getElem hlt,List.map_append,List.sum_append];simp only [List.map_cons,List.map_nil,List.sum_cons,List.sum_nil,Nat.add_zero]
    obtain ⟨s1,hs⟩:∃ s,((ls.take k).map List.length).sum = s:=⟨_,rfl⟩
    rw [hs] at hst hs1 ⊢
    rw [hst] at hs2
    have hnn:¬ ((s1:Int) + (ls[k].length:Int) < 0):=by omega
    have HST:=hid hst
    clear hst hcell hs
    go_wp2_with fail
    go_roundw
    case rel=>exact ⟨k + 1,by omega,by go_num,by rw [HST.out];go_num,hB⟩
    case measure=>simp [intOf];omega
  · obtain rfl:k = ls.length:=by omega
    have hlt':¬ (ls.length:Int) < (ls.length:Int):=by omega
    rw [List.take_length] at *
    obtain ⟨s1,hs⟩:∃ s,(ls.map List.length).sum = s:=⟨_,rfl⟩
    rw [hs] at hs1 ⊢
    go_wp2_with fail
    refine (xA_ s1 wr (by omega)).mono ?_
    rintro e w1 ⟨v1,rfl,how1,hb1⟩
    have hB1:=hB.trans (hb1.mono hsz)
    have how1:w1.ownsRow w.heap.size 98 2 v1 0 []:=qC_ how1 (fun g hg=>by have:=(how1.lt g hg).1;omega)
    have HOW1:=hid how1
    have HB1:=hid hB1
    clear how1 hb1 hB1 hB
    go_wp2_with fail
    go_loopw [6,27] (fun v i wr=>∃ (k:Nat) (cs:List Value),k ≤ ls.length∧i = .int .i64 k∧wr.ownsRow w.heap.size 98 2 v (ls.take k).flatten.length cs∧LCs rdFl (fun b=>S b) wr (ls.take k).flatten cs∧Below w.heap.size w wr) (fun _ i _=>ls.length - (intOf i).toNat)
    case atStart=>exact ⟨0,[],by omega,rfl,by simpa using HOW1.out,rfl,HB1.out⟩
    case round=>
     obtain ⟨k,cs,hk,rfl,hown,hlc,hB⟩:=hrel
     have hsz2:=hB.size
     by_cases hlt:k < ls.length
     · have hlt':(k:Int) < (ls.length:Int):=by omega
       obtain ⟨g,o,cs1,rfl,hg,⟨ap,cp,rfl,hF⟩,hcell⟩:=HAT.out k hlt
       have c0:=(qd_ hB HS.out).cell hg (hcell 0 _ rfl)
       rw [Nat.mul_one,Nat.add_zero] at c0
       obtain ⟨ds,hd1,hd2⟩:=hF
       have hcap:=SlC.caps hd1
       have hnews:=SlC.news hd1 (qd_ hB HS.out)
       have hone:=hd2.one
       have hlen:=hd1.1
       have hfl:(ls.take k).flatten.length = ((ls.take k).map List.length).sum:=List.length_flatten
       have hfl2:(ls.take (k + 1)).flatten.length = (ls.take k).flatten.length + ls[k].length:=by
        rw [List.take_succ_eq_append_getElem hlt,List.flatten_append];simp
       have hs2:=HSUM.out (k + 1)
       rw [← List.length_flatten,hfl2] at hs2
       have HN2:=hid hnews
       have HD2:=hid (hd2.agree (qd_ hB HS.out))
       have HO:=hid hone
       have HL:=hid hlen
       have HFL:=hid hfl2
       have HLC:=hid hlc
       obtain ⟨q,hq⟩:∃ q,(ls.take k).flatten.length = q:=⟨_,rfl⟩
       rw [hq] at hown hs2
       have HQ:=hid hq
       have hcapn:ap = none→ls[k].length = 0∧cp = 0:=hcap.2.2
       have HCN:=hid hcapn
       clear hcell hd1 hd2 hnews hone hlen hfl hfl2 hlc hq hcap hcapn
       go_wp2_with (at_builtin;refine (qb_ _ rfl _ _ _ rfl w.heap.size 98 i0 _ 2 48 Tryz.underlying90 hi0 hz0 hz1 hz2 rfl (by omega) u6 q cs rfl hown ap ls[k].length cp ds rfl HL.out HCN.out HN2.out HO.out (by unfold maxLen;omega) (by omega) hsz2 ?_);intro a4 c4 w4 hown4 hgrow4 hat4)
       have hag:qh_ S wr w4:=fun b hb=>hgrow4.block b (by have:=HS.out b hb;omega) (fun e=>by have:=(hown.lt b e.symm).1;have:=HS.out b hb;omega)
       have hm:=(HLC.out.agree hag).app (HD2.out.agree hag)
       have hfe:(ls.take (k + 1)).flatten = (ls.take k).flatten ++ ls[k]:=by
        rw [List.take_succ_eq_append_getElem hlt,List.flatten_append];simp
       have hB4:=hB.grown hgrow4 hsz2 (fun k hk=>(hown.lt k hk).1)
       go_roundw
       case rel=>exact ⟨k + 1,cs ++ ds,by omega,by go_num,by rw [HFL.out,HQ.out];exact hown4,by rw [hfe];exact hm,hB4⟩
       case measure=>simp [intOf];omega
     · obtain rfl:k = ls.length:=by omega
       have hlt':¬ (ls.length:Int) < (ls.length:Int):=by omega
       rw [List.take_length] at hown hlc
       obtain ⟨a9,c9,rfl,_,_⟩:=owns_shape hown
       go_wp2_with fail
       go_ret
       have hq:ls.flatten.length = s1:=by rw [List.length_flatten,hs]
       exact ⟨a9,c9,by simp [hq],⟨cs,by have:=(SlC.of_owns hown).wide (S':=fun b=>S b ∨ Rg w.heap.size wr.heap.size b) (fun b hb=>Or.inr hb);simp only [hq] at this ⊢;exact this,hlc.wide (S':=fun b=>S b ∨ Rg w.heap.size wr.heap.size b) (fun b hb=>Or.inl hb)⟩,hB⟩
end LF
end Go.Proofs
namespace Go.Proofs.LF
open Go.RowKit
theorem Rdr.cV {R:Nat} {t:List UInt8} {i j:Nat} {vs:List Value} {v:Value} {w:World} (h:Rdr R t i vs w) (hj:vs[j]? = some v):w.cell? ⟨R,j + 2,none⟩ = some v:=by
 unfold Rdr at h
 simp only [World.cell?,h]
 simpa using hj
theorem Rdr.setV {R:Nat} {t:List UInt8} {i:Nat} {vs:List Value} {w:World} (h:Rdr R t i vs w) (j:Nat) (v:Value):Rdr R t i (vs.set j v) (w.setCell ⟨R,j + 2,none⟩ v):=by
 unfold Rdr at h ⊢
 simp [World.setCell,Array.getElem?_modify,h]
theorem Rdr.keep {R:Nat} {t:List UInt8} {i:Nat} {vs:List Value} {w w':World} {O:Nat→Prop} (h:Rdr R t i vs w) (hk:Keep O w w') (ho:¬ O R):Rdr R t i vs w':=(hk.block R h.lt ho).trans h
open Go.Lib
theorem xS_ {l:List UInt8} (h:∀ c ∈ l,zj_ c = true) (h0:l ≠ []) (h4:l.length ≤ 4):atoiAll l = .ok ((yg_ l:Nat):Int):=by
 cases l with
 | nil=>exact absurd rfl h0
 | cons c r=>
   have hc:48 ≤ c.toNat∧c.toNat ≤ 57:=by
    have:=h c (by simp)
    simp only [zj_,inB,Bool.and_eq_true,decide_eq_true_eq] at this;omega
   have hp:=parse_digits (c :: r) 0 0 h (by simp) (by simp at h4 ⊢;omega)
   have hm:parseMag (c :: r) = .ok (yg_ (c :: r)):=by simp only [parseMag,yg_];rw [if_neg (by simp),hp]
   have hb:yg_ (c :: r) < 10 ^ 8:=by
    have key:∀ (l:List UInt8) (acc n:Nat),(∀ c ∈ l,zj_ c = true)→acc < 10 ^ n→l.foldl (fun n c=>n * 10 + (c.toNat - 48)) acc < 10 ^ (n + l.length):=by
     intro l
     induction l with
     | nil=>intro acc n _ ha;simpa using ha
     | cons c r ih=>
       intro acc n h ha
       have hc:48 ≤ c.toNat∧c.toNat ≤ 57:=by
        have:=h c (by simp)
        simp only [zj_,inB,Bool.and_eq_true,decide_eq_true_eq] at this;omega
       have hn:acc * 10 + (c.toNat - 48) < 10 ^ (n + 1):=by rw [Nat.pow_succ];omega
       have:=ih _ (n + 1) (fun d hd=>h d (by simp [hd])) hn
       simp only [List.foldl_cons,List.length_cons]
       rwa [show n + (r.length + 1) = n + 1 + r.length by omega]
    have:=key (c :: r) 0 0 h (by simp)
    refine Nat.lt_of_lt_of_le this (Nat.pow_le_pow_right (by omega) (by simp at h4 ⊢;omega))
   have e8:(10:Nat) ^ 8 = 100000000:=rfl
   simp only [atoiAll]
   rw [if_neg (by omega),hm]
   simp only
   rw [if_neg (by omega),if_neg (by omega),if_neg (by omega)]
def vA_ (t:List UInt8):Nat→Nat→Nat→Nat→List Ky→List Fl→List Fl × Nat × Nat × Nat
 | 0,_,_,_,_,_=>([],0,0,0)
 | f + 1,i,ln,dp,ks,fs=>
   if i < t.length then
    if 60 ≤ ln then ([],ln,0,2)
    else
     let r:=rdLine dp (t.drop i)
     if r.2.2.2.2 = false then ([],ln,r.2.2.2.1,11)
     else
      let ks':=ks.set r.1 (qF_ r.2.1 r.2.2.1)
      let p:=ks'.take (r.1 + 1)
      if fs.any (fun x=>decide (0 ≤ cmpP x.p p)) then ([],ln,r.1,4)
      else vA_ t f (i + r.2.2.2.1 + 1) (ln + 1) (min (r.1 + 1) 3) ks' (fs ++ [⟨p,r.2.2.1⟩])
   else (fs,0,0,0)
def prs (t:List UInt8):List Fl × Nat × Nat × Nat:=vA_ t 62 0 0 0 [ky0,ky0,ky0,ky0] []
theorem rdLine_le (dp:Nat) (s:List UInt8):(rdLine dp s).1 ≤ dp∧(rdLine dp s).2.2.2.1 ≤ s.length∧(rdLine dp s).2.2.1.length ≤ 4∧(rdLine dp s).2.1.length ≤ 8∧((rdLine dp s).2.2.2.2 = true→(rdLine dp s).2.2.2.1 < s.length):=by
 have h1:=vF_ (p:=qt_) (m:=dp) (l:=s)
 have h2:=vF_ (p:=qV_) (m:=8) (l:=s.drop (qD_ qt_ dp s))
 have h3:=rdNums_le 4 ((s.drop (qD_ qt_ dp s)).drop (qD_ qV_ 8 (s.drop (qD_ qt_ dp s))))
 rw [List.length_drop] at h2
 simp only [List.drop_drop,List.length_drop] at h3
 simp only [rdLine]
 split
 · simp;omega
 · simp only [List.length_take,List.length_drop,Bool.and_eq_true,beq_iff_eq,List.drop_drop]
   refine ⟨by omega,by omega,h3.2,by omega,fun h=>?_⟩
   obtain ⟨_,h⟩:=h
   have h5:qD_ qt_ dp s + (qD_ qV_ 8 (s.drop (qD_ qt_ dp s)) + (rdNums 4 (s.drop (qD_ qt_ dp s + qD_ qV_ 8 (s.drop (qD_ qt_ dp s))))).2.1) < s.length:=by
    rcases Nat.lt_or_ge (qD_ qt_ dp s + (qD_ qV_ 8 (s.drop (qD_ qt_ dp s)) + (rdNums 4 (s.drop (qD_ qt_ dp s + qD_ qV_ 8 (s.drop (qD_ qt_ dp s))))).2.1)) s.length with h5 | h5
    · exact h5
    · rw [List.drop_eq_nil_of_le h5] at h;cases h
   omega
end Go.Proofs.LF
namespace Go.Proofs.LF
open Go.RowKit Go.Sort
set_option maxHeartbeats 4000000
set_option maxRecDepth 100000
attribute [local go_sem] q1_ q3_ qa_
end Go.Proofs.LF
namespace Go.Proofs.LS
theorem fill_step {xs:List Way} (hx:Fit xs) {i:Nat} {ws:List Way} (hF:Flow ws) (hS:qY_ ws xs) (hi:i < ws.length) (hlt:(at_ ws i).goes < (at_ ws i).lo) :
 ∃ l met,path ws (at_ ws i).t (at_ ws i).f = some (l,met)∧l ≠ []∧l.length ≤ 12∧(∀ c ∈ l ++ [⟨i,true⟩],c.way < ws.length)∧Flow (zP_ ws (l ++ [⟨i,true⟩]) ((at_ ws i).lo - (at_ ws i).goes))∧qY_ ws (zP_ ws (l ++ [⟨i,true⟩]) ((at_ ws i).lo - (at_ ws i).goes)) ∧
  (at_ ws i).goes < (at_ (zP_ ws (l ++ [⟨i,true⟩]) ((at_ ws i).lo - (at_ ws i).goes)) i).goes∧(∀ j,j < ws.length→(at_ ws j).lo ≤ (at_ ws j).goes→(at_ ws j).lo ≤ (at_ (zP_ ws (l ++ [⟨i,true⟩]) ((at_ ws i).lo - (at_ ws i).goes)) j).goes):=by
 obtain ⟨n1,n2,n3⟩:=hF.node i hi
 rcases xD_ (b:=(at_ ws i).f) hF n2 n3.symm with ⟨met,p1,_,p2,p3,p4⟩ | ⟨l,met,p1,_,p2,p6,p3,p4,p5⟩
 · exact (lack_no hF hS hx hi hlt (fun v=>met.getD v false) p2 p3 p4).elim
 · have hno:∀ c ∈ l,c.way ≠ i:=fun c hc e=>by
    obtain ⟨q1,q2⟩:=p4 c hc
    have hr:=(qo_.1 q1).2
    cases hm:c.more with
    | true=>rw [eT,hm,e] at q2;exact q2 rfl
    | false=>
      rw [eR,hm,e,show (ws.getD i Way.z) = at_ ws i from rfl] at hr
      simp only [Bool.false_eq_true,if_false] at hr
      omega
   have hlv:(⟨i,true⟩:Cg) ∈ qH_ ws ws.length:=qo_.2 ⟨hi,by
    show (0:Int) < (at_ ws i).hi - (at_ ws i).goes
    have h1:=hx.lim i (by rw [← hS.len];exact hi)
    have h2:=hx.need i (by rw [← hS.len];exact hi)
    have h3:=hS.at i
    omega⟩
   have hch:Chn ws (l ++ [⟨i,true⟩]) (at_ ws i).f (at_ ws i).f:=p3.app ⟨rfl,rfl⟩
   have hon:Once (l ++ [⟨i,true⟩]):=List.pairwise_append.2 ⟨p5,List.pairwise_cons.2 ⟨by simp,List.Pairwise.nil⟩,fun c hc d hd=>by rw [List.mem_singleton.1 hd];exact hno c hc⟩
   have hli:∀ c ∈ l ++ [⟨i,true⟩],c ∈ qH_ ws ws.length:=fun c hc=>by
    rcases List.mem_append.1 hc with e | e
    · exact (p4 c e).1
    · rw [List.mem_singleton.1 e];exact hlv
   obtain ⟨m1,m2,m3,m4,m5,m6,_⟩:=make_flow (m:=(at_ ws i).lo - (at_ ws i).goes) hF hli hon hch (by omega)
   have hd:dls (l ++ [⟨i,true⟩]) i = 1:=by
    have:∀ (l k:List Cg),dls (l ++ k) i = dls l i + dls k i:=fun l k=>by rw [dls,List.foldl_append,xo_];rfl
    rw [this,jn_ hno]
    simp [dls,dl]
   have hg:=m5 i hi
   rw [hd,Int.mul_one] at hg
   exact ⟨l,met,p1,p2,p6,fun c hc=>(qo_.1 (hli c hc)).1,m1,m2,by omega,m6⟩
theorem cheap_step {ws:List Way} (hF:Fit ws) (hc:∀ i,i < ws.length→0 ≤ (at_ ws i).cost) (hl:¬ (cAll ws).last < 0) :
 ∃ l,cycle ws (cAll ws) = some l∧l ≠ []∧l.length ≤ 13∧(∀ c ∈ l,c.way < ws.length)∧Fit (zP_ ws l 1000000)∧qY_ ws (zP_ ws l 1000000)∧costW (zP_ ws l 1000000) < costW ws∧0 ≤ costW (zP_ ws l 1000000):=by
 obtain ⟨l,a,c1,c2,c3,c4,c5,c6,c7⟩:=cycle_ok hF.toFlow (by omega)
 obtain ⟨m1,m2,m3,m4,m5,m6,m7⟩:=make_flow (m:=1000000) hF.toFlow c5 c6 c4 (by omega)
 have hF':Fit (zP_ ws l 1000000):=⟨m1,fun i hi=>by
  have hi':i < ws.length:=by rw [m2.len];exact hi
  rw [← (m2.at i).2.2.1];exact m6 i hi' (hF.need i hi')⟩
 have hc':∀ i,i < (zP_ ws l 1000000).length→0 ≤ (at_ (zP_ ws l 1000000) i).cost:=fun i hi=>by
  rw [← (m2.at i).2.2.2.2];exact hc i (by rw [m2.len];exact hi)
 have hdec:mMost ws l 1000000 * cs ws l < 0:=Int.mul_neg_of_pos_of_neg m3 c7
 exact ⟨l,c1,c2,c3,fun c hc=>(qo_.1 (c5 c hc)).1,hF',m2,by omega,vN_ m1 hc'⟩
theorem yd_ {ws xs:List Way} (hF:Fit ws) (hl:(cAll ws).last < 0) (hS:qY_ ws xs) (hx:Fit xs):costW ws ≤ costW xs:=by
 obtain ⟨τ,L,N,hJ⟩:=cAll_ok hF.toFlow
 exact opt hF hS hx (fr (cAll ws)) fun c h=>hJ.no hl c h
end Go.Proofs.LS
set_option linter.all false
set_option linter.unusedVariables false
set_option linter.unusedSimpArgs false
namespace Go.Proofs.LF
open Go.RowKit Go.Sort
set_option maxHeartbeats 4000000
set_option maxRecDepth 100000
attribute [local go_sem] q1_ q3_ qa_
abbrev PthU (S:Nat→Prop) (w:World) (v:Value) (p:List Ky):Prop:=Pth (US S w) w v p
theorem PthU.agree {S:Nat→Prop} {w w':World} {v:Value} {p:List Ky} (h:PthU S w v p) (ha:qh_ S w w'):PthU S w' v p:=(Pth.agree h (US.agree ha).1).wide (US.agree ha).2
theorem PthU.wide {S S':Nat→Prop} {w:World} {v:Value} {p:List Ky} (h:PthU S w v p) (hs:∀ b,S b→S' b):PthU S' w v p:=Pth.wide h (US.wide hs)
theorem zu_ {p:List Ky} {k:Nat} (h:k < p.length):(p.flatMap Ky.cells)[k * 3]? = some (.string (bs p[k].n))∧(p.flatMap Ky.cells)[k * 3 + 1]? = some (.bool p[k].h)∧(p.flatMap Ky.cells)[k * 3 + 2]? = some (.int .i64 p[k].x):=by
 have e:p.flatMap Ky.cells = (p.take k).flatMap Ky.cells ++ (Ky.cells p[k] ++ (p.drop (k + 1)).flatMap Ky.cells):=by
  conv=>lhs;rw [← List.take_append_drop k p,List.drop_eq_getElem_cons h]
  rw [List.flatMap_append,List.flatMap_cons]
 have hl:((p.take k).flatMap Ky.cells).length = k * 3:=by rw [zo_,List.length_take];congr 1;omega
 rw [e]
 refine ⟨?_,?_,?_⟩ <;> rw [List.getElem?_append_right (by omega),hl] <;> simp [Ky.cells]
theorem x6_ (p q:List Ky) (ap aq:Option Addr) (cp cq:Nat) (S:Nat→Prop) (w:World) (hp:Pth S w (.slice ap p.length cp) p) (hq:Pth S w (.slice aq q.length cq) q) (hS:∀ b,S b→b < w.heap.size) (lp:p.length ≤ 1000) (lq:q.length ≤ 1000) :
 Calls Tryz.prog 80 #[.slice ap p.length cp, .slice aq q.length cq, .func (.func 81) #[] #[]] w fun e w'=>e = .returned (.int .i64 (cmpP p q))∧Below w.heap.size w w':=by
 go_enter Tryz.func80,Tryz.ntmps80
 go_wp2_with fail
 go_loopw [13] (fun i wr=>∃ k:Nat,k ≤ p.length∧k ≤ q.length∧i = .int .i64 k∧Hid (cmpP p q = cmpP (p.drop k) (q.drop k))∧Below w.heap.size w wr) (fun i _=>p.length - (intOf i).toNat)
 case atStart=>exact ⟨0,by omega,by omega,rfl,by simp [Hid],Below.refl _ _⟩
 case round=>
  obtain ⟨k,hk,hk2,rfl,hN,hB⟩:=hrel
  have hsz:=hB.size
  by_cases hA:k < p.length
  · obtain ⟨g,o,rfl,hg,_,_,hcell⟩:=SlC.cells hp (by omega)
    obtain ⟨k0,k1,k2⟩:=zu_ hA
    have ha:=qd_ hB hS
    have c0:=ha.cell hg (hcell _ _ k0)
    have c1:=ha.cell hg (hcell _ _ k1)
    have c2:=ha.cell hg (hcell _ _ k2)
    rw [← Nat.add_assoc] at c1 c2
    by_cases hB2:k < q.length
    · have a2:¬ (q.length:Int) ≤ (k:Int):=by omega
      have a3:(k:Int) < (q.length:Int):=by omega
      obtain ⟨g',o',rfl,hg',_,_,hcell'⟩:=SlC.cells hq (by omega)
      obtain ⟨k0',k1',k2'⟩:=zu_ hB2
      have hbx:Below w.heap.size w (wr.alloc (.cells #[.string (bs p[k].n), .bool p[k].h, .int .i64 p[k].x] 96)):=hB.alloc hsz _
      have hax:=qd_ hbx hS
      have d0:=hax.cell hg' (hcell' _ _ k0')
      have d1:=hax.cell hg' (hcell' _ _ k1')
      have d2:=hax.cell hg' (hcell' _ _ k2')
      rw [← Nat.add_assoc] at d1 d2
      have hd:cmpP (p.drop k) (q.drop k) = if byK p[k] q[k] ≠ 0 then byK p[k] q[k] else cmpP (p.drop (k + 1)) (q.drop (k + 1)):=by
       rw [List.drop_eq_getElem_cons hA,List.drop_eq_getElem_cons hB2];rfl
      have HD:=hid hd
      have HBX:=hid hbx
      clear hcell k0 k1 k2 hcell' k0' k1' k2' hd hbx hax
      go_wp2_with fail
      refine (xf_ p[k] q[k] _).mono ?_
      rintro e w2 ⟨rfl,hb2⟩
      have hz2:=HBX.out.size
      have HB2:=hid (HBX.out.trans ((((Below.refl _ _).alloc (nl_ _) _).trans (hb2.mono (by simp))).mono hz2))
      clear hz2 hb2
      by_cases he:byK p[k] q[k] = 0
      · have he':(byK p[k] q[k] != 0) = false:=by simpa using he
        have HE:=hid he
        clear he
        go_wp2_with fail
        go_roundw
        case rel=>exact ⟨k + 1,by omega,by omega,by go_num,by rw [Hid,hN.out,HD.out,if_neg (by simpa using HE.out)],HB2.out⟩
        case measure=>simp [intOf];omega
      · have he':(byK p[k] q[k] != 0) = true:=by simpa using he
        have HE:=hid he
        clear he
        go_wp2_with fail
        go_ret
        exact ⟨qe_ (by rw [hN.out,HD.out,if_pos (by simpa using HE.out)]),HB2.out⟩
    · have a2:(q.length:Int) ≤ (k:Int):=by omega
      have hd:cmpP (p.drop k) (q.drop k) = 1:=by
       rw [List.drop_eq_getElem_cons hA,List.drop_eq_nil_of_le (by omega:q.length ≤ k)];rfl
      clear hcell k0 k1 k2
      go_wp2_with fail
      go_ret
      exact ⟨qe_ (by rw [hN.out,hd]),hB.alloc hsz _⟩
  · have hA':¬ (k:Int) < (p.length:Int):=by omega
    obtain rfl:k = p.length:=by omega
    by_cases hB2:p.length < q.length
    · have a2:(p.length:Int) < (q.length:Int):=by omega
      have hd:cmpP (p.drop p.length) (q.drop p.length) = -1:=by
       rw [List.drop_eq_getElem_cons hB2,List.drop_length];rfl
      go_wp2_with fail
      go_ret
      exact ⟨qe_ (by rw [hN.out,hd]),hB⟩
    · have a2:¬ (p.length:Int) < (q.length:Int):=by omega
      have hd:cmpP (p.drop p.length) (q.drop p.length) = 0:=by
       rw [List.drop_length,List.drop_eq_nil_of_le (by omega)];rfl
      go_wp2_with fail
      go_ret
      exact ⟨qe_ (by rw [hN.out,hd]),hB⟩
theorem kc_ (p q:List Ky) (ap aq:Option Addr) (cp cq:Nat) (S:Nat→Prop) (w:World) (hp:Pth S w (.slice ap p.length cp) p) (hq:Pth S w (.slice aq q.length cq) q) (hS:∀ b,S b→b < w.heap.size) (lp:p.length ≤ 1000) (lq:q.length ≤ 1000) :
 Calls Tryz.prog 36 #[.slice ap p.length cp, .slice aq q.length cq] w fun e w'=>e = .returned (.int .i64 (cmpP p q))∧Below w.heap.size w w':=by
 have H:=hid (x6_ p q ap aq cp cq S w hp hq hS lp lq)
 go_enter Tryz.func36,Tryz.ntmps36
 go_wp2_with fail
 refine H.out.mono ?_
 rintro e w1 ⟨rfl,hb1⟩
 go_wp2_with fail
 go_ret
 exact ⟨rfl,hb1⟩
end Go.Proofs.LF
namespace Go.Proofs.LF
theorem zV_ {p:UInt8→Bool}:∀ {a b:List UInt8} {m:Nat},(∀ c ∈ a,p c = true)→a.length ≤ m→(a.length = m ∨ ∀ c,b.head? = some c→p c = false)→qD_ p m (a ++ b) = a.length
 | [],b,0,_,_,_=>by simp [qD_]
 | [],[],m + 1,_,_,_=>by simp [qD_]
 | [],c :: b,m + 1,_,_,h=>by
   have h:=h.resolve_left (by simp) c rfl
   simp [qD_,h]
 | c :: a,b,0,_,h,_=>by simp at h
 | c :: a,b,m + 1,h1,h2,h3=>by
   have hc:=h1 c (by simp)
   simp only [List.length_cons] at h2 h3
   simp only [List.cons_append,qD_,hc,if_true,List.length_cons]
   rw [zV_ (fun d hd=>h1 d (by simp [hd])) (by omega) (h3.imp (fun h=>by omega) id)]
theorem itoa_rd {x:Int} (h0:0 ≤ x) (h1:x ≤ 9999) (T:List UInt8) (hT:∀ c,T.head? = some c→zj_ c = false):qD_ zj_ (zp_ (Lib.itoa x ++ T)) (Lib.itoa x ++ T) = (Lib.itoa x).length∧(Lib.itoa x).length ≠ 0∧(yg_ (Lib.itoa x):Int) = x:=by
 have hx:Lib.itoa x = Lib.decDigits x.toNat:=by unfold Lib.itoa;rw [if_neg (by omega)]
 obtain ⟨d1,d2⟩:=decN_dec (x.toNat + 1) x.toNat (by omega)
 have hl:=zT_ h0 h1
 rw [hx] at hl ⊢
 by_cases hz:x.toNat = 0
 · rw [hz] at d1 d2 hl ⊢
   have e:Lib.decDigits 0 = [48]:=by rw [Lib.decDigits];rfl
   rw [e] at d1 d2 ⊢
   refine ⟨?_,by simp,by rw [d1];omega⟩
   rw [show zp_ ([48] ++ T) = 1 by simp [zp_]]
   exact zV_ (a:=[48]) d2 (by simp) (.inl rfl)
 · obtain ⟨c,r,e,hc⟩:=dec_head (x.toNat + 1) x.toNat (by omega) (by omega)
   refine ⟨?_,by rw [e];simp,by rw [d1];omega⟩
   have hm:zp_ (Lib.decDigits x.toNat ++ T) = 4:=by
    rw [zp_,if_neg (by rw [e];simpa using hc)]
   rw [hm]
   exact zV_ d2 hl (.inr hT)
theorem v5_ {rest:List UInt8}:∀ (l:List Int) (m:Nat),(∀ x ∈ l,0 ≤ x∧x ≤ 9999)→l.length ≤ m→rdNums m ((l.map fun i=>32 :: Lib.itoa i).flatten ++ 10 :: rest) = (l,(l.map fun i=>32 :: Lib.itoa i).flatten.length,true)
 | [],0,_,_=>by simp [rdNums]
 | [],m + 1,_,_=>by simp [rdNums,qD_,qt_]
 | x :: l,0,_,h=>by simp at h
 | x :: l,m + 1,h,hl=>by
   have hx:=h x (by simp)
   have ih:=v5_ (rest:=rest) l m (fun z hz=>h z (by simp [hz])) (by simpa using hl)
   simp only [List.map_cons,List.flatten_cons,List.append_assoc,List.cons_append]
   obtain ⟨T,hT⟩:∃ T,(l.map fun i=>32 :: Lib.itoa i).flatten ++ 10 :: rest = T:=⟨_,rfl⟩
   rw [hT] at ih ⊢
   have hTd:∀ c,T.head? = some c→zj_ c = false:=by
    intro c hc
    rw [← hT] at hc
    cases l with
    | nil=>simp at hc;subst hc;decide
    | cons z l=>simp at hc;subst hc;decide
   obtain ⟨i1,i2,i3⟩:=itoa_rd hx.1 hx.2 T hTd
   have hb:qD_ qt_ 1 (32 :: (Lib.itoa x ++ T)) ≠ 0:=by simp [qD_,qt_]
   rw [rdNums]
   simp only [List.drop_succ_cons,List.drop_zero]
   rw [if_neg hb,i1,if_neg i2,List.take_left,List.drop_left,ih,i3]
   simp only [List.length_cons,List.length_append,Prod.mk.injEq,and_true,true_and]
   omega
theorem xn_ {n:List UInt8} (h:kk_ n = false):∀ c ∈ n,qV_ c = true:=by
 intro c hc
 simp only [kk_,Bool.or_eq_false_iff,List.any_eq_false,Bool.or_eq_true,decide_eq_true_eq,not_or] at h
 have:=h.1.1 c hc
 simp only [qV_,inB,Bool.and_eq_true,decide_eq_true_eq]
 omega
theorem jZ_ {x:NdD} (hx:OkN x) {dp:Nat} (hd:x.up.length ≤ dp) (rest:List UInt8):rdLine dp (zc_ x ++ rest) = (x.up.length,x.n,x.l,(zc_ x).length - 1,true):=by
 obtain ⟨h1,h2,h3⟩:=hx
 have hl:=xg_ h1
 have hs:=xn_ h1
 have hn:=kJ_ h3
 have e:zc_ x ++ rest = List.replicate x.up.length 32 ++ (x.n ++ ((x.l.map fun i=>32 :: Lib.itoa i).flatten ++ 10 :: rest)):=by
  simp [zc_,k2_]
 have hlen:(zc_ x).length - 1 = x.up.length + x.n.length + (x.l.map fun i=>32 :: Lib.itoa i).flatten.length:=by
  simp [zc_,k2_];omega
 obtain ⟨T,hT⟩:∃ T,(x.l.map fun i=>32 :: Lib.itoa i).flatten ++ 10 :: rest = T:=⟨_,rfl⟩
 have hnb:∀ c,(x.n ++ T).head? = some c→qt_ c = false:=by
  intro c hc
  cases hxn:x.n with
  | nil=>rw [hxn] at hl;simp at hl
  | cons a r=>
    rw [hxn] at hc
    simp at hc
    subst hc
    have:=hs a (by rw [hxn];simp)
    simp only [qV_,inB,Bool.and_eq_true,decide_eq_true_eq] at this
    simp only [qt_,beq_eq_false_iff_ne]
    rintro rfl
    simp at this
 have hTs:∀ c,T.head? = some c→qV_ c = false:=by
  intro c hc
  rw [← hT] at hc
  cases hxl:x.l with
  | nil=>rw [hxl] at hc;simp at hc;subst hc;decide
  | cons z l=>rw [hxl] at hc;simp at hc;subst hc;decide
 have a1:qD_ qt_ dp (List.replicate x.up.length 32 ++ (x.n ++ T)) = x.up.length:=by
  have:=zV_ (p:=qt_) (a:=List.replicate x.up.length 32) (b:=x.n ++ T) (m:=dp) (fun c hc=>by rw [List.eq_of_mem_replicate hc];decide) (by simpa using hd) (.inr hnb)
  simpa using this
 have a2:qD_ qV_ 8 (x.n ++ T) = x.n.length:=zV_ hs hl.2 (.inr hTs)
 have a3:=v5_ (rest:=rest) x.l 4 hn h2
 rw [hT] at a3
 rw [e,hT,rdLine,hlen]
 dsimp only
 have hdr:(List.replicate x.up.length (32:UInt8) ++ (x.n ++ T)).drop x.up.length = x.n ++ T:=by
  rw [List.drop_left' (by simp)]
 rw [a1,hdr,a2,if_neg (by omega),List.take_left,List.drop_left,a3]
 have:((x.n ++ T).drop (x.n.length + (x.l.map fun i=>32 :: Lib.itoa i).flatten.length)).head? = some 10:=by
  rw [← List.drop_drop,List.drop_left,← hT,List.drop_left];rfl
 dsimp only
 rw [this]
 simp
end Go.Proofs.LF
namespace Go.Proofs.LF
open Go.RowKit Go.Sort
set_option maxHeartbeats 4000000
set_option maxRecDepth 100000
attribute [local go_sem] q1_ q3_ qa_
def keyD (y:Fo) (i:Nat):Ky:=(keyAt y i).getD ky0
def fndN (y:Fo) (k:Ky):Nat:=bsF (fun h=>decide (byK (keyD y h) k < 0)) 0 y.len
end Go.Proofs.LF
namespace Go.Proofs.LF
open Go.RowKit
end Go.Proofs.LF
namespace Go.Proofs.LF
open Go.RowKit Go.Sort
set_option maxHeartbeats 4000000
set_option maxRecDepth 100000
attribute [local go_sem] q1_ q3_ qa_
theorem bs_sl (c:UInt8) (a:List UInt8):(⟨#[c]⟩:ByteArray) ++ bs a = bs (c :: a):=vO_ [c] a
attribute [local go_sem] bs_sl
theorem bs_47 (a:List UInt8):({ data:=#[47] }:ByteArray) ++ bs a = bs (47 :: a):=vO_ [47] a
attribute [local go_sem] bs_47
theorem bs_58 (a:List UInt8):({ data:=#[58] }:ByteArray) ++ bs a = bs (58 :: a):=vO_ [58] a
theorem bs_63 (a:List UInt8):({ data:=#[63] }:ByteArray) ++ bs a = bs (63 :: a):=vO_ [63] a
attribute [local go_sem] bs_58 bs_63
def OkK (k:Ky):Prop:=k.n.length ≤ 1000∧0 ≤ k.x∧k.x ≤ 9999
theorem sptK_len {k:Ky} (h:OkK k):(sptK k).length ≤ 1006:=by
 have h1:=zT_ h.2.1 h.2.2
 simp only [sptK,List.length_append,List.length_cons]
 have:=h.1
 split
 · simp;omega
 · split
   · simp;omega
   · simp;omega
theorem jC_ {p:List Ky}:(∀ k ∈ p,OkK k)→(sptL p).length ≤ 1006 * p.length:=by
 induction p with
 | nil=>intro _;simp [sptL]
 | cons k p ih=>
   intro h
   have h1:=sptK_len (h k (by simp))
   have h2:=ih fun z hz=>h z (by simp [hz])
   simp only [sptL,List.map_cons,List.flatten_cons,List.length_append,List.length_cons] at *
   omega
theorem sptL_take {p:List Ky} {k:Nat} (h:k < p.length):sptL (p.take (k + 1)) = sptL (p.take k) ++ sptK p[k]:=by
 unfold sptL
 rw [List.take_succ_eq_append_getElem h,List.map_append,List.flatten_append];simp only [List.map_cons,List.map_nil,List.flatten_cons,List.flatten_nil,List.append_nil]
theorem spelt_any (p:List Ky) (a:Option Addr) (c:Nat) (S:Nat→Prop) (w:World) (hv:Pth S w (.slice a p.length c) p) (hS:∀ b,S b→b < w.heap.size) (hlen:p.length ≤ 1000) (hok:∀ k ∈ p,OkK k) (ht:Pow w) :
 Calls Tryz.prog 76 #[.slice a p.length c] w fun e w'=>e = .returned (.string (bs (sptL p)))∧Below w.heap.size w w':=by
 have HV:=hid hv
 have HOK:=hid hok
 have HT:=hid ht
 have HS:=hid hS
 have hb0:Bld w.heap.size (.slice none 0 0) [] (w.alloc (.cells #[.pointer none, .slice none 0 0] 113)):=⟨_, .inl rfl,ha_ _ _,World.ownsRow_nil _ _ _ _,by simp [Value.ownBlock]⟩
 have HB0:=hid hb0
 clear hv hok ht hS hb0
 go_enter Tryz.func76,Tryz.ntmps76
 go_wp2_with fail
 go_loopw [8] (fun i wr=>∃ (k:Nat) (v:Value),k ≤ p.length∧i = .int .i64 k∧Hid (Bld w.heap.size v (sptL (p.take k)) wr)∧Hid (Below w.heap.size w wr)) (fun i _=>p.length - (intOf i).toNat)
 case atStart=>exact ⟨0, .slice none 0 0,by omega,rfl,by simpa [Hid,sptL] using HB0.out,(Below.refl _ _).alloc (nl_ _) _⟩
 case round=>
  obtain ⟨k,v,hk,rfl,hb,hB⟩:=hrel
  have hsz:=hB.out.size
  by_cases hlt:k < p.length
  · have hlt':(k:Int) < (p.length:Int):=by omega
    obtain ⟨g,o,rfl,hg,_,_,hcell⟩:=SlC.cells HV.out (by omega)
    obtain ⟨k0,k1,k2⟩:=zu_ hlt
    have ha:=qd_ hB.out HS.out
    have c0:=ha.cell hg (hcell _ _ k0)
    have c1:=ha.cell hg (hcell _ _ k1)
    have c2:=ha.cell hg (hcell _ _ k2)
    rw [← Nat.add_assoc] at c1 c2
    have hkk:=HOK.out p[k] (List.getElem_mem hlt)
    have hspl:(sptL (p.take k)).length ≤ 1006 * 1000:=by
     have h1:=jC_ (p:=p.take k) fun z hz=>HOK.out z (List.mem_of_mem_take hz)
     rw [List.length_take] at h1
     have:min k p.length ≤ 1000:=by omega
     omega
    have hgen:=sptL_take hlt
    have hK:=hid (show sptK p[k] = 47 :: p[k].n ++ (if p[k].h then 58 :: Lib.itoa p[k].x else if p[k].x ≠ 0 then 63 :: Lib.itoa p[k].x else []) from rfl)
    obtain ⟨ky,hky⟩:∃ ky,p[k] = ky:=⟨_,rfl⟩
    rw [hky] at c0 c1 c2 hkk hgen hK
    have HG:=hid hgen
    have HKK:=hid hkk
    have HSP:=hid hspl
    have hng:¬ 9223372036854775807 < 1 + ky.n.length:=by have:=hkk.1;omega
    have hbw:Bld w.heap.size v (sptL (p.take k)) (wr.alloc (.cells #[.string (bs ky.n), .bool ky.h, .int .i64 ky.x] 96)):=hb.out.below ((Below.refl _ _).alloc (nl_ _) _)
    have HBW:=hid hbw
    clear hcell k0 k1 k2 hky hgen hkk hspl hbw ha
    go_wp2_with fail
    refine (qJ_ w.heap.size v _ (47 :: ky.n) _ HBW.out (by have:=HSP.out;omega) (by have:=HKK.out.1;simp;omega)).mono ?_
    rintro e w2 ⟨rfl,v2,hb2,hk2,hj2⟩
    have hBlo:∀ b,zO_ w.heap.size v b→b < wr.heap.size:=fun b hb'=>zO_.lt hb.out b hb'
    have hblk:w2.heap[wr.heap.size]? = some (.cells #[.string (bs ky.n), .bool ky.h, .int .i64 ky.x] 96 (0,0)):=(hk2.block _ (by simp) (fun h=>by have:=hBlo _ h;omega)).trans (ha_ _ _)
    have e1:=cg_ hblk (k:=1) rfl
    have e2:=cg_ hblk (k:=2) rfl
    have HBL:=hid hblk
    have hbel2:Below w.heap.size w w2:=(hB.out.alloc hsz _).trans (hk2.below (by simp;omega) (fun b hb' ho=>by
     rcases ho with rfl | ho
     · omega
     · have:=(zO_.ge hb.out b (.inr ho));omega))
    have HB2:=hid hbel2
    have HBD:=hid hb2
    have hz2:=hk2.size
    simp only [World.size_alloc] at hz2
    have HKK2:=hid (show (47 :: ky.n).length ≤ 1001 by have:=HKK.out.1;simp;omega)
    clear hbel2 hb2 hblk hk2 hj2
    by_cases hh:ky.h = true
    · have hlast:sptK ky = 47 :: ky.n ++ 58 :: Lib.itoa ky.x:=by rw [hK.out,if_pos hh]
      have HL:=hid hlast
      clear hlast
      go_wp2_with fail
      refine (vn_ ky.x (by have:=HKK.out.2.1;omega) (by have:=HKK.out.2.2;omega) _ (HT.out.below HB2.out)).mono ?_
      rintro e w3 ⟨rfl,hb3⟩
      have hil:=zT_ HKK.out.2.1 HKK.out.2.2
      have hng2:¬ 9223372036854775807 < 1 + (Lib.itoa ky.x).length:=by omega
      have HBD3:=hid (HBD.out.below hb3)
      have HB3:=hid (HB2.out.trans (hb3.mono (by omega)))
      go_wp2_with fail
      refine (qJ_ w.heap.size v2 _ (58 :: Lib.itoa ky.x) _ HBD3.out (by have h1:=HSP.out;have h2:=HKK2.out;simp only [List.length_append];omega) (by simp;omega)).mono ?_
      rintro e w4 ⟨rfl,v4,hb4,hk4,hj4⟩
      have hbel4:Below w.heap.size w w4:=HB3.out.trans (hk4.below (by have:=HB3.out.size;omega) (fun b hb' ho=>by
       have:=zO_.ge HBD3.out b ho;omega))
      go_wp2_with fail
      go_roundw
      case rel=>exact ⟨k + 1,v4,by omega,by go_num,by rw [Hid,HG.out,HL.out];simpa using hb4,hbel4⟩
      case measure=>simp [intOf];omega
    · have hh':ky.h = false:=by simpa using hh
      by_cases hx:ky.x = 0
      · have hlast:sptK ky = 47 :: ky.n:=by rw [hK.out,if_neg hh,if_neg (by simpa using hx),List.append_nil]
        have HL:=hid hlast
        have hx':(ky.x != 0) = false:=by simpa using hx
        have HX:=hid hx
        clear hlast hx
        go_wp2_with fail
        go_roundw
        case rel=>exact ⟨k + 1,v2,by omega,by go_num,by rw [Hid,HG.out,HL.out];exact HBD.out,HB2.out⟩
        case measure=>simp [intOf];omega
      · have hlast:sptK ky = 47 :: ky.n ++ 63 :: Lib.itoa ky.x:=by rw [hK.out,if_neg hh,if_pos hx]
        have HL:=hid hlast
        have hx':(ky.x != 0) = true:=by simpa using hx
        have HX:=hid hx
        clear hlast hx
        go_wp2_with fail
        refine (vn_ ky.x (by have:=HKK.out.2.1;omega) (by have:=HKK.out.2.2;omega) _ (HT.out.below HB2.out)).mono ?_
        rintro e w3 ⟨rfl,hb3⟩
        have hil:=zT_ HKK.out.2.1 HKK.out.2.2
        have hng2:¬ 9223372036854775807 < 1 + (Lib.itoa ky.x).length:=by omega
        have HBD3:=hid (HBD.out.below hb3)
        have HB3:=hid (HB2.out.trans (hb3.mono (by omega)))
        go_wp2_with fail
        refine (qJ_ w.heap.size v2 _ (63 :: Lib.itoa ky.x) _ HBD3.out (by have h1:=HSP.out;have h2:=HKK2.out;simp only [List.length_append];omega) (by simp;omega)).mono ?_
        rintro e w4 ⟨rfl,v4,hb4,hk4,hj4⟩
        have hbel4:Below w.heap.size w w4:=HB3.out.trans (hk4.below (by have:=HB3.out.size;omega) (fun b hb' ho=>by
         have:=zO_.ge HBD3.out b ho;omega))
        go_wp2_with fail
        go_roundw
        case rel=>exact ⟨k + 1,v4,by omega,by go_num,by rw [Hid,HG.out,HL.out];simpa using hb4,hbel4⟩
        case measure=>simp [intOf];omega
  · obtain rfl:k = p.length:=by omega
    have hlt':¬ (p.length:Int) < (p.length:Int):=by omega
    go_wp2_with fail
    refine (Tryz.Builder_String_any_k _ _ _ _ (Lib.IsBuilderF.of hb.out.is) (Nat.le_of_lt hb.out.lt)).mono ?_
    rintro e W2 ⟨rfl,_,hbw,_⟩
    have HBW:=hid hbw
    clear hbw
    go_wp2_with fail
    go_ret
    exact ⟨rfl,hB.out.trans HBW.out⟩
def Grw (w w':World):Prop:=∃ q os,w' = grow (w.drewN q) os
theorem Grw.refl (w:World):Grw w w:=⟨0,#[],by simp [World.drewN]⟩
theorem Grw.alloc {w w':World} (h:Grw w w') (o:Obj):Grw w (w'.alloc o):=by
 obtain ⟨q,os,rfl⟩:=h
 exact ⟨q,os ++ #[o],by rw [alloc_eq_grow,grow_grow]⟩
theorem Grw.trans {a b c:World} (h:Grw a b) (k:Grw b c):Grw a c:=by
 obtain ⟨q,os,rfl⟩:=h
 obtain ⟨r,os',rfl⟩:=k
 refine ⟨q + r,os ++ os',?_⟩
 show grow (grow ((a.drewN q).drewN r) os) os' = _
 rw [grow_grow]
 congr 1
 simp [World.drewN,Nat.add_assoc]
theorem Grw.below {w w':World} (h:Grw w w'):Below w.heap.size w w':=by
 obtain ⟨q,os,rfl⟩:=h
 exact ⟨rfl,rfl,rfl,by simp [grow,World.drewN],fun b hb=>by
  show (w.heap ++ os)[b]? = _
  rw [Array.getElem?_append_left hb]⟩
theorem byKey_g (a b:Ky) (w:World) :
 Calls Tryz.prog 81 #[.agg #[.string (bs a.n), .bool a.h, .int .i64 a.x], .agg #[.string (bs b.n), .bool b.h, .int .i64 b.x]] w fun e w'=>e = .returned (.int .i64 (byK a b))∧Grw w w':=by
 obtain ⟨an,ah,ax⟩:=a
 obtain ⟨bn,bh,bx⟩:=b
 by_cases h:an = bn
 · have h':(an == bn) = true:=by simp [h]
   cases ah <;> cases bh
   all_goals
    go_enter Tryz.func81,Tryz.ntmps81
    go_wp2_with (first | (go_at_call 126;refine (ks_ _ _ _).mono ?_;rintro e w' ⟨rfl,rfl⟩) | (go_at_call 127;refine (kp_ _ _ _).mono ?_;rintro e w' ⟨rfl,rfl⟩))
    go_ret
    exact ⟨qe_ (by simp [byK,h]),((Grw.refl _).alloc _).alloc _⟩
 · have h':(an == bn) = false:=by simp [h]
   go_enter Tryz.func81,Tryz.ntmps81
   go_wp2_with (first | (go_at_call 126;refine (ks_ _ _ _).mono ?_;rintro e w' ⟨rfl,rfl⟩) | (go_at_call 127;refine (kp_ _ _ _).mono ?_;rintro e w' ⟨rfl,rfl⟩))
   go_ret
   exact ⟨qe_ (by simp [byK,h]),((Grw.refl _).alloc _).alloc _⟩
theorem y0_ (p q:List Ky) (ap aq:Option Addr) (cp cq:Nat) (S:Nat→Prop) (w:World) (hp:Pth S w (.slice ap p.length cp) p) (hq:Pth S w (.slice aq q.length cq) q) (hS:∀ b,S b→b < w.heap.size) (lp:p.length ≤ 1000) (lq:q.length ≤ 1000) :
 Calls Tryz.prog 80 #[.slice ap p.length cp, .slice aq q.length cq, .func (.func 81) #[] #[]] w fun e w'=>e = .returned (.int .i64 (cmpP p q))∧Grw w w':=by
 go_enter Tryz.func80,Tryz.ntmps80
 go_wp2_with fail
 go_loopw [13] (fun i wr=>∃ k:Nat,k ≤ p.length∧k ≤ q.length∧i = .int .i64 k∧Hid (cmpP p q = cmpP (p.drop k) (q.drop k))∧Grw w wr) (fun i _=>p.length - (intOf i).toNat)
 case atStart=>exact ⟨0,by omega,by omega,rfl,by simp [Hid],Grw.refl _⟩
 case round=>
  obtain ⟨k,hk,hk2,rfl,hN,hB⟩:=hrel
  have hBG:=hB
  replace hB:=hB.below
  have hsz:=hB.size
  by_cases hA:k < p.length
  · obtain ⟨g,o,rfl,hg,_,_,hcell⟩:=SlC.cells hp (by omega)
    obtain ⟨k0,k1,k2⟩:=zu_ hA
    have ha:=qd_ hB hS
    have c0:=ha.cell hg (hcell _ _ k0)
    have c1:=ha.cell hg (hcell _ _ k1)
    have c2:=ha.cell hg (hcell _ _ k2)
    rw [← Nat.add_assoc] at c1 c2
    by_cases hB2:k < q.length
    · have a2:¬ (q.length:Int) ≤ (k:Int):=by omega
      have a3:(k:Int) < (q.length:Int):=by omega
      obtain ⟨g',o',rfl,hg',_,_,hcell'⟩:=SlC.cells hq (by omega)
      obtain ⟨k0',k1',k2'⟩:=zu_ hB2
      have hbx:Below w.heap.size w (wr.alloc (.cells #[.string (bs p[k].n), .bool p[k].h, .int .i64 p[k].x] 96)):=hB.alloc hsz _
      have hax:=qd_ hbx hS
      have d0:=hax.cell hg' (hcell' _ _ k0')
      have d1:=hax.cell hg' (hcell' _ _ k1')
      have d2:=hax.cell hg' (hcell' _ _ k2')
      rw [← Nat.add_assoc] at d1 d2
      have hd:cmpP (p.drop k) (q.drop k) = if byK p[k] q[k] ≠ 0 then byK p[k] q[k] else cmpP (p.drop (k + 1)) (q.drop (k + 1)):=by
       rw [List.drop_eq_getElem_cons hA,List.drop_eq_getElem_cons hB2];rfl
      have HD:=hid hd
      have HBX:=hid hbx
      clear hcell k0 k1 k2 hcell' k0' k1' k2' hd hbx hax
      go_wp2_with fail
      refine (byKey_g p[k] q[k] _).mono ?_
      rintro e w2 ⟨rfl,hb2⟩
      have HB2:=hid (((hBG.alloc _).alloc _).trans hb2)
      clear hb2
      by_cases he:byK p[k] q[k] = 0
      · have he':(byK p[k] q[k] != 0) = false:=by simpa using he
        have HE:=hid he
        clear he
        go_wp2_with fail
        go_roundw
        case rel=>exact ⟨k + 1,by omega,by omega,by go_num,by rw [Hid,hN.out,HD.out,if_neg (by simpa using HE.out)],HB2.out⟩
        case measure=>simp [intOf];omega
      · have he':(byK p[k] q[k] != 0) = true:=by simpa using he
        have HE:=hid he
        clear he
        go_wp2_with fail
        go_ret
        exact ⟨qe_ (by rw [hN.out,HD.out,if_pos (by simpa using HE.out)]),HB2.out⟩
    · have a2:(q.length:Int) ≤ (k:Int):=by omega
      have hd:cmpP (p.drop k) (q.drop k) = 1:=by
       rw [List.drop_eq_getElem_cons hA,List.drop_eq_nil_of_le (by omega:q.length ≤ k)];rfl
      clear hcell k0 k1 k2
      go_wp2_with fail
      go_ret
      exact ⟨qe_ (by rw [hN.out,hd]),hBG.alloc _⟩
  · have hA':¬ (k:Int) < (p.length:Int):=by omega
    obtain rfl:k = p.length:=by omega
    by_cases hB2:p.length < q.length
    · have a2:(p.length:Int) < (q.length:Int):=by omega
      have hd:cmpP (p.drop p.length) (q.drop p.length) = -1:=by
       rw [List.drop_eq_getElem_cons hB2,List.drop_length];rfl
      go_wp2_with fail
      go_ret
      exact ⟨qe_ (by rw [hN.out,hd]),hBG⟩
    · have a2:¬ (p.length:Int) < (q.length:Int):=by omega
      have hd:cmpP (p.drop p.length) (q.drop p.length) = 0:=by
       rw [List.drop_length,List.drop_eq_nil_of_le (by omega)];rfl
      go_wp2_with fail
      go_ret
      exact ⟨qe_ (by rw [hN.out,hd]),hBG⟩
theorem byPath_g (p q:List Ky) (ap aq:Option Addr) (cp cq:Nat) (S:Nat→Prop) (w:World) (hp:Pth S w (.slice ap p.length cp) p) (hq:Pth S w (.slice aq q.length cq) q) (hS:∀ b,S b→b < w.heap.size) (lp:p.length ≤ 1000) (lq:q.length ≤ 1000) :
 Calls Tryz.prog 36 #[.slice ap p.length cp, .slice aq q.length cq] w fun e w'=>e = .returned (.int .i64 (cmpP p q))∧Grw w w':=by
 have H:=hid (y0_ p q ap aq cp cq S w hp hq hS lp lq)
 go_enter Tryz.func36,Tryz.ntmps36
 go_wp2_with fail
 refine H.out.mono ?_
 rintro e w1 ⟨rfl,hb1⟩
 go_wp2_with fail
 go_ret
 exact ⟨rfl,hb1⟩
theorem late_any (p q:List Ky) (ap aq al:Option Addr) (cp cq nl cl F:Nat) (S:Nat→Prop) (w:World) (hp:Pth S w (.slice ap p.length cp) p) (hq:Pth S w (.slice aq q.length cq) q) (hS:∀ b,S b→b < w.heap.size) (lp:p.length ≤ 1000) (lq:q.length ≤ 1000)
 (hF:F < w.heap.size) (hc:w.cell? ⟨F,0,none⟩ = some (.slice aq q.length cq)) :
 Calls Tryz.prog 48 #[.agg #[.slice ap p.length cp, .slice al nl cl], .pointer (some ⟨F,0,none⟩)] w fun e w'=>e = .returned (.bool (decide (0 ≤ cmpP p q)))∧Below w.heap.size w w':=by
 have hb:Below w.heap.size w (w.alloc (.cells #[.slice ap p.length cp, .slice al nl cl] 98)):=(Below.refl _ _).alloc (nl_ _) _
 have hc':=bc_ hb hF hc
 have ha:=qd_ hb hS
 have H:=hid (kc_ p q ap aq cp cq S _ (hp.agree ha) (hq.agree ha) (fun b h=>by have:=hS b h;simp;omega) lp lq)
 have HB:=hid hb
 clear hb ha hp hq
 go_enter Tryz.func48,Tryz.ntmps48
 go_wp2_with fail
 refine H.out.mono ?_
 rintro e w1 ⟨rfl,hb1⟩
 have HB1:=hid (HB.out.trans (hb1.mono HB.out.size))
 clear hb1
 by_cases h:0 ≤ cmpP p q
 · go_wp2_with fail
   go_ret
   exact ⟨qj_ (by simp [h]),HB1.out⟩
 · go_wp2_with fail
   go_ret
   exact ⟨qj_ (by simp [h]),HB1.out⟩
end Go.Proofs.LF
namespace Go.Proofs.LF
open Go.RowKit
variable {P:Program}
def heldE (v:Value):Option (DataW Value × List MemPlace):=some (.held v,[])
def jh_ (P:Program) (k:TypeId) (b n:Nat) (f:List UInt8→Option Value) (w:World):Prop:=
 ∃ D:DataW Value,w.ownsMap P k heldE b n D∧∀ s:List UInt8,Maps.has D (.string s) = (f s).isSome∧∀ v,f s = some v→∀ z,D.atKey (.string s) z = .held v
theorem jh_.made (k:TypeId) (w:World):jh_ P k w.heap.size 0 (fun _=>none) (w.alloc (.map #[] 0)):=
 ⟨_,World.ownsMap_made _ _ _ _,fun s=>⟨by simp [Maps.has],fun v h=>by cases h⟩⟩
theorem jh_.kept {k:TypeId} {b n:Nat} {f:List UInt8→Option Value} {w w':World} (h:jh_ P k b n f w) (hb:w'.heap[b]? = w.heap[b]?):jh_ P k b n f w':=by
 obtain ⟨D,⟨es,clock,h1,h2⟩,h3⟩:=h
 exact ⟨D,⟨es,clock,hb.trans h1,h2⟩,h3⟩
theorem jh_.lt {k:TypeId} {b n:Nat} {f:List UInt8→Option Value} {w:World} (h:jh_ P k b n f w):b < w.heap.size:=let ⟨_,h1,_⟩:=h;h1.lt
theorem jh_.look {t k e:TypeId} {b n:Nat} {f:List UInt8→Option Value} {w:World} (h:jh_ P k b n f w) (ht:P.underlying t = some (.map k e)) (hk:P.underlying k = some .string) {z:Value} (hz:(zeroValue e).run P w = .ok z w)
 (s:List UInt8) (hs:s.length ≤ maxLen):(Instr.lookup t (.map (some b)) (.string (bs s)) true).run P w = .ok (.tuple #[(f s).getD z, .bool (f s).isSome]) w:=by
 obtain ⟨D,h1,h2⟩:=h
 obtain ⟨v,ps,hrun,hv⟩:=h1.look_ok (Maps.string_keyed hk) ht hz (zd := .held z) (zp:=[]) rfl (keyS hk s hs)
 obtain ⟨h3,h4⟩:=h2 s
 rw [hrun,h3]
 simp only [heldE,Option.some.injEq,Prod.mk.injEq] at hv
 cases hf:f s with
 | none=>
   rw [hf] at h3
   rw [Maps.atKey_of_not_has h3] at hv
   have:v = z:=by simpa using hv.1
   rw [this];rfl
 | some u=>
   rw [h4 u hf] at hv
   have:v = u:=by simpa using hv.1
   rw [this];rfl
theorem jh_.put {t k e:TypeId} {b n:Nat} {f:List UInt8→Option Value} {w:World} (h:jh_ P k b n f w) (ht:P.underlying t = some (.map k e)) (hk:P.underlying k = some .string)
 (s:List UInt8) (hs:s.length ≤ maxLen) (hn:n < maxLen) (v:Value):∃ w',(Instr.mapUpdate t (.map (some b)) (.string (bs s)) v).run P w = .ok () w'∧jh_ P k b (n + 1) (fun q=>if q = s then some v else f q) w'∧w.grownBy w' (some b):=by
 obtain ⟨D,h1,h2⟩:=h
 obtain ⟨w',hrun,h3,h4⟩:=h1.update (Maps.string_keyed hk) ht hn (keyS hk s hs) (val:=v) (d := .held v) (ps:=[]) rfl
 refine ⟨w',hrun,⟨_,h3,fun q=>?_⟩,h4⟩
 by_cases hq:q = s
 · subst hq
   refine ⟨by rw [Maps.has_put_same h1.isMap (by trivial)];simp,fun u hu z=>?_⟩
   simp only [if_true,Option.some.injEq] at hu
   subst hu
   rw [Maps.atKey_put_same h1.isMap (by trivial)]
 · obtain ⟨h5,h6⟩:=h2 q
   refine ⟨by rw [Maps.has_put_other (by simpa using hq),h5];simp only [if_neg hq],fun u hu z=>?_⟩
   simp only [if_neg hq] at hu
   rw [Maps.atKey_put_other (by simpa using hq),h6 u hu]
def ChV (S:Nat→Prop) (w:World) (c:Ch) (v:Value):Prop:=
 ∃ ap cp ao co an cn,v = .agg #[.slice ap c.p.length cp, .bool c.had, .bool c.has, .slice ao c.old.length co, .slice an c.new.length cn]∧PthU S w (.slice ap c.p.length cp) c.p∧IntU S w (.slice ao c.old.length co) c.old∧IntU S w (.slice an c.new.length cn) c.new
theorem ChV.agree {S:Nat→Prop} {w w':World} {c:Ch} {v:Value} (h:ChV S w c v) (ha:qh_ S w w'):ChV S w' c v:=
 let ⟨ap,cp,ao,co,an,cn,e,h1,h2,h3⟩:=h;⟨ap,cp,ao,co,an,cn,e,PthU.agree h1 ha,IntU.agree h2 ha,IntU.agree h3 ha⟩
theorem ChV.wide {S S':Nat→Prop} {w:World} {c:Ch} {v:Value} (h:ChV S w c v) (hs:∀ b,S b→S' b):ChV S' w c v:=
 let ⟨ap,cp,ao,co,an,cn,e,h1,h2,h3⟩:=h;⟨ap,cp,ao,co,an,cn,e,PthU.wide h1 hs,IntU.wide h2 hs,IntU.wide h3 hs⟩
def xH_ (P:Program) (k:TypeId) (q:Ch→List UInt8) (S:Nat→Prop) (b n:Nat) (L:List Ch) (w:World):Prop:=
 ∃ f,jh_ P k b n f w∧(∀ c ∈ L,∃ v,f (q c) = some v∧ChV S w c v)∧∀ s,(∀ c ∈ L,q c ≠ s)→f s = none
variable {k:TypeId} {q:Ch→List UInt8} {S:Nat→Prop} {b n:Nat} {L:List Ch} {w:World}
theorem xH_.made (w:World):xH_ P k q S w.heap.size 0 [] (w.alloc (.map #[] 0)):=⟨_,jh_.made k w,by simp,fun _ _=>rfl⟩
theorem xH_.kept {w':World} (h:xH_ P k q S b n L w) (hb:w'.heap[b]? = w.heap[b]?) (ha:qh_ S w w'):xH_ P k q S b n L w':=
 let ⟨f,h1,h2,h3⟩:=h;⟨f,h1.kept hb,fun c hc=>let ⟨v,h4,h5⟩:=h2 c hc;⟨v,h4,h5.agree ha⟩,h3⟩
theorem xH_.wide {S':Nat→Prop} (h:xH_ P k q S b n L w) (hs:∀ b,S b→S' b):xH_ P k q S' b n L w:=
 let ⟨f,h1,h2,h3⟩:=h;⟨f,h1,fun c hc=>let ⟨v,h4,h5⟩:=h2 c hc;⟨v,h4,h5.wide hs⟩,h3⟩
theorem xH_.lt (h:xH_ P k q S b n L w):b < w.heap.size:=let ⟨_,h1,_⟩:=h;h1.lt
theorem xH_.put {t e:TypeId} (h:xH_ P k q S b n L w) (ht:P.underlying t = some (.map k e)) (hk:P.underlying k = some .string) (c:Ch) (v:Value) (hv:ChV S w c v) (hs:(q c).length ≤ maxLen) (hn:n < maxLen) (hq:∀ d ∈ L,q d ≠ q c) (hS:∀ x,S x→x < w.heap.size∧x ≠ b) :
 ∃ w',(Instr.mapUpdate t (.map (some b)) (.string (bs (q c))) v).run P w = .ok () w'∧xH_ P k q S b (n + 1) (L ++ [c]) w'∧w.grownBy w' (some b):=by
 obtain ⟨f,h1,h2,h3⟩:=h
 obtain ⟨w',hr,h4,h5⟩:=h1.put ht hk (q c) hs hn v
 have ha:qh_ S w w':=qh_.grown h5 fun x hx=>⟨(hS x hx).1,fun e=>(hS x hx).2 (Option.some.inj e).symm⟩
 refine ⟨w',hr,⟨_,h4,fun d hd=>?_,fun s hs'=>?_⟩,h5⟩
 · rcases List.mem_append.1 hd with hd | hd
   · obtain ⟨u,h6,h7⟩:=h2 d hd
     exact ⟨u,by rw [if_neg (hq d hd)];exact h6,h7.agree ha⟩
   · simp only [List.mem_singleton] at hd
     subst hd
     exact ⟨v,by simp,hv.agree ha⟩
 · have:s ≠ q c:=fun e=>hs' c (by simp) e.symm
   simp only [if_neg this]
   exact h3 s fun d hd=>hs' d (by simp [hd])
theorem xH_.hit {t e:TypeId} (h:xH_ P k q S b n L w) (ht:P.underlying t = some (.map k e)) (hk:P.underlying k = some .string) {z:Value} (hz:(zeroValue e).run P w = .ok z w) (s:List UInt8) (hs:s.length ≤ maxLen) {c:Ch} (hc:c ∈ L) (hq:q c = s) :
 ∃ v,(Instr.lookup t (.map (some b)) (.string (bs s)) true).run P w = .ok (.tuple #[v, .bool true]) w∧ChV S w c v:=by
 obtain ⟨f,h1,h2,h3⟩:=h
 obtain ⟨v,h4,h5⟩:=h2 c hc
 have:=h1.look ht hk hz s hs
 rw [← hq,h4] at this
 rw [← hq]
 exact ⟨v,this,h5⟩
end Go.Proofs.LF
namespace Go.Proofs
theorem Tryz.laysSort:Go.Proofs.SlLaysF.n6 Tryz.prog Tryz.laysSort_ren:={
 mixed:=by kernel_rfl
 f6:=⟨Tryz.f37.name,by decide,Tryz.func37.trans (congrArg some (by kernel_rfl))⟩
 f14:=⟨Tryz.f82.name,by decide,Tryz.func82.trans (congrArg some (by kernel_rfl))⟩
 f15:=Tryz.func83.trans (congrArg some (by kernel_rfl))
 f20:=⟨Tryz.f128.name,by decide,Tryz.func128.trans (congrArg some (by kernel_rfl))⟩
 f21:=⟨Tryz.f129.name,by decide,Tryz.func129.trans (congrArg some (by kernel_rfl))⟩
 f22:=⟨Tryz.f130.name,by decide,Tryz.func130.trans (congrArg some (by kernel_rfl))⟩
 f23:=⟨Tryz.f131.name,by decide,Tryz.func131.trans (congrArg some (by kernel_rfl))⟩
 f24:=⟨Tryz.f132.name,by decide,Tryz.func132.trans (congrArg some (by kernel_rfl))⟩
 f25:=⟨Tryz.f133.name,by decide,Tryz.func133.trans (congrArg some (by kernel_rfl))⟩
 f26:=⟨Tryz.f134.name,by decide,Tryz.func134.trans (congrArg some (by kernel_rfl))⟩
 f27:=⟨Tryz.f135.name,by decide,Tryz.func135.trans (congrArg some (by kernel_rfl))⟩
 f28:=Tryz.func136.trans (congrArg some (by kernel_rfl))
 f29:=Tryz.func137.trans (congrArg some (by kernel_rfl))
 f46:=⟨Tryz.f169.name,by decide,Tryz.func169.trans (congrArg some (by kernel_rfl))⟩
 f47:=Tryz.func170.trans (congrArg some (by kernel_rfl))
 f48:=Tryz.func171.trans (congrArg some (by kernel_rfl))
 f49:=⟨Tryz.f172.name,by decide,Tryz.func172.trans (congrArg some (by kernel_rfl))⟩
 f50:=⟨Tryz.f173.name,by decide,Tryz.func173.trans (congrArg some (by kernel_rfl))⟩
 f57:=⟨Tryz.f205.name,by decide,Tryz.func205.trans (congrArg some (by kernel_rfl))⟩
 t0:=Tryz.underlying0
 a0:=Tryz.isAgg0
 z0:=Tryz.sizeOf0
 v0:=Tryz.zeroValue0
 t3:=Tryz.underlying3
 a3:=Tryz.isAgg3
 z3:=Tryz.sizeOf3
 v3:=Tryz.zeroValue3
 t4:=Tryz.underlying4
 a4:=Tryz.isAgg4
 z4:=Tryz.sizeOf4
 v4:=Tryz.zeroValue4
 t5:=Tryz.underlying5
 a5:=Tryz.isAgg5
 z5:=Tryz.sizeOf5
 v5:=Tryz.zeroValue5
 t9:=Tryz.underlying9
 a9:=Tryz.isAgg9
 z9:=Tryz.sizeOf9
 v9:=Tryz.zeroValue9
 t22:=Tryz.underlying39
 a22:=Tryz.isAgg39
 z22:=Tryz.sizeOf39
 v22:=Tryz.zeroValue39
 a24:=Tryz.isAgg92
 z24:=Tryz.sizeOf92
 t25:=Tryz.underlying104
 a25:=Tryz.isAgg104
 z25:=Tryz.sizeOf104
 v25:=Tryz.zeroValue104
 t39:=Tryz.underlying178
 a39:=Tryz.isAgg178
 z39:=Tryz.sizeOf178
 v39:=Tryz.zeroValue178
 t45:=Tryz.underlying251
 a45:=Tryz.isAgg251
 z45:=Tryz.sizeOf251
 v45:=Tryz.zeroValue251
 t46:=Tryz.underlying252
 a46:=Tryz.isAgg252
 z46:=Tryz.sizeOf252
 v46:=Tryz.zeroValue252
 t50:=Tryz.underlying182
 a50:=Tryz.isAgg182
 z50:=Tryz.sizeOf182
 v50:=Tryz.zeroValue182
 t53:=Tryz.underlying83
 a53:=Tryz.isAgg83
 z53:=Tryz.sizeOf83
 v53:=Tryz.zeroValue83
 t55:=Tryz.underlying259
 a55:=Tryz.isAgg259
 z55:=Tryz.sizeOf259
 v55:=Tryz.zeroValue259
 t66:=Tryz.underlying286
 a66:=Tryz.isAgg286
 z66:=Tryz.sizeOf286
 v66:=Tryz.zeroValue286
 t70:=Tryz.underlying290
 a70:=Tryz.isAgg290
 z70:=Tryz.sizeOf290
 v70:=Tryz.zeroValue290
 t76:=Tryz.underlying314
 a76:=Tryz.isAgg314
 z76:=Tryz.sizeOf314
 v76:=Tryz.zeroValue314
 t77:=Tryz.underlying315
 a77:=Tryz.isAgg315
 z77:=Tryz.sizeOf315
 v77:=Tryz.zeroValue315 }
namespace LF
open Go.RowKit Go.Sort
set_option maxHeartbeats 4000000
set_option maxRecDepth 100000
structure PV where
 v:Value
 p:List Ky
 deriving Inhabited
theorem swoP {α:Type} (f:α→List Ky):SWO (ltOf (fun x y:α=>cmpP (f x) (f y))) where
 irrefl x:=by simp [ltOf,cmpP_ord.refl]
 trans x y z h1 h2:=by simp only [ltOf,decide_eq_true_eq] at *;exact cmpP_ord.trans h1 h2
 ntrans x y z h1 h2:=by
  simp only [ltOf,decide_eq_false_iff_not] at *
  intro h
  rcases Int.lt_trichotomy (cmpP (f x) (f y)) 0 with h3 | h3 | h3
  · exact h1 h3
  · rw [cmpP_ord.eq h3] at h;exact h2 h
  · have h4:=cmpP_ord.flop h3
    exact h2 (cmpP_ord.trans h4 h)
theorem kK_ {α:Type} [Inhabited α] {enc:α→Value} {w:World} {g n b:Nat} {os:Array Obj} {d:Array α} (hb:b < w.heap.size) (hne:b ≠ g):(sortWorld enc w g 0 n d os).heap[b]? = w.heap[b]?:=by
 unfold sortWorld
 rw [heap_grow_old _ _ (by simpa using hb)]
 have:g ≠ b:=fun e=>hne e.symm
 simp [putRow,mapBlock,Sort.ahead,Array.getElem?_modify,this]
theorem kI_ {α:Type} [Inhabited α] {enc:α→Value} {w:World} {g n:Nat} {os:Array Obj} (d:Array α):w.grownBy (sortWorld enc w g 0 n d os) (some g):=
 ⟨rfl,rfl,rfl,by unfold sortWorld;simp,fun k hk hne=>kK_ hk (fun e=>hne (by rw [e]))⟩
theorem sortW_row {α:Type} [Inhabited α] {enc:α→Value} {w:World} {g n:Nat} {os:Array Obj} {d:Array α} {cur:Array Value} {e:TypeId} (hb:w.heap[g]? = some (.cells cur e (0,0))):(sortWorld enc w g 0 n d os).heap[g]? = some (.cells (putCells enc 0 d cur) e (0,0)):=by
 have hg:g < w.heap.size:=(ge_ hb).1
 unfold sortWorld
 rw [heap_grow_old _ _ (by simpa using hg)]
 simp [putRow,mapBlock,Sort.ahead,Array.getElem?_modify,hb,onCells]
theorem take_putC {α:Type} [Inhabited α] (enc:α→Value) (cur:Array Value) (d:Array α) (h:d.size ≤ cur.size):(putCells enc 0 d cur).toList.take d.size = d.toList.map enc:=by
 apply List.ext_getElem?
 intro j
 by_cases hj:j < d.size
 · rw [List.getElem?_take_of_lt hj,Array.getElem?_toList]
   simp [putCells,hj,show j < cur.size by omega]
 · rw [List.getElem?_take_eq_none (by omega),List.getElem?_eq_none (by simp;omega)]
abbrev PVs (M:Nat→Prop) (w:World):={ x:PV // (∃ a c,x.v = .slice a x.p.length c)∧Pth M w x.v x.p∧x.p.length ≤ 1000 }
theorem pvs_of {M:Nat→Prop} {w:World}:∀ {ps:List (List Ky)} {cs:List Value},LCs rdPa M w ps cs→(∀ p ∈ ps,p.length ≤ 1000)→∃ ds:List (PVs M w),ds.map (·.1.v) = cs∧ds.map (·.1.p) = ps
 | [],_,h,_=>⟨[],by rw [show _ = [] from h];rfl,rfl⟩
 | p :: ps,_,⟨c,es,h1,⟨ap,cp,h2,h3⟩,h4⟩,hl=>by
   obtain ⟨ds,hd1,hd2⟩:=pvs_of h4 (fun q hq=>hl q (by simp [hq]))
   exact ⟨⟨⟨.slice ap p.length cp,p⟩,⟨ap,cp,rfl⟩,h3,hl p (by simp)⟩ :: ds,by rw [h1,h2,← hd1];rfl,by simp [hd2]⟩
theorem pvs_to {M:Nat→Prop} {w:World}:∀ (ds:List (PVs M w)),LCs rdPa M w (ds.map (·.1.p)) (ds.map (·.1.v))
 | []=>rfl
 | x :: ds=>by
   obtain ⟨a,c,h⟩:=x.2.1
   refine ⟨[x.1.v],ds.map (·.1.v),rfl,⟨a,c,by rw [h],?_⟩,pvs_to ds⟩
   have:=x.2.2.1
   rwa [h] at this
theorem enters103 (args:Array Value) (w:World):(callFunc 36 args).run Tryz.prog w = .ok (.enter 36 args) w:=by simp [go_sem]
theorem jB_ (ps:List (List Ky)) (v:Value) (B:Nat) (cs:List Value) (M:Nat→Prop) (w:World) (hown:w.ownsRow B 92 1 v ps.length cs) (hlc:LCs rdPa M w ps cs) (hM:∀ b,M b→b < w.heap.size∧v.ownBlock ≠ some b) (hps:∀ p ∈ ps,p.length ≤ 1000) (hl:ps.length ≤ 100000) :
 Calls Tryz.prog 37 #[v, .func (.func 36) #[] #[]] w fun e w'=>e = .returned (.tuple #[])∧∃ cs',w'.ownsRow B 92 1 v ps.length cs'∧LCs rdPa M w' (srtP ps) cs'∧w.grownBy w' v.ownBlock:=by
 by_cases h0:ps.length = 0
 · obtain rfl:=List.eq_nil_of_length_eq_zero h0
   obtain ⟨a,c,rfl,_,_⟩:=owns_shape hown
   refine (AnyF.slices_SortFunc_none (L:={ Tryz.laysSort with }) a c (.func (.func 36) #[] #[]) w).mono ?_
   rintro e w' ⟨rfl,rfl⟩
   exact ⟨rfl,cs,hown,by simpa [srtP] using hlc,World.grownBy.refl _ _⟩
 · obtain ⟨h1,⟨rfl,h2⟩ | ⟨g,cap,cur,rfl,hbg,hgg,hn,hcap,hsz,htk⟩⟩:=hown
   · exact absurd h2 h0
   · obtain ⟨ds,hd1,hd2⟩:=pvs_of hlc hps
     have hdl:ds.length = ps.length:=by rw [← hd2];simp
     have hgl:g < w.heap.size:=(ge_ hgg).1
     haveI:Inhabited (PVs M w):=⟨ds[0]'(by omega)⟩
     have hMg:∀ b,M b→b ≠ g:=fun b hb e=>(hM b hb).2 (by simp [Value.ownBlock,e])
     have hH:Holds (fun x:PVs M w=>x.1.v) w g 0 ds.toArray:=by
      intro j hj
      have hj':j < ds.length:=by simpa using hj
      have e1:cs[j]? = some (ds[j]).1.v:=by rw [← hd1];simp [hj']
      rw [← htk,Nat.mul_one,List.getElem?_take] at e1
      rw [if_pos (by omega)] at e1
      refine ⟨?_,by simp [World.frozen?,hgg]⟩
      simp only [World.cell?,hgg,Nat.zero_add]
      rw [← Array.getElem?_toList,e1]
      simp [hj']
     have hag:∀ m os (dk:Array (PVs M w)),qh_ M w (sortWorld (fun x:PVs M w=>x.1.v) w g 0 m dk os):=fun m os dk b hb=>kK_ (hM b hb).1 (hMg b hb)
     have hcmp:CmpLays1 Tryz.prog 36 #[] (fun x:PVs M w=>x.1.v) (fun x y=>cmpP x.1.p y.1.p) g 0 ds.toArray.size w:=by
      intro m os dk hs x y
      obtain ⟨ax,cx,hx⟩:=x.2.1
      obtain ⟨ay,cy,hy⟩:=y.2.1
      have hpx:=x.2.2.1
      have hpy:=y.2.2.1
      have:=byPath_g x.1.p y.1.p ax ay cx cy M (sortWorld (fun x:PVs M w=>x.1.v) w g 0 m dk os) ((by rw [← hx];exact hpx.agree (hag m os dk))) ((by rw [← hy];exact hpy.agree (hag m os dk))) (fun b hb=>by have h9:=(kI_ (enc:=fun x:PVs M w=>x.1.v) (w:=w) (g:=g) (n:=m) (os:=os) dk).size;have:=(hM b hb).1;omega) x.2.2.2 y.2.2.2
      simp only [hx,hy]
      simpa [Grw] using this
     have hcon:=Any.slices_SortFunc Tryz.laysSort (fun x:PVs M w=>x.1.v) (fun x=>by obtain ⟨a,c,h⟩:=x.2.1;show x.1.v.oneCell' = true;rw [h];rfl) (fun x y=>cmpP x.1.p y.1.p) (swoP fun x:PVs M w=>x.1.p) 36 #[] g 0 cap ds.toArray w enters103 hcmp hH hgl (by simp;omega)
     have e1:ds.toArray.size = ps.length:=by simpa using hdl
     rw [e1] at hcon
     refine hcon.mono ?_
     rintro e w' ⟨rfl,d',n,os,⟨hp1,_,hp3⟩,hs,rfl⟩
     have hps':(d'.toList.map (·.1.p)).Perm ps:=by
      have h3:d'.toList.Perm ds:=by
       have:=hp3
       rw [← e1] at this
       rw [Array.extract_eq_self_of_le (by omega),Array.extract_eq_self_of_le (by omega)] at this
       simpa using this
      rw [← hd2]
      exact h3.map _
     have hd's:d'.size = ps.length:=by rw [hp1,e1]
     have hsorted:(d'.toList.map (·.1.p)).Pairwise (fun a b=>cmpP a b ≤ 0):=by
      rw [List.pairwise_map,List.pairwise_iff_getElem]
      intro i j hi hj hij
      have hi':i < d'.size:=by simpa using hi
      have hj':j < d'.size:=by simpa using hj
      have:=hs i j (Nat.zero_le _) hij (by omega)
      simp only [ltOf,decide_eq_false_iff_not] at this
      rw [getElem!_pos d' j hj',getElem!_pos d' i hi'] at this
      simp only [Array.getElem_toList]
      rcases Int.lt_trichotomy (cmpP d'[i].1.p d'[j].1.p) 0 with h | h | h
      · omega
      · omega
      · exact absurd (cmpP_ord.flop h) this
     have hsrt:=srtP_of hps' hsorted
     refine ⟨rfl,d'.toList.map (·.1.v),⟨by simp [hd's], .inr ⟨g,cap,_,rfl,hbg,sortW_row hgg,hn,hcap,by simp [putCells,hsz],?_⟩⟩,?_,kI_ d'⟩
     · rw [Nat.mul_one,← hd's]
       exact take_putC _ _ _ (by omega)
     · rw [← hsrt]
       exact (pvs_to d'.toList).agree (hag n os d')
end LF
end Go.Proofs
namespace Go.Proofs.LF
open Go.RowKit Go.Sort
set_option maxHeartbeats 4000000
set_option maxRecDepth 100000
attribute [local go_sem] q1_ q3_ qa_
theorem cmpFl_any (p q:List Ky) (ap aq al:Option Addr) (cp cq nl cl:Nat) (S:Nat→Prop) (w:World) (hp:Pth S w (.slice ap p.length cp) p) (hq:Pth S w (.slice aq q.length cq) q) (hS:∀ b,S b→b < w.heap.size) (lp:p.length ≤ 1000) (lq:q.length ≤ 1000) :
 Calls Tryz.prog 78 #[.agg #[.slice ap p.length cp, .slice al nl cl], .slice aq q.length cq] w fun e w'=>e = .returned (.int .i64 (cmpP p q))∧Below w.heap.size w w':=by
 have hb:Below w.heap.size w (w.alloc (.cells #[.slice ap p.length cp, .slice al nl cl] 98)):=(Below.refl _ _).alloc (nl_ _) _
 have ha:=qd_ hb hS
 have H:=hid (kc_ p q ap aq cp cq S _ (hp.agree ha) (hq.agree ha) (fun b h=>by have:=hS b h;simp;omega) lp lq)
 have HB:=hid hb
 clear hb ha hp hq
 go_enter Tryz.func78,Tryz.ntmps78
 go_wp2_with fail
 refine H.out.mono ?_
 rintro e w1 ⟨rfl,hb1⟩
 have HB1:=hid (HB.out.trans (hb1.mono HB.out.size))
 go_wp2_with fail
 go_ret
 exact ⟨rfl,HB1.out⟩
theorem xL_ (l:List Fl) (p:List Ky) (al ap:Option Addr) (cl cp:Nat) (S T:Nat→Prop) (w:World) (hv:FlSl S w (.slice al l.length cl) l) (hS:∀ b,S b→b < w.heap.size) (hp:Pth T w (.slice ap p.length cp) p) (hT:∀ b,T b→b < w.heap.size)
 (hl:l.length ≤ 1000) (hsm:SmF l) (lp:p.length ≤ 1000) :
 Calls Tryz.prog 77 #[.slice al l.length cl, .slice ap p.length cp, .func (.func 78) #[] #[]] w fun e w'=>e = .returned (.tuple #[.int .i64 (fndI l p), .bool (decide (fndI l p < l.length) && decide (cmpP (l.getD (fndI l p) fl0).p p = 0))])∧Below w.heap.size w w':=by
 obtain ⟨a',c',he,hc,hcm,hat⟩:=hv.at
 obtain ⟨rfl,rfl⟩:al = a'∧cl = c':=by cases he;exact ⟨rfl,rfl⟩
 have HAT:=hid hat
 have HS:=hid hS
 have HT:=hid hT
 have HP:=hid hp
 have HSM:=hid hsm
 clear hat hS hT hp hsm he hv
 unfold maxLen at hcm
 have hcall:∀ (i:Nat) (hi:i < l.length) (W:World),Below w.heap.size w W→∃ g o ap2 cp2 an cn,al = some ⟨g,o,none⟩∧W.cell? ⟨g,o + i * 2,none⟩ = some (.slice ap2 l[i].p.length cp2)∧W.cell? ⟨g,o + i * 2 + 1,none⟩ = some (.slice an l[i].l.length cn) ∧
  Hid (Calls Tryz.prog 78 #[.agg #[.slice ap2 l[i].p.length cp2, .slice an l[i].l.length cn], .slice ap p.length cp] W fun e w'=>e = .returned (.int .i64 (cmpP l[i].p p))∧Below W.heap.size W w'):=by
  intro i hi W hB
  obtain ⟨g,o,cs1,rfl,hg,⟨ap2,cp2,an,cn,rfl,hP,hI⟩,hcell⟩:=HAT.out i hi
  have ha:qh_ S w W:=qd_ hB HS.out
  have c0:=ha.cell hg (hcell 0 _ rfl)
  have c1:=ha.cell hg (hcell 1 _ rfl)
  rw [Nat.add_zero] at c0
  rw [← Nat.add_assoc] at c1
  exact ⟨g,o,ap2,cp2,an,cn,rfl,c0,c1,cmpFl_any l[i].p p ap2 ap an cp2 cp _ cn (fun b=>S b ∨ T b) W ((hP.agree ha).wide fun b hb => .inl hb) ((HP.out.agree (qd_ hB HT.out)).wide fun b hb => .inr hb)
   (fun b hb=>by have:=hB.size;rcases hb with hb | hb;have:=HS.out b hb;omega;have:=HT.out b hb;omega) (HSM.out _ (List.getElem_mem hi)).1 lp⟩
 have HC:=hid hcall
 clear hcall
 go_enter Tryz.func77,Tryz.ntmps77
 go_wp2_with fail
 go_loopw [9,10] (fun vi vj wr=>∃ i j:Nat,vi = .int .i64 i∧vj = .int .i64 j∧i ≤ j∧j ≤ l.length∧Hid (fndI l p = bsF (fun h=>decide (cmpP (l.getD h fl0).p p < 0)) i j)∧Below w.heap.size w wr) (fun vi vj _=>(intOf vj).toNat - (intOf vi).toNat)
 case atStart=>exact ⟨0,l.length,rfl,rfl,Nat.zero_le _,nl_ _,rfl,Below.refl _ _⟩
 case round=>
  obtain ⟨i,j,rfl,rfl,hij,hjl,hF,hB⟩:=hrel
  have hsz:=hB.size
  by_cases hlt:i < j
  · have hlt':(i:Int) < (j:Int):=by omega
    obtain ⟨h,hh⟩:∃ h,(i + j) / 2 = h:=⟨_,rfl⟩
    have hhi:((i:Int) + (j:Int)) / 2 = (h:Int):=by omega
    have hhl:h < l.length:=by omega
    have hb1:i ≤ h:=by omega
    have hb2:h < j:=by omega
    have hhl':(h:Int) < (l.length:Int):=by omega
    have hh0:(0:Int) ≤ (h:Int):=by omega
    obtain ⟨g,o,ap2,cp2,an,cn,rfl,c0,c1,H⟩:=HC.out h hhl wr hB
    have hF2:=hF.out
    rw [bsF_go hlt,hh] at hF2
    have hg:l.getD h fl0 = l[h]:=by simp [List.getD_eq_getElem?_getD,hhl]
    simp only [hg,decide_eq_true_eq] at hF2
    have HF:=hid hF2
    clear hF2 hg hh
    go_wp2_with fail
    refine H.out.mono ?_
    rintro e w2 ⟨rfl,hb3⟩
    have HB:=hid (hB.trans (hb3.mono hsz))
    clear hb3
    by_cases hneg:cmpP l[h].p p < 0
    · have hF3:=HF.out
      rw [if_pos hneg] at hF3
      have HF3:=hid hF3
      clear hF3
      go_wp2_with fail
      go_roundw
      case rel=>exact ⟨h + 1,j,by go_num,rfl,by omega,hjl,HF3.out,HB.out⟩
      case measure=>simp [intOf];omega
    · have hF3:=HF.out
      rw [if_neg hneg] at hF3
      have HF3:=hid hF3
      clear hF3
      go_wp2_with fail
      go_roundw
      case rel=>exact ⟨i,h,rfl,rfl,hb1,by omega,HF3.out,HB.out⟩
      case measure=>simp [intOf];omega
  · obtain rfl:i = j:=by omega
    have hlt':¬ (i:Int) < (i:Int):=by omega
    by_cases hil:i < l.length
    · have hil':(i:Int) < (l.length:Int):=by omega
      obtain ⟨g,o,ap2,cp2,an,cn,rfl,c0,c1,H⟩:=HC.out i hil wr hB
      have hF2:=hF.out
      rw [kq_ (by omega)] at hF2
      have HF:=hid hF2
      clear hF2
      go_wp2_with fail
      refine H.out.mono ?_
      rintro e w2 ⟨rfl,hb3⟩
      have HB:=hid (hB.trans (hb3.mono hsz))
      clear hb3
      have hfin:(decide (fndI l p < l.length) && decide (cmpP (l.getD (fndI l p) fl0).p p = 0)) = decide (cmpP l[i].p p = 0):=by
       rw [HF.out];simp [hil,List.getD_eq_getElem?_getD]
      have HFI:=hid hfin
      clear hfin
      by_cases hz:cmpP l[i].p p = 0
      · have hz':(cmpP l[i].p p == 0) = true:=by simp [hz]
        have hzd:decide (cmpP l[i].p p = 0) = true:=by simp [hz]
        have HZ:=hid hzd
        clear hz hzd
        go_wp2_with fail
        go_ret2
        exact ⟨by rw [HFI.out,HZ.out,HF.out];simp,HB.out⟩
      · have hz':(cmpP l[i].p p == 0) = false:=by simp [hz]
        have hzd:decide (cmpP l[i].p p = 0) = false:=by simp [hz]
        have HZ:=hid hzd
        clear hz hzd
        go_wp2_with fail
        go_ret2
        exact ⟨by rw [HFI.out,HZ.out,HF.out];simp,HB.out⟩
    · have hil':¬ (i:Int) < (l.length:Int):=by omega
      have hF2:=hF.out
      rw [kq_ (by omega)] at hF2
      have HF:=hid hF2
      clear hF2
      have hfin:(decide (fndI l p < l.length) && decide (cmpP (l.getD (fndI l p) fl0).p p = 0)) = false:=by
       rw [HF.out];simp [hil]
      have HFI:=hid hfin
      clear hfin
      go_wp2_with fail
      go_ret2
      exact ⟨by have h1:=HF.out;have h2:=HFI.out;rw [h1] at h2 ⊢;simp [hil],hB⟩
def RunR (p:UInt8→Bool) (R:Nat) (t:List UInt8) (i most:Nat) (vs:List Value) (w:World) (e:Ending) (w':World):Prop:=
 ∃ s:List UInt8,e = .returned (.string (bs s))∧Hid (s = (t.drop i).take (qD_ p most (t.drop i)))∧Hid (s.length = qD_ p most (t.drop i))∧Hid (s.length ≤ most∧i + s.length ≤ t.length)∧Hid (Rdr R t (i + s.length) vs w')∧Hid (Keep (· = R) w w')
theorem RunR.of {p:UInt8→Bool} {R:Nat} {t:List UInt8} {i most:Nat} {vs:List Value} {w:World} {e:Ending} {w':World} (hi:i ≤ t.length)
 (h:e = .returned (.string (bs ((t.drop i).take (qD_ p most (t.drop i)))))∧Rdr R t (i + qD_ p most (t.drop i)) vs w'∧Keep (· = R) w w'):RunR p R t i most vs w e w':=by
 have hl:=vF_ (p:=p) (m:=most) (l:=t.drop i)
 have hs:((t.drop i).take (qD_ p most (t.drop i))).length = qD_ p most (t.drop i):=by rw [List.length_take];omega
 rw [List.length_drop] at hl
 exact ⟨_,h.1,rfl,hs,by rw [Hid,hs];omega,by rw [Hid,hs];exact h.2.1,h.2.2⟩
theorem vd_ (R:Nat) (t:List UInt8) (i most:Nat) (vs:List Value) (w:World) (hr:Rdr R t i vs w) (ht:t.length ≤ 100000) (hi:i ≤ t.length) (hm:most ≤ 1000) :
 Calls Tryz.prog 94 #[.pointer (some ⟨R,0,none⟩), .func (.func 144) #[] #[], .int .i64 most] w (RunR qt_ R t i most vs w):=
 (runA_any 144 enters225 qt_ R t i most vs w hr ht hi hm fun c W=>xt_ c W).mono fun _ _ h=>RunR.of hi h
theorem y4_ (R:Nat) (t:List UInt8) (i most:Nat) (vs:List Value) (w:World) (hr:Rdr R t i vs w) (ht:t.length ≤ 100000) (hi:i ≤ t.length) (hm:most ≤ 1000) :
 Calls Tryz.prog 94 #[.pointer (some ⟨R,0,none⟩), .func (.func 97) #[.agg #[.int .u8 97, .int .u8 122]] #[], .int .i64 most] w (RunR qV_ R t i most vs w):=
 (xZ_ 97 122 qV_ R t i most vs w hr ht hi hm fun c W=>has_any 97 122 c.toNat W).mono fun _ _ h=>RunR.of hi h
theorem jO_ (R:Nat) (t:List UInt8) (i most:Nat) (vs:List Value) (w:World) (hr:Rdr R t i vs w) (ht:t.length ≤ 100000) (hi:i ≤ t.length) (hm:most ≤ 1000) :
 Calls Tryz.prog 94 #[.pointer (some ⟨R,0,none⟩), .func (.func 97) #[.agg #[.int .u8 48, .int .u8 57]] #[], .int .i64 most] w (RunR zj_ R t i most vs w):=
 (xZ_ 48 57 zj_ R t i most vs w hr ht hi hm fun c W=>has_any 48 57 c.toNat W).mono fun _ _ h=>RunR.of hi h
def getE (y:Fo) (p:List Ky):Int:=if qW_ y ≠ 0 then qW_ y else if (atF y p).isSome then 0 else 1
def getN (y:Fo) (p:List Ky):List UInt8 × List Int × Fo:=if getE y p = 0 then (atF y p).getD ([],[], .nil) else ([],[], .nil)
def GetU (y:Fo) (p:List Ky) (w:World) (e:Ending) (w':World):Prop:=
 ∃ n l s an cn ab cb,getN y p = (n,l,s)∧e = .returned (.tuple #[.agg #[.string (bs n), .slice an l.length cn, .slice ab s.len cb], .int .i64 (getE y p)]) ∧
  IntU (Rg w.heap.size w'.heap.size) w' (.slice an l.length cn) l∧FSlU (Rg w.heap.size w'.heap.size) w' (.slice ab s.len cb) s∧Below w.heap.size w w'
theorem GetU.bad {y:Fo} {p:List Ky} {w w':World} {x:Int} (hx:getE y p = x) (h0:x ≠ 0) (hb:Below w.heap.size w w'):GetU y p w (.returned (.tuple #[.agg #[.string { data:=#[] }, .slice none 0 0, .slice none 0 0], .int .i64 x])) w':=by
 subst hx
 exact ⟨[],[], .nil,none,0,none,0,by simp [getN,h0],rfl,⟨rfl,_,0,rfl,nl_ _,by simp [maxLen],fun _=>rfl, .inl rfl⟩,⟨[],⟨rfl,_,0,rfl,nl_ _,by simp [maxLen],fun _=>rfl, .inl rfl⟩,rfl⟩,hb⟩
end Go.Proofs.LF