/- Parts of the proof of a law of layer 11 (file): LbT8q. The conditions stand in each theorem. -/
import Derived.Test.YtffjknkcogmnbaaGreatDoorProg
import Derived.Test.YtffjknkcogmnbaaGreatDoorTybq
set_option linter.all false
set_option linter.unusedVariables false
set_option linter.unusedSimpArgs false
namespace Go.Proofs.LB
open Go.Proofs.LF Go.Proofs.LS
theorem kx_ {f:Nat→Bool} {n:Nat}:n ∈ ltB f 121 ↔ n < 121∧f n = true:=by
 simp [ltB]
theorem jc_ (f:Nat→Bool):(ltB f 121).Pairwise (· < ·):=List.pairwise_lt_range.filter _
theorem ltB_lo {f:Nat→Bool} {n:Nat} (h:n ∈ ltB f 121):(ltB f 121).getD 0 0 ≤ n∧(ltB f 121).getD 0 0 ∈ ltB f 121:=by
 have hs:=jc_ f
 cases hl:ltB f 121 with
 | nil=>rw [hl] at h;cases h
 | cons x r=>
   rw [hl] at h hs
   refine ⟨?_,by simp⟩
   rcases List.mem_cons.1 h with rfl | h
   · simp
   · have:=(List.pairwise_cons.1 hs).1 n h
     simp;omega
theorem x2_:∀ {l:List Nat} {n:Nat},l.Pairwise (· < ·)→n ∈ l→n ≤ l.getD (l.length - 1) 0∧l.getD (l.length - 1) 0 ∈ l
 | [x],n,_,h=>by
   obtain rfl:n = x:=by simpa using h
   simp
 | x :: y :: r,n,hs,h=>by
   obtain ⟨h1,h2⟩:=List.pairwise_cons.1 hs
   have e:(x :: y :: r).getD ((x :: y :: r).length - 1) 0 = (y :: r).getD ((y :: r).length - 1) 0:=by simp
   rw [e]
   rcases List.mem_cons.1 h with rfl | h
   · have i1:=x2_ (n:=y) h2 (by simp)
     have:=h1 y (by simp)
     exact ⟨by omega,List.mem_cons_of_mem _ i1.2⟩
   · have i1:=x2_ (n:=n) h2 h
     exact ⟨i1.1,List.mem_cons_of_mem _ i1.2⟩
theorem bnd_in {f:Nat→Bool} {n:Nat} (hn:n < 121) (h:f n = true):(bndF f).lo ≤ n∧(n:Int) ≤ (bndF f).hi:=by
 have h1:=(ltB_lo (kx_.2 ⟨hn,h⟩)).1
 have h2:=(x2_ (jc_ f) (kx_.2 ⟨hn,h⟩)).1
 exact ⟨by show (((ltB f 121).getD 0 0:Nat):Int) ≤ n;omega,by show (n:Int) ≤ (((ltB f 121).getD ((ltB f 121).length - 1) 0:Nat):Int);omega⟩
theorem bnd_mono {f g:Nat→Bool} (hfg:∀ n,n < 121→f n = true→g n = true) (he:∃ n,n < 121∧f n = true):(bndF g).lo ≤ (bndF f).lo∧(bndF f).hi ≤ (bndF g).hi:=by
 obtain ⟨n,hn,h⟩:=he
 have h1:=kx_.1 (ltB_lo (kx_.2 ⟨hn,h⟩)).2
 have h2:=kx_.1 (x2_ (jc_ f) (kx_.2 ⟨hn,h⟩)).2
 exact ⟨(bnd_in h1.1 (hfg _ h1.1 h1.2)).1,(bnd_in h2.1 (hfg _ h2.1 h2.2)).2⟩
theorem rowF_eq {room:Int} {S:List Su} {ms:List Mo} {lo hi:Int} {m n:Nat} (hn:n < 121):rowF room S ms lo hi m n = cnT room S ms lo hi m n:=by
 unfold rowF cnG
 rw [show (m * 121 + n) / 121 = m by omega,show (m * 121 + n) % 121 = n by omega]
theorem row_real {room:Int} {S:List Su} {ms:List Mo} {rs:List Int} {lo hi:Int} (hr:0 ≤ room∧room ≤ 120) (hm:∀ x ∈ ms,OkMo room x) (h:RealL room S ms rs) (h0:∀ n,rs[0]? = some n→lo ≤ n∧n ≤ hi) {m:Nat} {n:Int} (hn:rs[m]? = some n):∃ k:Nat,n = (k:Int)∧k < 121∧rowF room S ms lo hi m k = true:=by
 have hb:=(h.ok m n hn).1
 obtain ⟨k,rfl⟩:∃ k:Nat,n = (k:Int):=⟨n.toNat,by omega⟩
 refine ⟨k,rfl,by omega,?_⟩
 rw [rowF_eq (by omega)]
 exact (kB_ hr hm).2 (h.can h0 m k hn)
theorem row_ne {room:Int} {S:List Su} {ms:List Mo} {rs:List Int} {lo hi:Int} (hr:0 ≤ room∧room ≤ 120) (hm:∀ x ∈ ms,OkMo room x) (h:RealL room S ms rs) (h0:∀ n,rs[0]? = some n→lo ≤ n∧n ≤ hi):∀ m,m ≤ ms.length→∃ n,n < 121∧rowF room S ms lo hi m n = true:=fun m hle=>by
 have hl:=h.len
 obtain ⟨k,_,h2,h3⟩:=row_real hr hm h h0 (m:=m) (n:=rs[m]'(by omega)) (List.getElem?_eq_getElem _)
 exact ⟨k,h2,h3⟩
theorem real_bnd {room:Int} {S T:List Su} {ms:List Mo} {rs:List Int} {lo hi:Int} (hr:0 ≤ room∧room ≤ 120) (hm:∀ x ∈ ms,OkMo room x) (h:RealL room S ms rs) (h0:∀ n,rs[0]? = some n→lo ≤ n∧n ≤ hi) (hs:∀ s ∈ T,s ∈ S) {m:Nat} {n:Int} (hn:rs[m]? = some n) :
 (bndF (rowF room T ms lo hi m)).lo ≤ (bndF (rowF room S ms lo hi m)).lo∧(bndF (rowF room S ms lo hi m)).hi ≤ (bndF (rowF room T ms lo hi m)).hi∧(bndF (rowF room S ms lo hi m)).lo ≤ n∧n ≤ (bndF (rowF room S ms lo hi m)).hi:=by
 obtain ⟨k,rfl,h2,h3⟩:=row_real hr hm h h0 hn
 have h4:=bnd_in h2 h3
 have h5:=bnd_mono (f:=rowF room S ms lo hi m) (g:=rowF room T ms lo hi m) (fun j hj hf=>by
  rw [rowF_eq hj] at hf ⊢
  exact (kB_ hr hm).2 (((kB_ hr hm).1 hf).sub hs)) ⟨k,h2,h3⟩
 exact ⟨h5.1,h5.2,h4.1,h4.2⟩
structure Spl (i:Nat) (o a b:List Nat):Prop where
 po:o.Pairwise (· < ·)
 pa:a.Pairwise (· < ·)
 pb:b.Pairwise (· < ·)
 lo:o.length ≤ i
 la:a.length ≤ i
 lb:b.length ≤ i
 m:∀ j,j < i ↔ j ∈ a ∨ j ∈ b
 oo:∀ j,j ∈ o ↔ j ∈ a∧j ∈ b
theorem Spl.zero:Spl 0 [] [] []:=⟨.nil, .nil, .nil,by simp,by simp,by simp,by simp,by simp⟩
theorem Spl.one:Spl 1 [0] [0] [0]:=⟨by simp,by simp,by simp,by simp,by simp,by simp,fun j=>by simp,fun j=>by simp⟩
theorem pw_snoc {l:List Nat} {i:Nat} (h:l.Pairwise (· < ·)) (hl:∀ j ∈ l,j < i):(l ++ [i]).Pairwise (· < ·):=by
 rw [List.pairwise_append]
 exact ⟨h, by simp, fun a ha b hb => by obtain rfl : b = i := by simpa using hb
                                        exact hl a ha⟩
theorem Spl.inA {i:Nat} {o a b:List Nat} (h:Spl i o a b):Spl (i + 1) o (a ++ [i]) b:=by
 have h1:∀ j ∈ a,j < i:=fun j hj=>(h.m j).2 (.inl hj)
 have h2:∀ j ∈ b,j < i:=fun j hj=>(h.m j).2 (.inr hj)
 refine ⟨h.po,pw_snoc h.pa h1,h.pb,by have:=h.lo;omega,by have:=h.la;simp;omega,by have:=h.lb;omega,fun j=>?_,fun j=>?_⟩
 · have:=h.m j
   rw [List.mem_append,List.mem_singleton]
   constructor
   · intro hj
     by_cases e:j = i
     · exact .inl (.inr e)
     · rcases this.1 (by omega) with h | h
       · exact .inl (.inl h)
       · exact .inr h
   · rintro ((h | h) | h)
     · have:=h1 j h;omega
     · omega
     · have:=h2 j h;omega
 · rw [h.oo j,List.mem_append,List.mem_singleton]
   constructor
   · rintro ⟨h3,h4⟩;exact ⟨.inl h3,h4⟩
   · rintro ⟨h3 | h3,h4⟩
     · exact ⟨h3,h4⟩
     · have:=h2 j h4;omega
theorem Spl.swap {i:Nat} {o a b:List Nat} (h:Spl i o a b):Spl i o b a:=⟨h.po,h.pb,h.pa,h.lo,h.lb,h.la,fun j=>by rw [h.m j,or_comm],fun j=>by rw [h.oo j,and_comm]⟩
theorem Spl.inB {i:Nat} {o a b:List Nat} (h:Spl i o a b):Spl (i + 1) o a (b ++ [i]):=h.swap.inA.swap
theorem Spl.mem {i:Nat} {o a b:List Nat} (h:Spl i o a b) {j:Nat}:(j ∈ o→j < i)∧(j ∈ a→j < i)∧(j ∈ b→j < i):=
 ⟨fun e=>(h.m j).2 (.inl ((h.oo j).1 e).1),fun e=>(h.m j).2 (.inl e),fun e=>(h.m j).2 (.inr e)⟩
def SuR (rn:Int) (M:Nat) (rs:List Int) (s:Su):Prop:=OkSu rn M s∧∀ n,rs[s.m]? = some n→s.lo ≤ n∧n ≤ s.hi
theorem yw_ {room:Int} {ms:List Mo} {rs:List Int} {S:List Su} (h:RealL room [] ms rs) (hs:∀ s ∈ S,SuR room ms.length rs s):RealL room S ms rs:=h.with fun i n hn=>by
 rw [agr,List.all_eq_true]
 intro s hS
 by_cases e:s.m = i
 · have:=(hs s hS).2 n (by rw [e];exact hn)
   simp [this.1,this.2]
 · simp [e]
theorem surN_ok {room:Int} {M:Nat} {l:List Su} (hl:l.length ≤ 100) (hr:room ≤ 120) (hM:M ≤ 100) (h:∀ s ∈ l,OkSu room M s) {i:Nat} (hi:i < l.length):zd_ (j5_ l i) = false:=by
 have hg:l.getD i ⟨0,0,0⟩ = l[i]:=by rw [List.getD_eq_getElem?_getD,List.getElem?_eq_getElem hi,Option.getD_some]
 have h1:=h l[i] (List.getElem_mem hi)
 have hb:=h1.b
 have hm:=h1.m
 simp only [zd_,j5_,hg,List.any_cons,List.any_nil,offB,Bool.or_false,Bool.or_eq_false_iff,decide_eq_false_iff_not]
 omega
theorem v6_ (l:List Su):∀ ids:List Nat,(qy_ l ids).Sm
 | []=>trivial
 | i :: r=>⟨by decide,by simp [j5_],by simp [Fo.len],trivial,v6_ l r⟩
theorem txt_bd {y:Fo} (h:qS_ y = 0):(kt_ (qa_ [] y)).length ≤ 100000:=by
 have hc:=jL_ h
 have h1:=jp_ (qa_ [] y) fun x hx=>⟨kn_ y 0 none [] (xj_ h) x hx,by have:=zD_ y [] x hx;simp at this;omega⟩
 rw [qq_] at h1
 omega
theorem vC_ (l:List Su):((List.range l.length).map fun i:Nat=>((i:Int),l.getD i ⟨0,0,0⟩)).map Prod.snd = l:=by
 rw [List.map_map]
 refine List.ext_getElem (by simp) fun i h1 h2=>?_
 simp [List.getD_eq_getElem?_getD,List.getElem?_eq_getElem h2]
end Go.Proofs.LB