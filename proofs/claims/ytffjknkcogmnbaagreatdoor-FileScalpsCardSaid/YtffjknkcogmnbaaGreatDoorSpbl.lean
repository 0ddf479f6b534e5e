/- Parts of the proof of a law of layer 11 (file): LbF5p, LbT4, LbT6, LbT8p, LbT8q, LbF6p, LbF6s. The conditions stand in each theorem. -/
import Derived.Test.YtffjknkcogmnbaaGreatDoorProg
import Derived.Test.YtffjknkcogmnbaaGreatDoorSpaa
import Derived.Test.YtffjknkcogmnbaaGreatDoorSpac
import Derived.Test.YtffjknkcogmnbaaGreatDoorSpae
import Derived.Test.YtffjknkcogmnbaaGreatDoorSpag
import Derived.Test.YtffjknkcogmnbaaGreatDoorSpah
import Derived.Test.YtffjknkcogmnbaaGreatDoorSpai
import Derived.Test.YtffjknkcogmnbaaGreatDoorSpaj
import Derived.Test.YtffjknkcogmnbaaGreatDoorSpak
import Derived.Test.YtffjknkcogmnbaaGreatDoorSpal
import Derived.Test.YtffjknkcogmnbaaGreatDoorSpan
import Derived.Test.YtffjknkcogmnbaaGreatDoorSpao
import Derived.Test.YtffjknkcogmnbaaGreatDoorSpap
import Derived.Test.YtffjknkcogmnbaaGreatDoorSpaq
import Derived.Test.YtffjknkcogmnbaaGreatDoorSpar
import Derived.Test.YtffjknkcogmnbaaGreatDoorSpas
import Derived.Test.YtffjknkcogmnbaaGreatDoorSpat
import Derived.Test.YtffjknkcogmnbaaGreatDoorSpau
import Derived.Test.YtffjknkcogmnbaaGreatDoorSpav
import Derived.Test.YtffjknkcogmnbaaGreatDoorSpaw
import Derived.Test.YtffjknkcogmnbaaGreatDoorSpax
import Derived.Test.YtffjknkcogmnbaaGreatDoorSpay
import Derived.Test.YtffjknkcogmnbaaGreatDoorSpaz
import Derived.Test.YtffjknkcogmnbaaGreatDoorSpbg
import Derived.Test.YtffjknkcogmnbaaGreatDoorSpbh
import Derived.Test.YtffjknkcogmnbaaGreatDoorSpbj
import Derived.Test.YtffjknkcogmnbaaGreatDoorSpbk
set_option linter.all false
set_option linter.unusedVariables false
set_option linter.unusedSimpArgs false
namespace Go.Proofs.LS
open Go.Proofs.LF Go.Proofs.LB
def sh (R:List (List Nat)) (t k:Nat):Nat:=(R.getD t []).getD k 0
def rw_ (R:List (List Nat)) (t:Nat):Nat:=(R.getD t []).sum
def gx (R:List (List Nat)) (x:Way):Int:=if x.f = 0 then (col R (x.t - 1):Nat) else if x.t = 0 then (rw_ R (x.f - 7):Nat) else (sh R (x.t - 7) (x.f - 1):Nat)
def y3_ (R:List (List Nat)) (x:Way):Way:={ x with goes:=gx R x }
def nw (v:Nat) (x:Way):Int:=(if x.f = v then x.goes else 0) - (if x.t = v then x.goes else 0)
def ns (v:Nat) (ws:List Way):Int:=(ws.map (nw v)).sum
theorem sm_list (f:Way→Int) (ws:List Way):∀ k,k ≤ ws.length→sm k (fun i=>f (at_ ws i)) = ((ws.take k).map f).sum
 | 0,_=>rfl
 | k + 1,hk=>by
   rw [sm,sm_list f ws k (by omega),List.take_succ_eq_append_getElem (by omega),List.map_append,List.sum_append]
   congr 1
   simp [at_,List.getD_eq_getElem?_getD,List.getElem?_eq_getElem (show k < ws.length by omega)]
theorem nt_ns (ws:List Way) (v:Nat):nt ws (gs ws) v = ns v ws:=by
 have h:=sm_list (nw v) ws ws.length (nl_ _)
 rw [List.take_length] at h
 exact h
theorem ns_app (v:Nat) (a b:List Way):ns v (a ++ b) = ns v a + ns v b:=by simp [ns]
theorem sm_at (n v:Nat) (f:Nat→Int):sm n (fun k=>if 1 + k = v then f k else 0) = if 1 ≤ v∧v ≤ n then f (v - 1) else 0:=by
 induction n with
 | zero=>rw [if_neg (by omega)];rfl
 | succ n ih=>
   rw [sm,ih]
   by_cases h1:1 + n = v
   · subst h1
     rw [show 1 + n - 1 = n by omega]
     (repeat' split) <;> omega
   · (repeat' split) <;> omega
theorem ns_S (R:List (List Nat)) (S:List St) (v:Nat):∀ k,ns v ((zI_ S k).map (y3_ R)) = (if v = 0 then sm k (fun j=>(col R j:Nat)) else 0) - (if 1 ≤ v∧v ≤ k then ((col R (v - 1):Nat):Int) else 0)
 | 0=>by
   rw [if_neg (show ¬ (1 ≤ v∧v ≤ 0) by omega)]
   by_cases h:v = 0 <;> simp [h,ns,zI_,sm]
 | k + 1=>by
   rw [zI_,List.map_append,ns_app,ns_S R S v k]
   have e:ns v ([(⟨0,1 + k,(qU_ (S.getD k ⟨0,0,0,0,0,0,0⟩)).lo,(qU_ (S.getD k ⟨0,0,0,0,0,0,0⟩)).hi,0,0⟩:Way)].map (y3_ R)) = (if 0 = v then ((col R k:Nat):Int) else 0) - (if 1 + k = v then ((col R k:Nat):Int) else 0):=by
    simp [ns,nw,y3_,gx]
   rw [e,sm]
   by_cases h1:1 + k = v
   · subst h1
     rw [show 1 + k - 1 = k by omega]
     (repeat' split) <;> omega
   · (repeat' split) <;> omega
theorem x4_ (p:Nat→Bool) (f:Nat→Int):∀ n,((((List.range n).filter p).map f)).sum = sm n (fun k=>if p k then f k else 0)
 | 0=>rfl
 | n + 1=>by
   rw [List.range_succ,List.filter_append,List.map_append,List.sum_append,x4_ p f n,sm]
   congr 1
   by_cases h:p n <;> simp [h]
theorem row_sm {R:List (List Nat)} {t K:Nat} (h:(R.getD t []).length = K):sm K (fun k=>((sh R t k:Nat):Int)) = (rw_ R t:Nat):=by
 have key:∀ (l:List Nat) (k:Nat),k ≤ l.length→sm k (fun i=>((l.getD i 0:Nat):Int)) = ((l.take k).sum:Nat):=by
  intro l k
  induction k with
  | zero=>intro _;rfl
  | succ k ih=>
    intro hk
    have e:l.getD k 0 = l[k]:=by rw [List.getD_eq_getElem?_getD,List.getElem?_eq_getElem (by omega)];rfl
    rw [sm,ih (by omega),List.take_succ_eq_append_getElem (by omega),List.sum_append,e]
    simp only [List.sum_cons,List.sum_nil]
    omega
 have:=key (R.getD t []) K (by omega)
 rw [← h,List.take_length] at this
 rw [← h]
 exact this
theorem col_sm (R:List (List Nat)) (k:Nat):sm R.length (fun t=>((sh R t k:Nat):Int)) = (col R k:Nat):=by
 have key:∀ j,j ≤ R.length→sm j (fun t=>((sh R t k:Nat):Int)) = (col (R.take j) k:Nat):=by
  intro j
  induction j with
  | zero=>intro _;rfl
  | succ j ih=>
    intro hj
    have e:sh R j k = (R[j]).getD k 0:=by
     show (R.getD j []).getD k 0 = _
     rw [show R.getD j [] = R[j] from by rw [List.getD_eq_getElem?_getD,List.getElem?_eq_getElem (by omega)];rfl]
    have e2:col (R.take j ++ [R[j]]) k = col (R.take j) k + (R[j]).getD k 0:=by simp only [col,List.map_append,List.sum_append,List.map_cons,List.map_nil,List.sum_cons,List.sum_nil,Nat.add_zero]
    rw [sm,ih (by omega),List.take_succ_eq_append_getElem (by omega),e2,e]
    omega
 have:=key R.length (nl_ _)
 rw [List.take_length] at this
 exact this
theorem ns_R {S:List St} {R:List (List Nat)} {t:Nat} (hl:(R.getD t []).length = S.length) (hr:∀ k,0 < sh R t k→rch S t k = true) (v:Nat):ns v ((laidR S t).map (y3_ R)) = (if 1 ≤ v∧v ≤ S.length then ((sh R t (v - 1):Nat):Int) else 0) - (if 7 + t = v then ((rw_ R t:Nat):Int) else 0):=by
 have e:ns v ((laidR S t).map (y3_ R)) = sm S.length (fun k=>(if 1 + k = v then ((sh R t k:Nat):Int) else 0) - (if 7 + t = v then ((sh R t k:Nat):Int) else 0)):=by
  rw [ns,laidR,List.map_map,List.map_map,x4_]
  refine qo_ fun k hk=>?_
  by_cases h:rch S t k = true
  · rw [if_pos h]
    simp [nw,y3_,gx]
  · have h0:sh R t k = 0:=by
     cases hq:sh R t k with
     | zero=>rfl
     | succ n=>exact absurd (hr k (by omega)) h
    rw [if_neg h,h0]
    simp
 rw [e,xO_,sm_at]
 congr 1
 by_cases h:7 + t = v
 · simp only [if_pos h];exact row_sm hl
 · simp only [if_neg h];exact zp_ fun _ _=>rfl
theorem ns_T {S:List St} {C:List Sp} {R:List (List Nat)} (hS:S.length ≤ 6) (hl:∀ t,t < C.length→(R.getD t []).length = S.length) (hr:∀ t k,0 < sh R t k→rch S t k = true) (v:Nat):∀ T,T ≤ C.length→ns v ((laidT S C T).map (y3_ R)) = (if v = 0 then sm S.length (fun j=>((col R j:Nat):Int)) - sm T (fun t=>((rw_ R t:Nat):Int)) else 0) + (if 1 ≤ v∧v ≤ S.length then sm T (fun t=>((sh R t (v - 1):Nat):Int)) - ((col R (v - 1):Nat):Int) else 0)
 | 0,_=>by
   rw [laidT,ns_S]
   by_cases h:v = 0
   · subst h;simp [sm]
   · rw [if_neg h,if_neg h]
     by_cases h2:1 ≤ v∧v ≤ S.length
     · rw [if_pos h2,if_pos h2];simp [sm]
     · rw [if_neg h2,if_neg h2];rfl
 | T + 1,hT=>by
   rw [laidT,List.map_append,List.map_append,ns_app,ns_app,ns_T hS hl hr v T (by omega),ns_R (hl T (by omega)) (hr T) v]
   have e:ns v ([(⟨7 + T,0,(C.getD T ⟨0,0⟩).lo,(C.getD T ⟨0,0⟩).hi,0,0⟩:Way)].map (y3_ R)) = (if 7 + T = v then ((rw_ R T:Nat):Int) else 0) - (if 0 = v then ((rw_ R T:Nat):Int) else 0):=by
    have:¬ (7 + T = 0):=by omega
    simp [ns,nw,y3_,gx,this]
   rw [e]
   simp only [sm]
   (repeat' split) <;> omega
theorem ym_ {S:List St} {C:List Sp} {x:Way} (h:x ∈ laid S C):(∃ k,k < S.length∧x = ⟨0,1 + k,(qU_ (S.getD k ⟨0,0,0,0,0,0,0⟩)).lo,(qU_ (S.getD k ⟨0,0,0,0,0,0,0⟩)).hi,0,0⟩) ∨ (∃ t k,t < C.length∧k < S.length∧x = ⟨1 + k,7 + t,0,1000000,oth S t k,0⟩) ∨ ∃ t,t < C.length∧x = ⟨7 + t,0,(C.getD t ⟨0,0⟩).lo,(C.getD t ⟨0,0⟩).hi,0,0⟩:=by
 have h1:∀ k,k ≤ S.length→∀ x ∈ zI_ S k,∃ k,k < S.length∧x = ⟨0,1 + k,(qU_ (S.getD k ⟨0,0,0,0,0,0,0⟩)).lo,(qU_ (S.getD k ⟨0,0,0,0,0,0,0⟩)).hi,0,0⟩:=by
  intro k hk
  induction k with
  | zero=>intro x hx;cases hx
  | succ k ih=>
    intro x hx
    rcases List.mem_append.1 hx with h | h
    · exact ih (by omega) x h
    · exact ⟨k,by omega,List.mem_singleton.1 h⟩
 have h2:∀ t,t ≤ C.length→∀ x ∈ laidT S C t,(∃ k,k < S.length∧x = ⟨0,1 + k,(qU_ (S.getD k ⟨0,0,0,0,0,0,0⟩)).lo,(qU_ (S.getD k ⟨0,0,0,0,0,0,0⟩)).hi,0,0⟩) ∨ (∃ t k,t < C.length∧k < S.length∧x = ⟨1 + k,7 + t,0,1000000,oth S t k,0⟩) ∨ ∃ t,t < C.length∧x = ⟨7 + t,0,(C.getD t ⟨0,0⟩).lo,(C.getD t ⟨0,0⟩).hi,0,0⟩:=by
  intro t ht
  induction t with
  | zero=>exact fun x hx => .inl (h1 _ (nl_ _) x hx)
  | succ t ih=>
    intro x hx
    rcases List.mem_append.1 hx with h | h
    · rcases List.mem_append.1 h with h | h
      · exact ih (by omega) x h
      · obtain ⟨k,hk,rfl⟩:=List.mem_map.1 h
        exact .inr (.inl ⟨t,k,by omega,by have:=(List.mem_filter.1 hk).1;simpa using this,rfl⟩)
    · exact .inr (.inr ⟨t,by omega,List.mem_singleton.1 h⟩)
 exact h2 _ (nl_ _) x h
theorem fit_real {S:List St} {C:List Sp} {R:List (List Nat)} (hO:OkSc S C) (h:ShF S C R):∃ xs,Fit xs∧z6_ (laid S C) xs:=by
 have hsame:z6_ (laid S C) ((laid S C).map (y3_ R)):=by
  unfold z6_
  rw [List.map_map]
  rfl
 have hat:∀ i,i < (laid S C).length→at_ ((laid S C).map (y3_ R)) i = y3_ R (at_ (laid S C) i):=fun i hi=>by
  simp [at_,List.getD_eq_getElem?_getD,List.getElem?_eq_getElem hi]
 have hF:=j2_ hO
 have hlen:=h.len
 have hrow:∀ t,t < C.length→(R.getD t []).length = S.length∧∀ n ∈ R.getD t [],n ≤ 4:=fun t ht=>by
  have:R.getD t [] ∈ R:=by rw [List.getD_eq_getElem?_getD,List.getElem?_eq_getElem (by omega)];exact List.getElem_mem _
  exact h.row _ this
 have hsh:∀ t k,0 < sh R t k→rch S t k = true:=fun t k h0=>by
  unfold sh at h0
  rw [List.getD_eq_getElem?_getD] at h0
  cases hq:(R.getD t [])[k]? with
  | none=>rw [hq] at h0;simp at h0
  | some n=>rw [hq] at h0;exact h.rch t k n hq (by simpa using h0)
 have hcls:∀ i,i < (laid S C).length→(at_ (laid S C) i).lo ≤ gx R (at_ (laid S C) i)∧gx R (at_ (laid S C) i) ≤ (at_ (laid S C) i).hi∧0 ≤ gx R (at_ (laid S C) i):=fun i hi=>by
  have hm:at_ (laid S C) i ∈ laid S C:=by rw [kt_ hi];exact List.getElem_mem hi
  have h0:∀ x:Way,0 ≤ gx R x:=fun x=>by
   unfold gx
   (repeat' split) <;> omega
  refine ⟨?_,?_,h0 _⟩
  · rcases ym_ hm with ⟨k,hk,e⟩ | ⟨t,k,ht,hk,e⟩ | ⟨t,ht,e⟩
    · rw [e]
      have:=(h.gon k _ (qI_ hk)).1
      simpa [gx,stX,col] using this
    · rw [e];exact h0 _
    · rw [e]
      have hx:C[t]? = some (C.getD t ⟨0,0⟩):=by rw [List.getD_eq_getElem?_getD,List.getElem?_eq_getElem ht];rfl
      have:=(h.car t _ hx).1
      have h7:¬ (7 + t = 0):=by omega
      simpa [gx,rw_,h7] using this
  · rcases ym_ hm with ⟨k,hk,e⟩ | ⟨t,k,ht,hk,e⟩ | ⟨t,ht,e⟩
    · rw [e]
      have:=(h.gon k _ (qI_ hk)).2
      simpa [gx,stX,col] using this
    · rw [e]
      have hb:sh R t k ≤ 4:=by
       unfold sh
       rw [List.getD_eq_getElem?_getD]
       cases hq:(R.getD t [])[k]? with
       | none=>simp
       | some n=>exact (hrow t ht).2 n (List.mem_of_getElem? hq)
      have:gx R ⟨1 + k,7 + t,0,1000000,oth S t k,0⟩ = (sh R t k:Nat):=by simp [gx]
      rw [this]
      show ((sh R t k:Nat):Int) ≤ 1000000
      omega
    · rw [e]
      have hx:C[t]? = some (C.getD t ⟨0,0⟩):=by rw [List.getD_eq_getElem?_getD,List.getElem?_eq_getElem ht];rfl
      have:=(h.car t _ hx).2
      have h7:¬ (7 + t = 0):=by omega
      simpa [gx,rw_,h7] using this
 have hl:((laid S C).map (y3_ R)).length = (laid S C).length:=by simp
 refine ⟨(laid S C).map (y3_ R),⟨⟨fun i hi=>?_,fun i hi=>?_,fun i hi=>?_,fun v hv=>?_⟩,fun i hi=>?_⟩,hsame⟩
 · rw [hl] at hi;rw [hat i hi];exact hF.node i hi
 · rw [hl] at hi;rw [hat i hi];exact hF.low i hi
 · rw [hl] at hi;rw [hat i hi]
   exact ⟨(hcls i hi).2.2,(hcls i hi).2.1⟩
 · rw [nt_ns]
   have hs6:=hO.s
   have:=ns_T (S:=S) (C:=C) (R:=R) (by omega) (fun t ht=>(hrow t ht).1) hsh v C.length (nl_ _)
   rw [laid,this]
   by_cases h0:v = 0
   · rw [if_pos h0,if_neg (by omega)]
     have e1:sm S.length (fun j=>((col R j:Nat):Int)) = sm C.length (fun t=>((rw_ R t:Nat):Int)):=by
      rw [show sm S.length (fun j=>((col R j:Nat):Int)) = sm S.length (fun j=>sm C.length fun t=>((sh R t j:Nat):Int)) from qo_ fun j _=>by rw [← hlen,col_sm]]
      rw [sm_comm]
      exact qo_ fun t ht=>row_sm (hrow t ht).1
     rw [e1];omega
   · rw [if_neg h0]
     by_cases h2:1 ≤ v∧v ≤ S.length
     · rw [if_pos h2,← hlen,col_sm];omega
     · rw [if_neg h2];rfl
 · rw [hl] at hi;rw [hat i hi]
   exact (hcls i hi).1
end Go.Proofs.LS
namespace Go.Proofs.LB
open Go.RowKit Go.Sort Go.Proofs.LF Go.Proofs.LS
set_option maxHeartbeats 4000000
set_option maxRecDepth 100000
attribute [local go_sem] q1_ q2_ q6_
end Go.Proofs.LB
namespace Go.Proofs.LB
open Go.Proofs.LF Go.Proofs.LS
theorem xG_:∀ (y:Fo) (d:Nat) (p:Option Ky),OkG d y→(∀ q,p = some q→∀ k ∈ xR_ y,byK q k < 0)→zD_ geK (d:Int) p y = 0
 | .nil,_,_,_,_=>rfl
 | .cons n l s r,d,p,⟨⟨h1,h2,h3,h4⟩,h5,h6,h7⟩,hp=>by
   have e1:zD_ geK ((d:Int) + 1) none s = 0:=by
    have:=xG_ s (d + 1) none h5 (fun q hq=>by cases hq)
    rwa [show ((d + 1:Nat):Int) = (d:Int) + 1 by omega] at this
   have e2:zD_ geK (d:Int) (some (kyOf n l)) r = 0:=xG_ r d _ h7 (fun q hq k hk=>by cases hq;exact h6 k hk)
   simp only [zD_]
   rw [if_neg (by omega),if_neg (by rw [h2];simp),if_neg (by omega),if_neg (by rw [h4];simp)]
   cases p with
   | none=>dsimp only;rw [if_neg (by simp),e1,e2];simp
   | some q=>
     have:=hp q rfl (kyOf n l) (by simp [xR_])
     have hg:geK q (kyOf n l) = false:=by simp only [geK,decide_eq_false_iff_not];omega
     dsimp only
     rw [if_neg (by rw [hg];simp),e1,e2];simp
theorem txt_bd {y:Fo} (h:qz_ y = 0):(kN_ (qa_ [] y)).length ≤ 100000:=by
 have hc:=jd_ h
 have h1:=jL_ (qa_ [] y) fun x hx=>⟨kC_ y 0 none [] (xc_ h) x hx,by have:=zF_ y [] x hx;simp at this;omega⟩
 rw [qr_] at h1
 omega
end Go.Proofs.LB
namespace Go.Proofs.LF
theorem Srt.paths {l:List Fl} (h:Srt l):SrtP (l.map Fl.p):=by unfold SrtP;rw [List.pairwise_map];exact h
theorem jN_:∀ (y:Fo) (u:List Ky),∀ x ∈ flsL u y,x.p.dropLast = u ∨ ∃ z ∈ flsL u y,z.p = x.p.dropLast
 | .nil,u,x,h=>by simp [qY_] at h
 | .cons n l s r,u,x,h=>by
   rw [qt_] at h ⊢
   rcases List.mem_cons.1 h with rfl | h
   · exact .inl (by simp)
   · rcases List.mem_append.1 h with h | h
     · rcases jN_ s _ x h with h' | ⟨z,hz,h'⟩
       · exact .inr ⟨_,List.mem_cons_self ..,h'.symm⟩
       · exact .inr ⟨z,by simp [hz],h'⟩
     · rcases jN_ r u x h with h' | ⟨z,hz,h'⟩
       · exact .inl h'
       · exact .inr ⟨z,by simp [hz],h'⟩
theorem clo_fls {y:Fo}:Clo (flsL [] y):=fun x hx h=>by
 rcases jN_ y [] x hx with h1 | h1
 · exact absurd h1 h
 · exact h1
theorem kx_:∀ {p:List Ky},p ≠ []→cmpP p.dropLast p < 0
 | [],h=>absurd rfl h
 | [a],_=>by simp [cmpP]
 | a :: b :: p,_=>by
   have h:=kx_ (p:=b :: p) (by simp)
   have e:byK a a = 0:=qR_.refl a
   rw [List.dropLast_cons_of_ne_nil (by simp),cmpP,if_neg (by simp [e])]
   exact h
theorem wj_ {a:List Fl} (ha:Srt a):∀ {ps:List (List Ky)},SrtP ps→(∀ x ∈ a,x.p ∈ ps)→ps.filterMap (rfd a) = a:=by
 intro ps hp hin
 have h1:(ps.filterMap (rfd a)).map Fl.p = a.map Fl.p:=by
  refine yI_ ?_ ha.paths fun q=>?_
  · have:(ps.filterMap (rfd a)).map Fl.p = ps.filter (fun p=>(rfd a p).isSome):=by
     clear hin hp
     induction ps with
     | nil=>rfl
     | cons p ps ih=>
       rw [List.filterMap_cons,List.filter_cons]
       cases hr:rfd a p with
       | none=>simpa using ih
       | some x=>simp [ih,(rfd_some hr).2]
    rw [this]
    exact hp.sublist List.filter_sublist
  · rw [List.mem_map,List.mem_map]
    constructor
    · rintro ⟨x,hx,rfl⟩
      obtain ⟨p,_,hp2⟩:=List.mem_filterMap.1 hx
      exact ⟨x,(rfd_some hp2).1,rfl⟩
    · rintro ⟨x,hx,rfl⟩
      have hs:(rfd a x.p).isSome = true:=xB_.2 (List.mem_map.2 ⟨x,hx,rfl⟩)
      obtain ⟨z,hz⟩:=Option.isSome_iff_exists.1 hs
      exact ⟨z,List.mem_filterMap.2 ⟨x.p,hin x hx,hz⟩,(rfd_some hz).2⟩
 have h2:∀ x ∈ ps.filterMap (rfd a),x ∈ a:=fun x hx=>by
  obtain ⟨p,_,hp2⟩:=List.mem_filterMap.1 hx
  exact (rfd_some hp2).1
 have hnd:=ha.paths.nodup
 have key:∀ (l:List Fl),l.map Fl.p = a.map Fl.p→(∀ x ∈ l,x ∈ a)→l = a:=by
  intro l h1 h2
  have hlen:l.length = a.length:=by have:=congrArg List.length h1;simpa using this
  refine List.ext_getElem hlen fun i hi hj=>?_
  have e1:l[i].p = a[i].p:=by
   have:(l.map Fl.p)[i]'(by simpa using hi) = (a.map Fl.p)[i]'(by simpa using hj):=by simp only [h1]
   simpa using this
  obtain ⟨j,hj',e2⟩:=List.getElem_of_mem (h2 l[i] (List.getElem_mem hi))
  have e3:j = i:=by
   have h4:(a.map Fl.p)[j]'(by simpa using hj') = (a.map Fl.p)[i]'(by simpa using hj):=by simp [e2,e1]
   have hp:=List.pairwise_iff_getElem.1 hnd
   rcases Nat.lt_trichotomy j i with h | h | h
   · exact absurd h4 (hp j i _ _ h)
   · exact h
   · exact absurd h4.symm (hp i j _ _ h)
  subst e3
  exact e2.symm
 exact key _ h1 h2
theorem lsF_clo {a:List Fl} (ha:Srt a) (hc:Clo a) (hne:∀ x ∈ a,x.p ≠ []):∀ (k r:List Fl),a = k ++ r→lsF k [] r = (a,[])
 | k,[],e=>by rw [e];simp [lsF]
 | k,f :: r,e=>by
   have hk:Srt k:=by rw [e] at ha;exact (List.pairwise_append.1 ha).1
   rw [lsF,if_pos,lsF_clo ha hc hne (k ++ [f]) r (by rw [e];simp)]
   by_cases h1:f.p.length = 1
   · exact .inr h1
   · left
     have hf:f ∈ a:=by rw [e];simp
     have hfp:f.p.dropLast ≠ []:=fun h=>by
      have h2:=congrArg List.length h
      rw [List.length_dropLast] at h2
      have h3:f.p.length ≠ 0:=fun h=>hne f hf (List.eq_nil_of_length_eq_zero h)
      simp at h2
      omega
     obtain ⟨z,hz,hzp⟩:=hc f hf hfp
     have hzk:z ∈ k:=by
      rw [e] at hz
      rcases List.mem_append.1 hz with h | h
      · exact h
      · exfalso
        have hlt:0 ≤ cmpP z.p f.p:=by
         rcases List.mem_cons.1 h with h | h
         · rw [h,qj_.refl];omega
         · have h4:=ha
           rw [e] at h4
           have h5:=(List.pairwise_cons.1 (List.pairwise_append.1 h4).2.1).1 z h
           have:=qj_.flip h5
           omega
        have hlt2:cmpP z.p f.p < 0:=by
         rw [hzp]
         exact kx_ (hne f hf)
        omega
     rw [kQ_ hk]
     exact xB_.2 (List.mem_map.2 ⟨z,hzk,hzp⟩)
def Above (d:Nat) (l:List Fl):Prop:=∀ x,l.head? = some x→x.p.length ≤ d
theorem xd_:∀ (y:Fo) (up:List Ky) (rest:List Fl),Above up.length rest→treF up.length (flsL up y ++ rest) = (y,y.cnt)
 | .nil,up,rest,h=>by
   cases rest with
   | nil=>rfl
   | cons x rest=>exact treF_no (by have:=h x rfl;omega)
 | .cons n l s r,up,rest,h=>by
   rw [qt_,List.cons_append,List.append_assoc,yk_ (by simp)]
   have h1:treF (up.length + 1) (flsL (up ++ [kyOf n l]) s ++ (flsL up r ++ rest)) = (s,s.cnt):=by
    have:=xd_ s (up ++ [kyOf n l]) (flsL up r ++ rest) (fun x hx=>by
     cases r with
     | nil=>have:=h x (by simpa [qY_] using hx);simp;omega
     | cons n' l' s' r'=>rw [qt_] at hx;simp at hx;subst hx;simp)
    simpa using this
   rw [h1]
   simp only
   rw [show (flsL (up ++ [kyOf n l]) s ++ (flsL up r ++ rest)).drop s.cnt = flsL up r ++ rest by rw [← vF_ (up ++ [kyOf n l]) s];simp]
   rw [xd_ r up rest h]
   simp [kyOf_n,Fo.cnt]
theorem xJ_ (y:Fo):(treF 0 (flsL [] y)).1 = y:=by
 have:=xd_ y [] [] (fun x hx=>by cases hx)
 simp only [List.append_nil,List.length_nil] at this
 rw [this]
theorem joined_is {y a b e:Fo} (ky:qz_ y = 0) (ka:qz_ a = 0) (kb:qz_ b = 0) (ke:qz_ e = 0) (hcl:∀ p,clB (flsL [] y) (flsL [] a) (flsL [] b) p = false) (hfr:∀ p,frR (flsL [] y) (flsL [] a) (flsL [] b) p = rfd (flsL [] e) p)
 (hin:∀ x ∈ flsL [] e,x.p ∈ (flsL [] a).map Fl.p):joE y a b = 0∧joY y a b = e∧joP y a b = []:=by
 have hcp:cpE [y,a,b] = 0:=by simp [cpE,ky,ka,kb]
 have hg:∀ l ∈ [flsL [] y,flsL [] a,flsL [] b],∀ q ∈ l,vk_ q.p∧q.p ≠ []:=fun l hl q hq=>by
  simp only [List.mem_cons,List.not_mem_nil,or_false] at hl
  rcases hl with rfl | rfl | rfl
  · exact ⟨ku_ ky q hq,k5_ q hq⟩
  · exact ⟨ku_ ka q hq,k5_ q hq⟩
  · exact ⟨ku_ kb q hq,k5_ q hq⟩
 obtain ⟨h5,h6⟩:=pths_spec (fun l hl x hx=>(hg l hl x hx).1)
 have hJ:jnF (flsL [] y) (flsL [] a) (flsL [] b) [] [] (pthsF [flsL [] y,flsL [] a,flsL [] b]) = (flsL [] e,[]):=by
  rw [yM_ (zJ_ ky) (zJ_ ka) (zJ_ kb)]
  have e1:(pthsF [flsL [] y,flsL [] a,flsL [] b]).filterMap (frR (flsL [] y) (flsL [] a) (flsL [] b)) = flsL [] e:=by
   rw [show frR (flsL [] y) (flsL [] a) (flsL [] b) = rfd (flsL [] e) from funext hfr]
   exact wj_ (zJ_ ke) h5 fun x hx=>(h6 x.p).2 ⟨flsL [] a,by simp,hin x hx⟩
  have e2:(pthsF [flsL [] y,flsL [] a,flsL [] b]).filter (clB (flsL [] y) (flsL [] a) (flsL [] b)) = []:=List.filter_eq_nil_iff.2 fun p _=>by simp [hcl p]
  rw [e1,e2]
  rfl
 have hjo:joF y a b = (flsL [] e,[]):=by
  unfold joF
  simp only
  rw [hJ]
  simp only
  rw [lsF_clo (zJ_ ke) clo_fls (fun x hx=>k5_ x hx) [] (flsL [] e) rfl]
  rfl
 have hE:joE y a b = 0:=by
  rw [joE,if_neg (by simp [hcp]),hjo,if_neg]
  have:=(vT_ ke).2.2
  simp only
  omega
 refine ⟨hE,?_,?_⟩
 · rw [joY,if_pos hE,hjo];exact xJ_ e
 · rw [joP,if_pos hE,hjo]
theorem kg_ (up:List Ky) (a b:Fo):flsL up (a.app b) = flsL up a ++ flsL up b:=by simp [flsL,kz_]
theorem qQ_ (A B:List Fl) (p:List Ky):rfd (A ++ B) p = (rfd A p).or (rfd B p):=by simp [rfd,List.find?_append]
theorem eqR_of {a b:List Fl} {p:List Ky} (h:rfd a p = rfd b p):eqR a b p = true:=by
 unfold eqR
 rw [h]
 cases rfd b p <;> simp
theorem j1_ {A A':List Fl} (h:A.map Fl.p = A'.map Fl.p) (p:List Ky):(rfd A p).isSome = (rfd A' p).isSome:=by
 rw [Bool.eq_iff_iff,xB_,xB_,h]
theorem vY_ {A A' B B':List Fl} (hA:A.map Fl.p = A'.map Fl.p) (p:List Ky):clB (A ++ B) (A ++ B') (A' ++ B) p = false∧frR (A ++ B) (A ++ B') (A' ++ B) p = rfd (A' ++ B') p:=by
 have h1:=j1_ hA p
 cases ha:rfd A p with
 | some x=>
   rw [ha] at h1
   obtain ⟨x',hx'⟩:=Option.isSome_iff_exists.1 h1.symm
   have e1:eqR (A ++ B) (A ++ B') p = true:=eqR_of (by rw [qQ_,qQ_,ha];rfl)
   have c:clB (A ++ B) (A ++ B') (A' ++ B) p = false:=by simp [clB,e1]
   refine ⟨c,?_⟩
   rw [frR,c,if_neg (by simp),if_pos e1,qQ_,qQ_,hx']
   rfl
 | none=>
   rw [ha] at h1
   have ha':rfd A' p = none:=by
    cases hx:rfd A' p with
    | none=>rfl
    | some _=>rw [hx] at h1;cases h1
   have e1:eqR (A ++ B) (A' ++ B) p = true:=eqR_of (by rw [qQ_,qQ_,ha,ha'])
   have c:clB (A ++ B) (A ++ B') (A' ++ B) p = false:=by simp [clB,e1]
   refine ⟨c,?_⟩
   rw [frR,c,if_neg (by simp)]
   by_cases e2:eqR (A ++ B) (A ++ B') p = true
   · rw [if_pos e2]
     have:=v9_ e2
     rw [qQ_,qQ_,ha] at this
     rw [qQ_,qQ_,ha']
     simpa using this
   · rw [if_neg e2,qQ_,qQ_,ha,ha']
theorem fm_one {β:Type} {f:List Ky→Option β} {q:List Ky}:∀ {l:List (List Ky)},l.Nodup→q ∈ l→(∀ p ∈ l,p ≠ q→f p = none)→(l.filterMap f).length = if (f q).isSome then 1 else 0
 | [],_,h,_=>by cases h
 | p :: l,hn,hq,hf=>by
   obtain ⟨h1,h2⟩:=List.nodup_cons.1 hn
   by_cases e:p = q
   · subst e
     have h0:l.filterMap f = []:=List.filterMap_eq_nil_iff.2 fun r hr=>hf r (by simp [hr]) (fun e=>h1 (e ▸ hr))
     rw [List.filterMap_cons]
     cases f p <;> simp [h0]
   · rw [List.filterMap_cons,hf p (by simp) e]
     simp only
     rcases List.mem_cons.1 hq with h | h
     · exact absurd h.symm e
     · exact fm_one h2 h fun r hr=>hf r (by simp [hr])
end Go.Proofs.LF
namespace Go.Proofs.LS
open Go.Proofs.LF Go.Proofs.LB
theorem cmpI_lt {a b:Int} (h:a < b):wy_ a b < 0:=by unfold wy_;rw [if_pos h];omega
theorem qH_ {n:List UInt8} {a b:Int} {l m:List Int} (h:a < b):byK (kyOf n (a :: l)) (kyOf n (b :: m)) < 0:=by
 simpa [byK,kyOf] using cmpI_lt h
theorem qv_ {n m:List UInt8} {l k:List Int} (h1:n ≠ m) (h2:yT_ n m < 0):byK (kyOf n l) (kyOf m k) < 0:=by
 simpa [byK,kyOf_n,h1] using h2
theorem stF_tops:∀ (r:List St) (k:Nat),∀ q ∈ xR_ (stF k r),∃ (j:Nat) (l:List Int),k ≤ j∧q = kyOf x5_ ((j:Int) :: l)
 | [],k,q,h=>by cases h
 | x :: r,k,q,h=>by
   rw [stF,xR_] at h
   rcases List.mem_cons.1 h with rfl | h
   · exact ⟨k,_,nl_ _,rfl⟩
   · obtain ⟨j,l,h1,h2⟩:=stF_tops r (k + 1) q h
     exact ⟨j,l,by omega,h2⟩
theorem teF_tops:∀ (r:List Sp) (k:Nat),∀ q ∈ xR_ (teF k r),∃ (j:Nat) (l:List Int),k ≤ j∧q = kyOf tenN ((j:Int) :: l)
 | [],k,q,h=>by cases h
 | x :: r,k,q,h=>by
   rw [teF,xR_] at h
   rcases List.mem_cons.1 h with rfl | h
   · exact ⟨k,_,nl_ _,rfl⟩
   · obtain ⟨j,l,h1,h2⟩:=teF_tops r (k + 1) q h
     exact ⟨j,l,by omega,h2⟩
def Sm9 (x:Int):Prop:=0 ≤ x∧x ≤ 9999
theorem xU_ {l:List Int} (h:∀ x ∈ l,Sm9 x):kb_ l = false:=by
 simp only [kb_,List.any_eq_false,offB,Bool.or_eq_true,decide_eq_true_eq,not_or]
 intro x hx
 have:=h x hx
 unfold Sm9 at this
 omega
theorem kid_ok {x:St} (h:∀ y ∈ spL x,Sm9 y.lo∧Sm9 y.hi):OkG 1 (kidF x):=by
 have h1:=h ⟨x.ll,x.lh⟩ (by simp [spL])
 have h2:=h ⟨x.sl,x.sh⟩ (by simp [spL])
 have h3:=h ⟨x.el,x.eh⟩ (by simp [spL])
 refine ⟨⟨by omega,by decide,by simp,xU_ (by simpa using h1)⟩,trivial,fun k hk=>?_,⟨by omega,by decide,by simp,xU_ (by simpa using h3)⟩,trivial,fun k hk=>?_,⟨by omega,by decide,by simp,xU_ (by simpa using h2)⟩,trivial,fun k hk=>?_,trivial⟩
 · simp only [xR_,List.mem_cons,List.not_mem_nil,or_false] at hk
   rcases hk with rfl | rfl
   · exact qv_ (by decide) (by decide)
   · exact qv_ (by decide) (by decide)
 · simp only [xR_,List.mem_cons,List.not_mem_nil,or_false] at hk
   subst hk
   exact qv_ (by decide) (by decide)
 · simp [xR_] at hk
theorem stF_ok:∀ (r:List St) (k:Nat) (z:Fo),k + r.length ≤ 9999→(∀ x ∈ r,Sm9 x.t∧∀ y ∈ spL x,Sm9 y.lo∧Sm9 y.hi)→OkG 0 z→(∀ q ∈ xR_ z,∃ (l:List Int),q = kyOf tenN l)→OkG 0 ((stF k r).app z)
 | [],_,_,_,_,hz,_=>hz
 | x :: r,k,z,hl,h,hz,ht=>by
   have h1:=h x (by simp)
   simp only [List.length_cons] at hl
   refine ⟨⟨by omega,by decide,by simp,xU_ ?_⟩,kid_ok h1.2,fun q hq=>?_,stF_ok r (k + 1) z (by omega) (fun y hy=>h y (by simp [hy])) hz ht⟩
   · intro v hv
     simp only [List.mem_cons,List.not_mem_nil,or_false] at hv
     rcases hv with rfl | rfl
     · exact ⟨by omega,by omega⟩
     · exact h1.1
   · rw [y6_] at hq
     rcases List.mem_append.1 hq with hq | hq
     · obtain ⟨j,l,h2,rfl⟩:=stF_tops r (k + 1) q hq
       exact qH_ (by omega)
     · obtain ⟨l,rfl⟩:=ht q hq
       exact qv_ (by decide) (by decide)
theorem teF_ok:∀ (r:List Sp) (k:Nat),k + r.length ≤ 9999→(∀ y ∈ r,Sm9 y.lo∧Sm9 y.hi)→OkG 0 (teF k r)
 | [],_,_,_=>trivial
 | x :: r,k,hl,h=>by
   have h1:=h x (by simp)
   simp only [List.length_cons] at hl
   refine ⟨⟨by omega,by decide,by simp,xU_ ?_⟩,trivial,fun q hq=>?_,teF_ok r (k + 1) (by omega) fun y hy=>h y (by simp [hy])⟩
   · intro v hv
     simp only [List.mem_cons,List.not_mem_nil,or_false] at hv
     rcases hv with rfl | rfl | rfl
     · exact ⟨by omega,by omega⟩
     · exact h1.1
     · exact h1.2
   · obtain ⟨j,l,h2,rfl⟩:=teF_tops r (k + 1) q hq
     exact qH_ (by omega)
theorem cnt_app:∀ (a b:Fo),(a.app b).cnt = a.cnt + b.cnt
 | .nil,b=>by simp [Fo.app,Fo.cnt]
 | .cons n l s r,b=>by simp only [Fo.app,Fo.cnt,cnt_app r b];omega
theorem sm_app:∀ (a b:Fo),a.Sm→b.Sm→(a.app b).Sm
 | .nil,_,_,h=>h
 | .cons n l s r,b,⟨h1,h2,h3,h4,h5⟩,h=>⟨h1,h2,h3,h4,sm_app r b h5 h⟩
theorem stF_cnt:∀ (r:List St) (k:Nat),(stF k r).cnt = 4 * r.length
 | [],_=>rfl
 | x :: r,k=>by simp only [stF,Fo.cnt,kidF,stF_cnt r,List.length_cons];omega
theorem teF_cnt:∀ (r:List Sp) (k:Nat),(teF k r).cnt = r.length
 | [],_=>rfl
 | x :: r,k=>by simp only [teF,Fo.cnt,teF_cnt r,List.length_cons];omega
theorem stF_sm:∀ (r:List St) (k:Nat),(stF k r).Sm
 | [],_=>trivial
 | x :: r,k=>⟨by decide,by simp,by simp [kidF,Fo.len],⟨by decide,by simp,by simp [Fo.len],trivial,by decide,by simp,by simp [Fo.len],trivial,by decide,by simp,by simp [Fo.len],trivial,trivial⟩,stF_sm r _⟩
theorem teF_sm:∀ (r:List Sp) (k:Nat),(teF k r).Sm
 | [],_=>trivial
 | x :: r,k=>⟨by decide,by simp,by simp [Fo.len],trivial,teF_sm r _⟩
theorem fi_len (S:List St) (C:List Sp):(fiF S C).len = S.length + C.length:=by rw [fiF,Fo.len_app,xf_,jK_]
theorem fi_cnt (S:List St) (C:List Sp):(fiF S C).cnt = 4 * S.length + C.length:=by rw [fiF,cnt_app,stF_cnt,teF_cnt]
theorem fi_sm (S:List St) (C:List Sp):(fiF S C).Sm:=sm_app _ _ (stF_sm _ _) (teF_sm _ _)
theorem okSp_9 {x:Sp} (h:jq_ x = true):Sm9 x.lo∧Sm9 x.hi:=by
 have:=zj_ h
 exact ⟨⟨by omega,by omega⟩,by omega,by omega⟩
theorem vI_ {S:List St} {C:List Sp} (h:OkSc S C):qz_ (fiF S C) = 0:=by
 have hs:=h.s
 have hc:=h.c
 have ho:OkG 0 (fiF S C):=stF_ok S 0 _ (by omega) (fun x hx=>⟨⟨(h.te x hx).1,by have:=(h.te x hx).2;omega⟩,fun y hy=>okSp_9 (h.sp y (List.mem_append_right _ (List.mem_flatMap.2 ⟨x,hx,hy⟩))).1⟩)
  (teF_ok C 0 (by omega) fun y hy=>okSp_9 (h.sp y (List.mem_append_left _ hy)).1) (fun q hq=>by obtain ⟨j,l,_,e⟩:=teF_tops C 0 q hq;exact ⟨_,e⟩)
 have h2:=xG_ _ 0 none ho (fun q hq=>by cases hq)
 unfold qz_
 rw [if_pos (by rw [fi_cnt];omega)]
 exact h2
theorem kid_p (u:List Ky) {x y:St} (h:x.ll = y.ll∧x.el = y.el∧x.sl = y.sl):(flsL u (kidF x)).map Fl.p = (flsL u (kidF y)).map Fl.p:=by
 simp [kidF,qt_,qY_,kyOf,h.1,h.2.1,h.2.2]
theorem st_p (u:List Ky):∀ (S S':List St) (k:Nat),S.length = S'.length→(∀ i,(stX S i).ll = (stX S' i).ll∧(stX S i).el = (stX S' i).el∧(stX S i).sl = (stX S' i).sl)→(flsL u (stF k S)).map Fl.p = (flsL u (stF k S')).map Fl.p
 | [],[],_,_,_=>rfl
 | [],_ :: _,_,h,_=>by simp at h
 | _ :: _,[],_,h,_=>by simp at h
 | x :: S,y :: S',k,hl,h=>by
   have h0:=h 0
   have ih:=st_p u S S' (k + 1) (by simpa using hl) (fun i=>by simpa [stX] using h (i + 1))
   rw [stF,stF,qt_,qt_]
   simp only [List.map_cons,List.map_append,kyOf]
   rw [ih,kid_p _ (by simpa [stX] using h0)]
theorem te_p (u:List Ky):∀ (C C':List Sp) (k:Nat),C.length = C'.length→(flsL u (teF k C)).map Fl.p = (flsL u (teF k C')).map Fl.p
 | [],[],_,_=>rfl
 | [],_ :: _,_,h=>by simp at h
 | _ :: _,[],_,h=>by simp at h
 | x :: C,y :: C',k,hl=>by
   have ih:=te_p u C C' (k + 1) (by simpa using hl)
   rw [teF,teF,qt_,qt_]
   simp only [List.map_cons,List.map_append,kyOf,qY_,List.map_nil,List.nil_append]
   rw [ih]
def kyT (t:Nat):Ky:=⟨tenN,true,(t:Int)⟩
theorem j0_:∀ (C:List Sp) (k t:Nat),rfd (flsL [] (teF k C)) [kyT (k + t)] = (C[t]?).map fun x=>⟨[kyT (k + t)],[((k + t:Nat):Int),x.lo,x.hi]⟩
 | [],_,_=>rfl
 | x :: C,k,0=>by simp [teF,qt_,rfd,kyOf,kyT]
 | x :: C,k,t + 1=>by
   have ih:=j0_ C (k + 1) t
   rw [show k + 1 + t = k + (t + 1) by omega] at ih
   have hne:¬ (kyOf tenN [(k:Int),x.lo,x.hi] = kyT (k + (t + 1))):=fun e=>by
    have:=congrArg Ky.x e
    simp only [kyOf,kyT] at this
    omega
   rw [teF,qt_,qY_]
   unfold rfd at ih ⊢
   rw [List.find?_cons]
   simp only [List.nil_append,List.cons.injEq,and_true,hne,decide_false]
   rw [ih]
   simp
theorem te_mem:∀ (C:List Sp) (k:Nat),∀ x ∈ flsL [] (teF k C),∃ t,t < C.length∧x.p = [kyT (k + t)]
 | [],_,x,h=>by simp [teF,qY_] at h
 | y :: C,k,x,h=>by
   rw [teF,qt_,qY_,List.nil_append] at h
   rcases List.mem_cons.1 h with rfl | h
   · exact ⟨0,by simp,by simp [kyOf,kyT]⟩
   · obtain ⟨t,h1,h2⟩:=te_mem C (k + 1) x h
     exact ⟨t + 1,by simpa using h1,by rw [h2,show k + 1 + t = k + (t + 1) by omega]⟩
theorem st_mem:∀ (S:List St) (k:Nat),∀ x ∈ flsL [] (stF k S),∃ j r,x.p = kyOf x5_ [(j:Int)] :: r
 | [],_,x,h=>by simp [stF,qY_] at h
 | y :: S,k,x,h=>by
   rw [stF,qt_] at h
   rcases List.mem_cons.1 h with rfl | h
   · exact ⟨k,[],by simp [kyOf]⟩
   · rcases List.mem_append.1 h with h | h
     · obtain ⟨q,t,e⟩:=flsL_pre _ _ x h
       exact ⟨k,q :: t,by rw [e];simp [kyOf]⟩
     · exact st_mem S (k + 1) x h
theorem st_none (S:List St) (k t:Nat):rfd (flsL [] (stF k S)) [kyT t] = none:=by
 cases h:rfd (flsL [] (stF k S)) [kyT t] with
 | none=>rfl
 | some x=>
   obtain ⟨h1,h2⟩:=rfd_some h
   obtain ⟨j,r,e⟩:=st_mem S k x h1
   rw [e] at h2
   have:x5_ = tenN:=by
    have:=congrArg (fun l=>(l.head?).map Ky.n) h2
    simpa [kyOf,kyT] using this
   exact absurd this (by decide)
theorem dif_one {S:List St} {C:List Sp} {t:Nat} {x s:Sp} (h:OkSc S C) (h':OkSc S (C.set t s)) (ht:C[t]? = some x):w9_ (fiF S C) (fiF S (C.set t s)) = 0∧(jA_ (fiF S C) (fiF S (C.set t s))).length = if s = x then 0 else 1:=by
 have k1:=vI_ h
 have k2:=vI_ h'
 have hE:w9_ (fiF S C) (fiF S (C.set t s)) = 0:=by simp [w9_,k1,k2]
 refine ⟨hE,?_⟩
 have htl:t < C.length:=(List.getElem?_eq_some_iff.1 ht).1
 rw [jA_,if_pos hE,dfF]
 have hg:∀ l ∈ [flsL [] (fiF S C),flsL [] (fiF S (C.set t s))],∀ x ∈ l,vk_ x.p:=fun l hl q hq=>by
  simp only [List.mem_cons,List.not_mem_nil,or_false] at hl
  rcases hl with rfl | rfl
  · exact ku_ k1 q hq
  · exact ku_ k2 q hq
 obtain ⟨p1,p2⟩:=pths_spec hg
 have e1:∀ p,rfd (flsL [] (fiF S C)) p = (rfd (flsL [] (stF 0 S)) p).or (rfd (flsL [] (teF 0 C)) p):=fun p=>by rw [fiF,kg_,qQ_]
 have e2:∀ p,rfd (flsL [] (fiF S (C.set t s))) p = (rfd (flsL [] (stF 0 S)) p).or (rfd (flsL [] (teF 0 (C.set t s))) p):=fun p=>by rw [fiF,kg_,qQ_]
 have a1:=j0_ C 0 t
 have a2:=j0_ (C.set t s) 0 t
 rw [Nat.zero_add] at a1 a2
 rw [ht] at a1
 rw [List.getElem?_set_self htl] at a2
 have f1:rfd (flsL [] (fiF S C)) [kyT t] = some ⟨[kyT t],[(t:Int),x.lo,x.hi]⟩:=by rw [e1,st_none,a1];rfl
 have f2:rfd (flsL [] (fiF S (C.set t s))) [kyT t] = some ⟨[kyT t],[(t:Int),s.lo,s.hi]⟩:=by rw [e2,st_none,a2];rfl
 have hsm:∀ p,smF (flsL [] (fiF S C)) (flsL [] (fiF S (C.set t s))) p = eqR (flsL [] (fiF S C)) (flsL [] (fiF S (C.set t s))) p:=xE_ (zJ_ k1) (zJ_ k2)
 rw [fm_one (q:=[kyT t]) p1.nodup ((p2 _).2 ⟨_,by simp,List.mem_map.2 ⟨_,(rfd_some f1).1,rfl⟩⟩)]
 · unfold chD
   rw [hsm,eqR,f1,f2]
   by_cases hx:s = x
   · subst hx;simp
   · have:¬ (x.lo = s.lo∧x.hi = s.hi):=fun ⟨h1,h2⟩=>hx (by cases x;cases s;simp at h1 h2;rw [h1,h2])
     simp [hx,this]
 · intro p hp hne
   have:eqR (flsL [] (fiF S C)) (flsL [] (fiF S (C.set t s))) p = true:=by
    refine eqR_of ?_
    rw [e1,e2]
    cases rfd (flsL [] (stF 0 S)) p with
    | some _=>rfl
    | none=>
      show rfd (flsL [] (teF 0 C)) p = rfd (flsL [] (teF 0 (C.set t s))) p
      have hps:=j1_ (te_p [] C (C.set t s) 0 (by simp)) p
      cases hr:rfd (flsL [] (teF 0 C)) p with
      | none=>
        rw [hr] at hps
        cases hr2:rfd (flsL [] (teF 0 (C.set t s))) p with
        | none=>rfl
        | some _=>rw [hr2] at hps;cases hps
      | some z=>
        obtain ⟨z1,z2⟩:=rfd_some hr
        obtain ⟨i,hi,e⟩:=te_mem C 0 z z1
        rw [Nat.zero_add] at e
        rw [z2] at e
        subst e
        have b1:=j0_ C 0 i
        have b2:=j0_ (C.set t s) 0 i
        rw [Nat.zero_add] at b1 b2
        have hit:t ≠ i:=fun e=>hne (by rw [e])
        rw [List.getElem?_set_ne hit] at b2
        rw [← hr,b1,b2]
   unfold chD
   rw [hsm,this]
   simp
theorem join_fi {S S':List St} {C C':List Sp} (h1:OkSc S C) (h2:OkSc S C') (h3:OkSc S' C) (h4:OkSc S' C') (hl:S.length = S'.length) (hS:∀ i,(stX S i).ll = (stX S' i).ll∧(stX S i).el = (stX S' i).el∧(stX S i).sl = (stX S' i).sl) (hc:C.length = C'.length) :
 joE (fiF S C) (fiF S C') (fiF S' C) = 0∧joY (fiF S C) (fiF S C') (fiF S' C) = fiF S' C'∧joP (fiF S C) (fiF S C') (fiF S' C) = []:=by
 have hp:=st_p [] S S' 0 hl hS
 refine joined_is (vI_ h1) (vI_ h2) (vI_ h3) (vI_ h4) (fun p=>?_) (fun p=>?_) fun x hx=>?_
 · simp only [fiF,kg_]
   exact (vY_ hp p).1
 · simp only [fiF,kg_]
   exact (vY_ hp p).2
 · have:x.p ∈ (flsL [] (fiF S' C')).map Fl.p:=List.mem_map.2 ⟨x,hx,rfl⟩
   simpa only [fiF,kg_,List.map_append,hp] using this
inductive R2:List Way→List Way→Prop
 | nil:R2 [] []
 | cons {a b:Way} {l m:List Way}:(a.f = b.f∧a.t = b.t∧0 ≤ a.lo∧a.lo ≤ b.lo∧b.hi ≤ a.hi∧a.cost = b.cost)→R2 l m→R2 (a :: l) (b :: m)
theorem R2.app {a b c d:List Way} (h:R2 a b) (h2:R2 c d):R2 (a ++ c) (b ++ d):=by
 induction h with
 | nil=>exact h2
 | cons h _ ih=>exact .cons h ih
theorem R2.at {l m:List Way} (h:R2 l m):l.length = m.length∧∀ i,i < l.length→(at_ l i).f = (at_ m i).f∧(at_ l i).t = (at_ m i).t∧0 ≤ (at_ l i).lo∧(at_ l i).lo ≤ (at_ m i).lo∧(at_ m i).hi ≤ (at_ l i).hi∧(at_ l i).cost = (at_ m i).cost:=by
 induction h with
 | nil=>exact ⟨rfl,fun i hi=>by simp at hi⟩
 | cons h _ ih=>
   refine ⟨by simp [ih.1],fun i hi=>?_⟩
   cases i with
   | zero=>exact h
   | succ i=>exact ih.2 i (by simpa using hi)
theorem R2.refl {l:List Way} (h:∀ x ∈ l,0 ≤ x.lo):R2 l l:=by
 induction l with
 | nil=>exact .nil
 | cons x l ih=>exact .cons ⟨rfl,rfl,h x (by simp),by omega,by omega,rfl⟩ (ih fun y hy=>h y (by simp [hy]))
theorem laid_le {S S':List St} {C:List Sp} (hl:S.length = S'.length) (ht:∀ i,(stX S i).t = (stX S' i).t) (hg:∀ i,(qU_ (stX S' i)).lo = (qU_ (stX S i)).lo∧(qU_ (stX S i)).hi ≤ (qU_ (stX S' i)).hi) (hC:∀ x ∈ C,0 ≤ x.lo):R2 (laid S' C) (laid S C):=by
 have h1:∀ k,R2 (zI_ S' k) (zI_ S k):=by
  intro k
  induction k with
  | zero=>exact .nil
  | succ k ih=>
    refine ih.app (.cons ⟨rfl,rfl,?_,?_,?_,rfl⟩ .nil)
    · show 0 ≤ (qU_ (stX S' k)).lo
      unfold qU_;simp only;omega
    · show (qU_ (stX S' k)).lo ≤ (qU_ (stX S k)).lo
      have:=(hg k).1;omega
    · exact (hg k).2
 have h2:∀ t,laidR S' t = laidR S t:=fun t=>by
  have e1:∀ k,rch S' t k = rch S t k:=fun k=>by
   unfold rch
   rw [hl]
   congr 1
   funext i
   have:=ht i
   unfold stX at this
   rw [this]
  have e2:∀ k,oth S' t k = oth S t k:=fun k=>by
   unfold oth
   have:=ht k
   unfold stX at this
   rw [this]
  unfold laidR
  rw [hl]
  simp only [e1,e2]
 have h3:∀ n,R2 (laidT S' C n) (laidT S C n):=by
  intro n
  induction n with
  | zero=>rw [laidT,laidT,hl];exact h1 _
  | succ n ih=>
    rw [laidT,laidT,h2]
    refine (ih.app (R2.refl fun x hx=>?_)).app (.cons ⟨rfl,rfl,?_,by simp,by simp,rfl⟩ .nil)
    · obtain ⟨k,_,rfl⟩:=List.mem_map.1 hx
      exact Int.le_refl _
    · show 0 ≤ (C.getD n ⟨0,0⟩).lo
      rw [List.getD_eq_getElem?_getD]
      cases hq:C[n]? with
      | none=>simp
      | some z=>exact hC z (List.mem_of_getElem? hq)
 exact h3 _
def mor (x:St):St:={ x with sh:=min 30 (x.sh + 1) }
theorem mor_b {x:St} (h:x.sh ≤ 30):x.sh ≤ (mor x).sh∧(mor x).sh ≤ 30:=by simp only [mor];omega
theorem set_st (S:List St) (k i:Nat):stX (S.set k (mor (stX S k))) i = stX S i ∨ (i = k∧stX (S.set k (mor (stX S k))) i = mor (stX S i)):=by
 unfold stX
 rw [List.getD_eq_getElem?_getD,List.getD_eq_getElem?_getD,List.getD_eq_getElem?_getD,List.getElem?_set]
 by_cases h:k = i
 · subst h
   by_cases h2:k < S.length
   · simp [h2]
   · simp [h2]
 · simp [h]
theorem sh_le {S:List St} {C:List Sp} (h:OkSc S C) {x:St} (hx:x ∈ S):x.sh ≤ 30∧(jq_ ⟨x.sl,x.sh⟩ = true∧x.sl ≤ x.sh):=by
 have:=h.sp ⟨x.sl,x.sh⟩ (List.mem_append_right _ (List.mem_flatMap.2 ⟨x,hx,by simp [spL]⟩))
 exact ⟨(zj_ this.1).2.2,this⟩
theorem okSp_i {a b:Int} (h:0 ≤ a∧a ≤ 30∧0 ≤ b∧b ≤ 30):jq_ ⟨a,b⟩ = true:=by
 rw [jq_,Bool.and_eq_true,inI,inI,Bool.and_eq_true,Bool.and_eq_true,decide_eq_true_iff,decide_eq_true_iff,decide_eq_true_iff,decide_eq_true_iff]
 exact ⟨⟨h.1,h.2.1⟩,h.2.2⟩
theorem ok_mor {S:List St} {C:List Sp} {k:Nat} (h:OkSc S C) (hk:k < S.length):OkSc (S.set k (mor (stX S k))) C:=by
 have hm:stX S k ∈ S:=List.mem_of_getElem? (qI_ hk)
 obtain ⟨g1,g2,g3⟩:=sh_le h hm
 have gb:=mor_b g1
 have hx:∀ x ∈ S.set k (mor (stX S k)),x ∈ S ∨ x = mor (stX S k):=fun x hx=>List.mem_or_eq_of_mem_set hx
 refine ⟨by simpa using h.s,h.c,fun x hxx=>?_,fun x hxx=>?_,fun x hxx=>?_⟩
 · rcases List.mem_append.1 hxx with h1 | h1
   · exact h.sp x (List.mem_append_left _ h1)
   · obtain ⟨y,hy,hxy⟩:=List.mem_flatMap.1 h1
     rcases hx y hy with h2 | rfl
     · exact h.sp x (List.mem_append_right _ (List.mem_flatMap.2 ⟨y,h2,hxy⟩))
     · simp only [spL,List.mem_cons,List.not_mem_nil,or_false] at hxy
       rcases hxy with rfl | rfl | rfl
       · exact h.sp _ (List.mem_append_right _ (List.mem_flatMap.2 ⟨_,hm,by simp [spL,mor]⟩))
       · have b:=zj_ g2
         refine ⟨okSp_i ⟨b.1.1,b.1.2,?_,gb.2⟩,?_⟩
         · have:=b.2.1;simp only at this;omega
         · show (stX S k).sl ≤ (mor (stX S k)).sh
           omega
       · exact h.sp _ (List.mem_append_right _ (List.mem_flatMap.2 ⟨_,hm,by simp [spL,mor]⟩))
 · rcases hx x hxx with h2 | rfl
   · exact h.te x h2
   · exact h.te (stX S k) hm
 · rcases hx x hxx with h2 | rfl
   · exact h.go x h2
   · have:=h.go _ hm
     show 0 ≤ (stX S k).lh + (mor (stX S k)).sh - (stX S k).el
     have e:(qU_ (stX S k)).hi = (stX S k).lh + (stX S k).sh - (stX S k).el:=rfl
     omega
theorem rch_t {S S':List St} (hl:S.length = S'.length) (ht:∀ i,(stX S i).t = (stX S' i).t) (t k:Nat):rch S' t k = rch S t k:=by
 unfold rch
 rw [hl]
 congr 1
 funext i
 have:=ht i
 unfold stX at this
 rw [this]
theorem mor_t (S:List St) (k i:Nat):(stX S i).t = (stX (S.set k (mor (stX S k))) i).t∧((stX S i).ll = (stX (S.set k (mor (stX S k))) i).ll∧(stX S i).el = (stX (S.set k (mor (stX S k))) i).el∧(stX S i).sl = (stX (S.set k (mor (stX S k))) i).sl):=by
 rcases set_st S k i with h | ⟨_,h⟩ <;> rw [h] <;> exact ⟨rfl,rfl,rfl,rfl⟩
theorem mor_g {S:List St} {C:List Sp} (h:OkSc S C) (k i:Nat):(qU_ (stX (S.set k (mor (stX S k))) i)).lo = (qU_ (stX S i)).lo∧(qU_ (stX S i)).hi ≤ (qU_ (stX (S.set k (mor (stX S k))) i)).hi:=by
 rcases set_st S k i with e | ⟨rfl,e⟩
 · rw [e];exact ⟨rfl,Int.le_refl _⟩
 · rw [e]
   refine ⟨rfl,?_⟩
   show (stX S i).lh + (stX S i).sh - (stX S i).el ≤ (stX S i).lh + (mor (stX S i)).sh - (stX S i).el
   have:(stX S i).sh ≤ 30:=by
    by_cases hi:i < S.length
    · exact (sh_le h (List.mem_of_getElem? (qI_ hi))).1
    · unfold stX;rw [List.getD_eq_getElem?_getD,List.getElem?_eq_none (by omega)];decide
   have:=(mor_b this).1
   omega
theorem sh_mor {S:List St} {C:List Sp} {R:List (List Nat)} {k:Nat} (h:OkSc S C) (hR:ShF S C R) (hk:k < S.length):ShF (S.set k (mor (stX S k))) C R:=by
 refine ⟨hR.len,fun l hl=>by simpa using hR.row l hl,fun t j n h1 h2=>?_,hR.car,fun j x hx=>?_⟩
 · rw [rch_t (S:=S) (by simp) (fun i=>(mor_t S k i).1)]
   exact hR.rch t j n h1 h2
 · have hj:j < S.length:=by have:=(List.getElem?_eq_some_iff.1 hx).1;simpa using this
   have e:x = stX (S.set k (mor (stX S k))) j:=by
    have:=qI_ (S:=S.set k (mor (stX S k))) (i:=j) (by simpa using hj)
    rw [hx] at this
    exact Option.some.inj this
   subst e
   have g:=mor_g h k j
   have:=hR.gon j _ (qI_ hj)
   omega
theorem ok_set {S:List St} {C:List Sp} {R:List (List Nat)} {t:Nat} (h:OkSc S C) (hR:ShF S C R) (ht:t < C.length):OkSc S (C.set t ⟨(rw_ R t:Nat),(rw_ R t:Nat)⟩)∧ShF S (C.set t ⟨(rw_ R t:Nat),(rw_ R t:Nat)⟩) R:=by
 have hx:C[t]? = some C[t]:=List.getElem?_eq_getElem ht
 have hb:=zj_ (h.sp C[t] (List.mem_append_left _ (List.getElem_mem ht))).1
 have hc:=hR.car t _ hx
 have hr:(((R.getD t []).sum:Nat):Int) = (rw_ R t:Nat):=rfl
 rw [hr] at hc
 refine ⟨⟨h.s,by simpa using h.c,fun x hxx=>?_,fun x hxx=>by simpa using h.te x hxx,h.go⟩,⟨by simpa using hR.len,hR.row,hR.rch,fun i x hi=>?_,hR.gon⟩⟩
 · rcases List.mem_append.1 hxx with h1 | h1
   · rcases List.mem_or_eq_of_mem_set h1 with h2 | rfl
     · exact h.sp x (List.mem_append_left _ h2)
     · exact ⟨okSp_i ⟨by omega,by omega,by omega,by omega⟩,Int.le_refl _⟩
   · exact h.sp x (List.mem_append_right _ h1)
 · by_cases e:t = i
   · subst e
     rw [List.getElem?_set_self ht] at hi
     obtain rfl:=Option.some.inj hi
     rw [hr]
     exact ⟨Int.le_refl _,Int.le_refl _⟩
   · rw [List.getElem?_set_ne e] at hi
     exact hR.car i x hi
end Go.Proofs.LS
namespace Go.Proofs.LS
open Go.RowKit Go.Sort Go.Proofs.LF Go.Proofs.LB
set_option maxHeartbeats 4000000
set_option maxRecDepth 100000
attribute [local go_sem] q1_ q2_ q6_
structure FiT (Y:Fo) (n:Nat) (T:List UInt8):Prop where
 ln:Y.len = n
 n1:n ≤ 11
 cn:Y.cnt ≤ 29
 sm:Y.Sm
 ck:qz_ Y = 0
 tx:kN_ (qa_ [] Y) = T
 tl:T.length ≤ 100000
 pr:(prs T).2 = (0,0,0)
 py:yc_ T = Y
theorem fiT {S:List St} {C:List Sp} (h:OkSc S C):∃ T,FiT (fiF S C) (S.length + C.length) T:=by
 have hk:=vI_ h
 have hp:=prs_txt hk
 have hs:=h.s
 have hc:=h.c
 refine ⟨_,fi_len S C,by omega,by rw [fi_cnt];omega,fi_sm S C,hk,rfl,txt_bd hk,by rw [hp],?_⟩
 unfold yc_
 rw [hp,if_pos rfl]
 exact xJ_ _
theorem vn_ {S:List St} {C:List Sp} {ls lc n:Nat} {T:List UInt8} (hY:FiT (fiF S C) n T) (hls:S.length = ls) (hlc:C.length = lc) (hl:ls ≤ 6∧lc ≤ 5) {W:World} {as_ ac:Option Addr} {cs_ cc:Nat} (hs:LSl v3_ (fun q=>q < W.heap.size) W (.slice as_ ls cs_) S) (hc:LSl vO_ (fun q=>q < W.heap.size) W (.slice ac lc cc) C) :
 Calls Tryz.prog 17 #[.agg #[.slice as_ ls cs_, .slice ac lc cc]] W fun e w'=>∃ a c,e = .returned (.slice a n c)∧In w' (.slice a n c) (fiF S C)∧Below W.heap.size W w':=by
 subst hls hlc
 have h:=filed_any S C as_ ac cs_ cc W hs hc (by omega) (by omega)
 rw [hY.ln] at h
 exact h
theorem print_f {Y:Fo} {n:Nat} {T:List UInt8} (hY:FiT Y n T) {W:World} {a:Option Addr} {c:Nat} (hv:In W (.slice a n c) Y) (ht:Pow W) :
 Calls Tryz.prog 10 #[.slice a n c] W fun e w'=>e = .returned (.tuple #[.string (bs T), .int .i64 0])∧Below W.heap.size W w':=by
 have h:=xS_ Y a c (fun q=>q < W.heap.size) W (by rw [hY.ln];exact hv) (fun _ e=>e) (by rw [hY.ln];have:=hY.n1;omega) hY.sm (by have:=hY.cn;omega) ht
 rw [hY.ck,if_pos rfl,hY.tx,hY.ln] at h
 exact h
theorem parse_f {Y:Fo} {n:Nat} {T:List UInt8} (hY:FiT Y n T) (W:World) :
 Calls Tryz.prog 11 #[.string (bs T)] W fun e w'=>∃ a c,e = .returned (.tuple #[.slice a n c, .int .i64 0, .int .i64 0, .int .i64 0])∧In w' (.slice a n c) Y∧Below W.heap.size W w':=by
 refine (vj_ T W hY.tl).mono fun e w' ⟨a,c,h1,h2,h3⟩=>⟨a,c,?_,?_,h3⟩
 · rw [h1,hY.pr,hY.py,hY.ln];rfl
 · rw [hY.py,hY.ln] at h2
   exact h2.wide fun _ e=>e.2
theorem alike_f {Y:Fo} {n:Nat} {T:List UInt8} (hY:FiT Y n T) {W:World} {a b:Option Addr} {c d:Nat} (ha:In W (.slice a n c) Y) (hb:In W (.slice b n d) Y) :
 Calls Tryz.prog 18 #[.slice a n c, .slice b n d] W fun e w'=>e = .returned (.bool true)∧Below W.heap.size W w':=by
 have h:=(vs_ 30).2 Y Y a c b d (fun q=>q < W.heap.size) W (by have:=hY.cn;omega) (by rw [hY.ln];exact ha) (by rw [hY.ln];exact hb) (fun _ e=>e) (by rw [hY.ln];have:=hY.n1;omega) (by rw [hY.ln];have:=hY.n1;omega) hY.sm hY.sm
 rw [hY.ln,decide_eq_true rfl] at h
 exact h
theorem diff_f {S:List St} {C:List Sp} {t n:Nat} {x s:Sp} {T T':List UInt8} (h:OkSc S C) (h':OkSc S (C.set t s)) (ht:C[t]? = some x) (hY:FiT (fiF S C) n T) (hZ:FiT (fiF S (C.set t s)) n T') {W:World} {a b:Option Addr} {c d:Nat} (ha:In W (.slice a n c) (fiF S C)) (hb:In W (.slice b n d) (fiF S (C.set t s))) (hp:Pow W) :
 Calls Tryz.prog 20 #[.slice a n c, .slice b n d] W fun e w'=>∃ a c,e = .returned (.tuple #[.slice a (if s = x then 0 else 1) c, .int .i64 0])∧Below W.heap.size W w':=by
 obtain ⟨h1,h2⟩:=dif_one h h' ht
 have hd:=Diff_u (fiF S C) (fiF S (C.set t s)) a b c d (fun q=>q < W.heap.size) W (by rw [hY.ln];exact ha) (by rw [hZ.ln];exact hb) (fun _ e=>e) (by rw [hY.ln];have:=hY.n1;omega) (by rw [hZ.ln];have:=hY.n1;omega) hY.sm hZ.sm (by have:=hY.cn;omega) (by have:=hZ.cn;omega) hp
 rw [hY.ln,hZ.ln] at hd
 refine hd.mono fun e w' ⟨a,c,e1,_,e3⟩=>⟨a,c,?_,e3⟩
 rw [e1,h1,h2]
theorem join_f {S S':List St} {C C':List Sp} {n:Nat} {T1 T2 T3 T4:List UInt8} (h1:OkSc S C) (h2:OkSc S C') (h3:OkSc S' C) (h4:OkSc S' C') (hl:S.length = S'.length) (hS:∀ i,(stX S i).ll = (stX S' i).ll∧(stX S i).el = (stX S' i).el∧(stX S i).sl = (stX S' i).sl) (hc:C.length = C'.length)
 (y1:FiT (fiF S C) n T1) (y2:FiT (fiF S C') n T2) (y3:FiT (fiF S' C) n T3) (y4:FiT (fiF S' C') n T4) {W:World} {ax ay az:Option Addr} {cx cy cz:Nat} (hx:In W (.slice ax n cx) (fiF S C)) (hy:In W (.slice ay n cy) (fiF S C')) (hz:In W (.slice az n cz) (fiF S' C)) (ht:Pow W) :
 Calls Tryz.prog 8 #[.slice ax n cx, .slice ay n cy, .slice az n cz] W fun e w'=>∃ a c a' c',e = .returned (.tuple #[.slice a n c, .slice a' 0 c', .int .i64 0])∧FSl (Rg W.heap.size w'.heap.size) w' (.slice a n c) (fiF S' C')∧Below W.heap.size W w':=by
 obtain ⟨j1,j2,j3⟩:=join_fi h1 h2 h3 h4 hl hS hc
 have n1:=y1.n1
 have h:=Join_u (fiF S C) (fiF S C') (fiF S' C) ax ay az cx cy cz (fun q=>q < W.heap.size) W (by rw [y1.ln];exact hx) (by rw [y2.ln];exact hy) (by rw [y3.ln];exact hz) (fun _ e=>e) ⟨by rw [y1.ln];omega,y1.sm,by have:=y1.cn;omega⟩ ⟨by rw [y2.ln];omega,y2.sm,by have:=y2.cn;omega⟩ ⟨by rw [y3.ln];omega,y3.sm,by have:=y3.cn;omega⟩ ht
 rw [y1.ln,y2.ln,y3.ln] at h
 refine h.mono fun e w' hj=>?_
 obtain ⟨a,c,a',c',he,hf,hp,hb⟩:=hj
 rw [j1,j2,j3,y4.ln] at he
 rw [j2,y4.ln] at hf
 exact ⟨a,c,a',c',he,FSlU.fsl hf,hb⟩
theorem least_f {S:List St} {C:List Sp} {R:List (List Nat)} (h:OkSc S C) (hR:ShF S C R) {ls lc:Nat} (hls:S.length = ls) (hlc:C.length = lc) {W:World} {as_ ac:Option Addr} {cs_ cc:Nat} (hs:LSl v3_ (fun q=>q < W.heap.size) W (.slice as_ ls cs_) S) (hc:LSl vO_ (fun q=>q < W.heap.size) W (.slice ac lc cc) C) :
 Calls Tryz.prog 23 #[.agg #[.slice as_ ls cs_, .slice ac lc cc]] W fun e w'=>∃ r ws,e = .returned (.tuple #[r, .int .i64 (costW ws), .int .i64 0])∧Fit ws∧z6_ (laid S C) ws∧(∀ ys,z6_ (laid S C) ys→Fit ys→costW ws ≤ costW ys)∧Below W.heap.size W w':=by
 subst hls hlc
 obtain ⟨xs,h1,h2⟩:=fit_real h hR
 exact Least_any S C xs as_ ac cs_ cc _ W hs hc (fun _ e=>e) h h1 h2
theorem less_f {S:List St} {C:List Sp} {k:Nat} (h:OkSc S C) {ws xs:List Way} (hw:∀ ys,z6_ (laid (S.set k (mor (stX S k))) C) ys→Fit ys→costW ws ≤ costW ys) (hs:z6_ (laid (S.set k (mor (stX S k))) C) ws) (hx:Fit xs) (hS:z6_ (laid S C) xs):costW ws ≤ costW xs:=by
 have hr:=(laid_le (S:=S) (S':=S.set k (mor (stX S k))) (C:=C) (by simp) (fun i=>(mor_t S k i).1) (fun i=>mor_g h k i) (fun x hx=>by have:=zj_ (h.sp x (List.mem_append_left _ hx)).1;omega)).at
 refine filled_le (ws:=laid (S.set k (mor (stX S k))) C) hw hx hS hr.1 hr.2
theorem weigh_f {S:List St} {C:List Sp} {R:List (List Nat)} {t:Nat} {wa:Sp} {as_ ac:Option Addr} {ls lc cs_ cc:Nat} {W:World} (h:OkSc S C) (hR:ShF S C R) (ht:C[t]? = some wa) (hls:S.length = ls) (hlc:C.length = lc) (hs:LSl v3_ (fun b=>b < W.heap.size) W (.slice as_ ls cs_) S) (hc:LSl vO_ (fun b=>b < W.heap.size) W (.slice ac lc cc) C) :
 Calls Tryz.prog 19 #[.agg #[.slice as_ ls cs_, .slice ac lc cc], .int .i64 t, .agg #[.int .i64 (rw_ R t:Nat), .int .i64 (rw_ R t:Nat)]] W fun e w'=>∃ a c a' c',e = .returned (.tuple #[.agg #[.slice a ls c, .slice a' lc c'], .int .i64 0])∧LSl v3_ (fun b=>b < w'.heap.size) w' (.slice a ls c) S∧LSl vO_ (fun b=>b < w'.heap.size) w' (.slice a' lc c') (C.set t ⟨(rw_ R t:Nat),(rw_ R t:Nat)⟩)∧Below W.heap.size W w':=by
 subst hls hlc
 have hb:=zj_ (h.sp wa (List.mem_append_left _ (List.mem_of_getElem? ht))).1
 have hcr:=hR.car t _ ht
 have hr:(((R.getD t []).sum:Nat):Int) = (rw_ R t:Nat):=rfl
 rw [hr] at hcr
 have hw:=Weigh_any S C t ⟨(rw_ R t:Nat),(rw_ R t:Nat)⟩ wa as_ ac cs_ cc W hs hc h ht ⟨okSp_i ⟨by omega,by omega,by omega,by omega⟩,Int.le_refl _⟩ (by simp only;omega)
 simp only at hw
 rw [show max wa.lo ((rw_ R t:Nat):Int) = (rw_ R t:Nat) by omega,show min wa.hi ((rw_ R t:Nat):Int) = (rw_ R t:Nat) by omega] at hw
 exact hw
end Go.Proofs.LS