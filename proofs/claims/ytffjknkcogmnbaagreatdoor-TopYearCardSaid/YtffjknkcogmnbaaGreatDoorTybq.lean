/- Parts of the proof of a law of layer 11 (file): LbT8p. The conditions stand in each theorem. -/
import Derived.Test.YtffjknkcogmnbaaGreatDoorProg
import Derived.Test.YtffjknkcogmnbaaGreatDoorTybo
set_option linter.all false
set_option linter.unusedVariables false
set_option linter.unusedSimpArgs false
namespace Go.Proofs.LB
open Go.Proofs.LF Go.Proofs.LS
def kyS (i:Nat):Ky:=⟨k4_,true,(i:Int)⟩
def flS (l:List Su) (i:Nat):Fl:=⟨[kyS i],j5_ l i⟩
theorem zR_ (l:List Su):∀ ids:List Nat,flsL [] (qy_ l ids) = ids.map (flS l)
 | []=>rfl
 | i :: r=>by
   have h:=zR_ l r
   unfold flsL at h ⊢
   simp only [qy_,qa_,List.nil_append,List.map_cons,h]
   rfl
theorem xH_ (l:List Su):∀ ids:List Nat,xX_ (qy_ l ids) = ids.map kyS
 | []=>rfl
 | i :: r=>by
   simp only [qy_,xX_,List.map_cons,xH_ l r]
   rfl
theorem zQ_ (l:List Su):∀ ids:List Nat,(qy_ l ids).cnt = ids.length
 | []=>rfl
 | i :: r=>by
   simp only [qy_,Fo.cnt,List.length_cons,zQ_ l r]
   omega
theorem byK_kyS {i j:Nat} (h:i < j):byK (kyS i) (kyS j) < 0:=by
 have hc:wo_ (i:Int) (j:Int) < 0:=by unfold wo_;repeat' split <;> omega
 simpa [byK,kyS] using hc
theorem cmpP_kyS {i j:Nat} (h:i < j):cmpP [kyS i] [kyS j] < 0:=by
 have:=byK_kyS h
 have h2:byK (kyS i) (kyS j) ≠ 0:=by omega
 simp only [cmpP]
 simp [h2,this]
theorem kyS_inj {i j:Nat} (h:kyS i = kyS j):i = j:=by
 have:=congrArg Ky.x h
 simp only [kyS] at this
 omega
theorem jY_ (l:List Su):∀ ids:List Nat,ids.Pairwise (· < ·)→(∀ i ∈ ids,zd_ (j5_ l i) = false)→OkG 0 (qy_ l ids)
 | [],_,_=>trivial
 | i :: r,hs,hk=>by
   obtain ⟨h1,h2⟩:=List.pairwise_cons.1 hs
   refine ⟨⟨by omega,by decide,by simp [j5_],hk i (by simp)⟩,trivial,fun k hk'=>?_,jY_ l r h2 fun j hj=>hk j (by simp [hj])⟩
   rw [xH_] at hk'
   obtain ⟨j,hj,rfl⟩:=List.mem_map.1 hk'
   exact byK_kyS (h1 j hj)
theorem xe_:∀ (y:Fo) (d:Nat) (p:Option Ky),OkG d y→(∀ q,p = some q→∀ k ∈ xX_ y,byK q k < 0)→zA_ geK (d:Int) p y = 0
 | .nil,_,_,_,_=>rfl
 | .cons n l s r,d,p,⟨⟨h1,h2,h3,h4⟩,h5,h6,h7⟩,hp=>by
   have e1:zA_ geK ((d:Int) + 1) none s = 0:=by
    have:=xe_ s (d + 1) none h5 (fun q hq=>by cases hq)
    rwa [show ((d + 1:Nat):Int) = (d:Int) + 1 by omega] at this
   have e2:zA_ geK (d:Int) (some (qn_ n l)) r = 0:=xe_ r d _ h7 (fun q hq k hk=>by cases hq;exact h6 k hk)
   simp only [zA_]
   rw [if_neg (by omega),if_neg (by rw [h2];simp),if_neg (by omega),if_neg (by rw [h4];simp)]
   cases p with
   | none=>dsimp only;rw [if_neg (by simp),e1,e2];simp
   | some q=>
     have:=hp q rfl (qn_ n l) (by simp [xX_])
     have hg:geK q (qn_ n l) = false:=by simp only [geK,decide_eq_false_iff_not];omega
     dsimp only
     rw [if_neg (by rw [hg];simp),e1,e2];simp
theorem kV_ {l:List Su} {ids:List Nat} (hs:ids.Pairwise (· < ·)) (hk:∀ i ∈ ids,zd_ (j5_ l i) = false) (hn:ids.length ≤ 60):qS_ (qy_ l ids) = 0:=by
 have h:=xe_ _ 0 none (jY_ l ids hs hk) (fun q hq=>by cases hq)
 unfold qS_
 rw [if_pos (by rw [zQ_];exact hn)]
 exact h
theorem kF_ (l:List Su) (i:Nat):∀ ids:List Nat,rfd (ids.map (flS l)) [kyS i] = if i ∈ ids then some (flS l i) else none
 | []=>rfl
 | j :: r=>by
   have h:=kF_ l i r
   unfold rfd at h ⊢
   rw [List.map_cons,List.find?_cons]
   by_cases e:j = i
   · subst e
     simp [flS]
   · have hne:¬ (kyS j = kyS i):=fun h=>e (kyS_inj h)
     have hd:decide ((flS l j).p = [kyS i]) = false:=by simp [flS,hne]
     rw [hd]
     simp only
     rw [h]
     have:(i ∈ j :: r) = (i ∈ r):=by simp [Ne.symm e]
     simp only [this]
theorem xp_ (l:List Su) (a b:List Nat) (i:Nat):eqR (a.map (flS l)) (b.map (flS l)) [kyS i] = decide (i ∈ a ↔ i ∈ b):=by
 unfold eqR
 rw [kF_,kF_]
 by_cases h1:i ∈ a <;> by_cases h2:i ∈ b <;> simp [h1,h2]
theorem xo_ {o a b:List Fl}:∀ (ps:List (List Ky)) (kept:List Fl) (named:List (List Ky)),(∀ p ∈ ps,p.length = 1∧clB o a b p = false)→jnR o a b ps kept named = (kept ++ ps.filterMap (frR o a b),named)
 | [],kept,named,_=>by simp [jnR]
 | p :: ps,kept,named,h=>by
   have h1:=h p (by simp)
   have h2:∀ q ∈ ps,q.length = 1∧clB o a b q = false:=fun q hq=>h q (by simp [hq])
   rw [jnR,List.filterMap_cons]
   cases hf:frR o a b p with
   | none=>simp only [h1.2];rw [xo_ ps _ _ h2];simp
   | some x=>
     simp only [h1.2]
     rw [if_neg (by omega),xo_ ps _ _ h2]
     simp
theorem fm_map {α β:Type} {f:α→Option β} {g:α→β}:∀ (L:List α),(∀ x ∈ L,f x = some (g x))→L.filterMap f = L.map g
 | [],_=>rfl
 | x :: L,h=>by
   rw [List.filterMap_cons,h x (by simp),List.map_cons,fm_map L fun y hy=>h y (by simp [hy])]
theorem x5_ (l:List Su):∀ ids:List Nat,treF 0 (ids.map (flS l)) = (qy_ l ids,ids.length)
 | []=>rfl
 | i :: r=>by
   have h1:treF 1 (r.map (flS l)) = (.nil,0):=by
    cases r with
    | nil=>rfl
    | cons j r=>exact treF_no (by simp [flS])
   rw [List.map_cons,yH_ (by rfl),show 0 + 1 = 1 from rfl,h1]
   simp only [List.drop_zero]
   rw [x5_ l r]
   simp [qy_,flS,kyS]
   omega
theorem join_sur {l:List Su} {o a b:List Nat} {n:Nat} (ho:o.Pairwise (· < ·)) (ha:a.Pairwise (· < ·)) (hb:b.Pairwise (· < ·)) (hn:n ≤ 60) (hlo:o.length ≤ 60) (hla:a.length ≤ 60) (hlb:b.length ≤ 60) (hk:∀ i,i < n→zd_ (j5_ l i) = false) (hm:∀ i,i < n ↔ i ∈ a ∨ i ∈ b) (hoo:∀ i,i ∈ o ↔ i ∈ a∧i ∈ b) :
 qS_ (qy_ l (List.range n)) = 0∧joE (qy_ l o) (qy_ l a) (qy_ l b) = 0∧joY (qy_ l o) (qy_ l a) (qy_ l b) = qy_ l (List.range n)∧joP (qy_ l o) (qy_ l a) (qy_ l b) = []:=by
 have ka:∀ i ∈ a,zd_ (j5_ l i) = false:=fun i hi=>hk i ((hm i).2 (.inl hi))
 have kb:∀ i ∈ b,zd_ (j5_ l i) = false:=fun i hi=>hk i ((hm i).2 (.inr hi))
 have ko:∀ i ∈ o,zd_ (j5_ l i) = false:=fun i hi=>ka i ((hoo i).1 hi).1
 have c0:=kV_ ho ko hlo
 have c1:=kV_ ha ka hla
 have c2:=kV_ hb kb hlb
 have cr:qS_ (qy_ l (List.range n)) = 0:=kV_ List.pairwise_lt_range (fun i hi=>hk i (List.mem_range.1 hi)) (by simpa using hn)
 have hg:∀ L ∈ [flsL [] (qy_ l o),flsL [] (qy_ l a),flsL [] (qy_ l b)],∀ q ∈ L,vu_ q.p∧q.p ≠ []:=fun L hL q hq=>by
  simp only [List.mem_cons,List.not_mem_nil,or_false] at hL
  rcases hL with rfl | rfl | rfl
  · exact ⟨x0_ c0 q hq,kG_ q hq⟩
  · exact ⟨x0_ c1 q hq,kG_ q hq⟩
  · exact ⟨x0_ c2 q hq,kG_ q hq⟩
 obtain ⟨j1,j2,j3,j4⟩:=join_eq (xk_ c0) (xk_ c1) (xk_ c2) hg
 have hjo:joF (qy_ l o) (qy_ l a) (qy_ l b) = jnR (flsL [] (qy_ l o)) (flsL [] (qy_ l a)) (flsL [] (qy_ l b)) (pthsF [flsL [] (qy_ l o),flsL [] (qy_ l a),flsL [] (qy_ l b)]) [] []:=j1.symm
 obtain ⟨p1,p2⟩:=pths_spec (fun L hL x hx=>(hg L hL x hx).1)
 have hps:pthsF [flsL [] (qy_ l o),flsL [] (qy_ l a),flsL [] (qy_ l b)] = (List.range n).map fun i=>[kyS i]:=by
  refine vY_ p1 ?_ fun p=>?_
  · unfold SrtP
    rw [List.pairwise_map]
    exact List.pairwise_lt_range.imp fun h=>cmpP_kyS h
  · rw [p2 p]
    simp only [List.mem_cons,List.not_mem_nil,or_false,zR_,List.mem_map,List.mem_range]
    constructor
    · rintro ⟨L,hL,x,hx,rfl⟩
      have key:∀ ids:List Nat,(∀ i ∈ ids,i < n)→L = ids.map (flS l)→∃ i,i < n∧[kyS i] = x.p:=fun ids h e=>by
       subst e
       obtain ⟨i,hi,rfl⟩:=List.mem_map.1 hx
       exact ⟨i,h i hi,rfl⟩
      rcases hL with e | e | e
      · exact key o (fun i hi=>(hm i).2 (.inl ((hoo i).1 hi).1)) e
      · exact key a (fun i hi=>(hm i).2 (.inl hi)) e
      · exact key b (fun i hi=>(hm i).2 (.inr hi)) e
    · rintro ⟨i,hi,rfl⟩
      rcases (hm i).1 hi with h | h
      · exact ⟨_, .inr (.inl rfl),flS l i,List.mem_map.2 ⟨i,h,rfl⟩,rfl⟩
      · exact ⟨_, .inr (.inr rfl),flS l i,List.mem_map.2 ⟨i,h,rfl⟩,rfl⟩
 have hcl:∀ i,i < n→clB (o.map (flS l)) (a.map (flS l)) (b.map (flS l)) [kyS i] = false∧frR (o.map (flS l)) (a.map (flS l)) (b.map (flS l)) [kyS i] = some (flS l i):=fun i hi=>by
  have h1:=hoo i
  have h2:=(hm i).1 hi
  have hc:clB (o.map (flS l)) (a.map (flS l)) (b.map (flS l)) [kyS i] = false:=by
   unfold clB
   rw [xp_,xp_,xp_]
   by_cases e1:i ∈ a <;> by_cases e2:i ∈ b <;> simp [e1,e2] at h1 h2 ⊢
   all_goals simp [h1]
  refine ⟨hc,?_⟩
  unfold frR
  rw [hc,xp_,kF_,kF_,kF_]
  by_cases e1:i ∈ a <;> by_cases e2:i ∈ b <;> simp [e1,e2] at h1 h2 ⊢
  all_goals simp [h1]
 have hj:joF (qy_ l o) (qy_ l a) (qy_ l b) = ((List.range n).map (flS l),[]):=by
  rw [hjo,hps,zR_,zR_,zR_,xo_]
  · rw [List.nil_append,List.filterMap_map]
    refine Prod.ext ?_ rfl
    show List.filterMap _ (List.range n) = _
    exact fm_map _ fun i hi=>(hcl i (List.mem_range.1 hi)).2
  · intro p hp
    obtain ⟨i,hi,rfl⟩:=List.mem_map.1 hp
    exact ⟨rfl,(hcl i (List.mem_range.1 hi)).1⟩
 have hE:joE (qy_ l o) (qy_ l a) (qy_ l b) = 0:=by
  have hc:cpE [qy_ l o,qy_ l a,qy_ l b] = 0:=by simp [cpE,c0,c1,c2]
  rw [joE,if_neg (by rw [hc];simp),if_neg (by rw [hj];simp;omega)]
 refine ⟨cr,hE,?_,?_⟩
 · rw [joY,if_pos hE,hj]
   exact congrArg Prod.fst (x5_ l _)
 · rw [joP,if_pos hE,hj]
end Go.Proofs.LB