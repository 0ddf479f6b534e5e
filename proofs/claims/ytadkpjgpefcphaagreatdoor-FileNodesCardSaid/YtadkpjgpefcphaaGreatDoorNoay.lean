/- Parts of the proof of a law of layer 11 (file): LfGwA, LfPre, LfJo, LfW78. The conditions stand in each theorem. -/
import Derived.Test.YtadkpjgpefcphaaGreatDoorProg
import Derived.Test.YtadkpjgpefcphaaGreatDoorNoab
import Derived.Test.YtadkpjgpefcphaaGreatDoorNoad
import Derived.Test.YtadkpjgpefcphaaGreatDoorNoaf
import Derived.Test.YtadkpjgpefcphaaGreatDoorNoam
import Derived.Test.YtadkpjgpefcphaaGreatDoorNoat
import Derived.Test.YtadkpjgpefcphaaGreatDoorNoau
import Derived.Test.YtadkpjgpefcphaaGreatDoorNoav
import Derived.Test.YtadkpjgpefcphaaGreatDoorNoaw
set_option linter.all false
set_option linter.unusedVariables false
set_option linter.unusedSimpArgs false
namespace Go.Proofs.LF
def rmK (k:Ky):Fo→Fo
 | .nil => .nil
 | .cons n l s r=>if kyOf n l = k then r else .cons n l s (rmK k r)
def rmF:List Ky→Fo→Fo
 | [],y=>y
 | [k],y=>rmK k y
 | k :: k' :: r,y=>modK k (rmF (k' :: r)) y
theorem drP_mem {q:List Ky} {l:List Fl} {x:Fl}:x ∈ drP q l ↔ x ∈ l∧¬ q <+: x.p:=by
 rw [drP,List.mem_filter]
 refine and_congr_right fun _=>?_
 rw [Bool.not_eq_true',Bool.and_eq_false_iff,decide_eq_false_iff_not,decide_eq_false_iff_not]
 constructor
 · rintro h hp
   rcases h with h | h
   · exact h hp.length_le
   · exact h (List.prefix_iff_eq_take.1 hp).symm
 · intro h
   right
   exact fun e=>h (List.prefix_iff_eq_take.2 e.symm)
theorem rmK_mem {k:Ky} {u:List Ky} {d:Nat}:∀ (y:Fo),OkG d y→∀ x,x ∈ flsL u (rmK k y) ↔ x ∈ flsL u y∧¬ (u ++ [k]) <+: x.p
 | .nil,_,x=>by simp [rmK,flsL_nil]
 | .cons n l s r,⟨_,_,h3,h4⟩,x=>by
   simp only [rmK]
   by_cases hk:kyOf n l = k
   · rw [if_pos hk,fls_node u n l s r]
     constructor
     · intro h
       exact ⟨.inr h,fls_rest_pre (fun q hq=>by rw [← hk];exact byK_ne (h3 q hq)) h⟩
     · rintro ⟨h | h,h'⟩
       · exact absurd (hk ▸ fls_one_pre h) h'
       · exact h
   · rw [if_neg hk,fls_node,rmK_mem r h4 x,fls_node u n l s r]
     constructor
     · rintro (h | ⟨h,h'⟩)
       · refine ⟨.inl h,?_⟩
         obtain ⟨j,hj,t,hp⟩:=fls_top _ _ x h
         simp only [tops,List.mem_cons,List.not_mem_nil,or_false] at hj
         rw [hp,pre_cons,hj]
         exact fun e=>hk e.symm
       · exact ⟨.inr h,h'⟩
     · rintro ⟨h | h,h'⟩
       · exact .inl h
       · exact .inr ⟨h,h'⟩
theorem rmK_tops {k:Ky}:∀ {y:Fo} {j:Ky},j ∈ tops (rmK k y)→j ∈ tops y
 | .nil,_,h=>h
 | .cons n l s r,j,h=>by
   simp only [rmK] at h
   split at h
   · simp [tops,h]
   · rcases List.mem_cons.1 h with h | h
     · simp [tops,h]
     · simp [tops,rmK_tops h]
theorem rmK_okG {k:Ky}:∀ {y:Fo} {d:Nat},OkG d y→OkG d (rmK k y)
 | .nil,_,_=>trivial
 | .cons n l s r,d,⟨h1,h2,h3,h4⟩=>by
   simp only [rmK]
   split
   · exact h4
   · exact ⟨h1,h2,fun j hj=>h3 j (rmK_tops hj),rmK_okG h4⟩
theorem rmF_okG:∀ (q:List Ky) {y:Fo} {d:Nat},OkG d y→OkG d (rmF q y)
 | [],_,_,h=>h
 | [k],_,_,h=>rmK_okG h
 | k :: k' :: r,y,d,h=>by
   simp only [rmF]
   exact modK_okG (fun s hs=>rmF_okG (k' :: r) hs) h
theorem rmF_mem:∀ (q:List Ky) (y:Fo) (u:List Ky) (d:Nat),OkG d y→q ≠ []→Pl y q→∀ x,x ∈ flsL u (rmF q y) ↔ x ∈ flsL u y∧¬ (u ++ q) <+: x.p
 | [],_,_,_,_,h,_,_=>absurd rfl h
 | [k],y,u,d,hy,_,_,x=>by
   simp only [rmF]
   exact rmK_mem y hy x
 | k :: k' :: r,y,u,d,hy,_,hp,x=>by
   obtain ⟨n',l',s',hf,hp'⟩:=pl_cons hp
   have hs':=(fstK_okG hy hf).1
   simp only [rmF]
   have:=modK_mem (k:=k) (f:=rmF (k' :: r)) (new:=[]) (q:=u ++ k :: k' :: r) (u:=u) y hy (fun n2 l2 s2 h2 x=>by
    rw [hf] at h2
    simp only [Option.some.injEq,Prod.mk.injEq] at h2
    obtain ⟨rfl,rfl,rfl⟩:=h2
    have:=rmF_mem (k' :: r) s' (u ++ [k]) (d + 1) hs' (by simp) hp' x
    simpa using this) ⟨k' :: r,by simp⟩ (fun e=>by
    have:=congrArg List.length e
    simp at this) (by rw [hf];rfl) x
   simpa using this
theorem pl_of:∀ (y:Fo) (u p:List Ky) (d:Nat),OkG d y→u ++ p ∈ evP u y→Pl y p
 | y,u,[],d,_,_ => .inl rfl
 | .nil,u,k :: p,d,_,h=>by simp [evP,flsL_nil] at h
 | .cons n l s r,u,k :: p,d,⟨h1,h2,h3,h4⟩,h=>by
   obtain ⟨x,hx,hxp⟩:=List.mem_map.1 h
   by_cases hk:kyOf n l = k
   · right
     rw [atF,fstK,if_pos hk]
     dsimp only
     by_cases hp:p = []
     · rw [if_pos hp];rfl
     · rw [if_neg hp]
       have:u ++ [k] ++ p ∈ evP (u ++ [k]) s:=by
        rw [flsL_cons] at hx
        rcases List.mem_cons.1 hx with rfl | hx
        · exfalso
          simp only [hk] at hxp
          have:=congrArg List.length hxp
          simp only [List.length_append,List.length_cons,List.length_nil] at this
          exact hp (List.eq_nil_of_length_eq_zero (by omega))
        · rcases List.mem_append.1 hx with hx | hx
          · rw [hk] at hx
            exact List.mem_map.2 ⟨x,hx,by rw [hxp];simp⟩
          · exfalso
            have:=fls_rest_pre (u:=u) (k:=k) (fun q hq=>by rw [← hk];exact byK_ne (h3 q hq)) hx
            rw [hxp] at this
            exact this ⟨p,by simp⟩
       exact (pl_of s (u ++ [k]) p (d + 1) h2 this).resolve_left hp
   · have:u ++ k :: p ∈ evP u r:=by
      rcases (fls_node u n l s r x).1 hx with hx | hx
      · exfalso
        have:=fls_one_pre hx
        rw [hxp,pre_cons] at this
        exact hk this
      · exact List.mem_map.2 ⟨x,hx,hxp⟩
     have hr:=(pl_of r u (k :: p) d h4 this).resolve_left (by simp)
     right
     rw [atF] at hr ⊢
     rw [fstK,if_neg hk]
     exact hr
theorem drop_is {y:Fo} {q:List Ky} (hy:chkY y = 0) (hq:q ∈ evP [] y):dropE y q = 0∧dropY y q = rmF q y∧OkG 0 (rmF q y)∧flsL [] (rmF q y) = drP q (flsL [] y):=by
 have hok:=chk_okG hy
 have hqn:q ≠ []:=by
  obtain ⟨x,hx,rfl⟩:=List.mem_map.1 hq
  exact flsL_ne x hx
 have hmem:=rmF_mem q y [] 0 hok hqn (pl_of y [] q 0 hok (by simpa using hq))
 have hok2:=rmF_okG q hok
 have hE:dropE y q = 0:=by
  rw [dropE,if_neg (by simp [hy]),if_pos]
  rw [fnd_rfd (fls_srt hy)]
  exact rfd_iff.2 hq
 have hfl:flsL [] (rmF q y) = drP q (flsL [] y):=by
  refine srt_ext ((ordG_srt _ 0 none [] (okG_ord _ 0 none hok2 (fun q hq=>by cases hq))).1) ((fls_srt hy).sublist List.filter_sublist) fun x=>?_
  rw [hmem x,drP_mem]
  simp
 refine ⟨hE,?_,hok2,hfl⟩
 rw [dropY,if_pos hE,← hfl,treF_flsL]
theorem rfd_mem {x:Fl}:∀ {L:List Fl},Srt L→x ∈ L→rfd L x.p = some x
 | [],_,h=>by cases h
 | y :: L,hs,h=>by
   obtain ⟨h1,h2⟩:=List.pairwise_cons.1 hs
   rw [rfd,List.find?_cons]
   rcases List.mem_cons.1 h with rfl | h
   · simp
   · have hne:¬ y.p = x.p:=(fun e=>by have h2:=h1 x h;rw [e,cmpP_ord.refl] at h2;omega)
     simp only [hne,decide_false]
     exact rfd_mem h2 h
end Go.Proofs.LF
namespace Go.Proofs.LF
open Go.RowKit Go.Sort
theorem keys_take (p:List Ky) (b:Nat) (h:b ≤ p.length):(p.flatMap Ky.cells).take (b * 3) = (p.take b).flatMap Ky.cells:=by
 have h2:p.flatMap Ky.cells = (p.take b).flatMap Ky.cells ++ (p.drop b).flatMap Ky.cells:=by rw [← List.flatMap_append,List.take_append_drop]
 rw [h2,List.take_left' (by rw [len_keys,List.length_take,Nat.min_eq_left h])]
theorem Pth.pre {S:Nat→Prop} {w:World} {p:List Ky} {a:Option Addr} {c b:Nat} (hp:Pth S w (.slice a p.length c) p) (h:b ≤ p.length):Pth S w (.slice a b c) (p.take b):=by
 have:=SlC.pre (k:=3) (m:=b) hp h
 unfold Pth
 rw [List.length_take,Nat.min_eq_left h,← keys_take p b h]
 exact this
end Go.Proofs.LF
namespace Go.Proofs.LF
open Go.RowKit Go.Sort
theorem rfd_none_of {l:List Fl} {p:List Ky} (h:∀ x ∈ l,x.p ≠ p):rfd l p = none:=by
 rw [rfd,List.find?_eq_none]
 intro x hx
 simpa using h x hx
end Go.Proofs.LF
namespace Go.Proofs.LF
open Go.RowKit Go.Sort
def In (W:World) (v:Value) (y:Fo):Prop:=FSl (fun q=>q < W.heap.size) W v y
theorem In.on {W W':World} {v:Value} {y:Fo} (h:In W v y) (hb:Below W.heap.size W W'):In W' v y:=FSl.on h hb
def PaIn (W:World) (v:Value) (ps:List (List Ky)):Prop:=PaSl (fun q=>q < W.heap.size) W v ps
theorem PaIn.on {W W':World} {v:Value} {ps:List (List Ky)} (h:PaIn W v ps) (hb:Below W.heap.size W W'):PaIn W' v ps:=LSl.on h hb
def IsIn (W:World) (v:Value) (l:List Int):Prop:=Ints (fun q=>q < W.heap.size) W v l
theorem IsIn.on {w w':World} {v:Value} {l:List Int} (h:IsIn w v l) (hb:Below w.heap.size w w'):IsIn w' v l:=
 (Ints.agree h (Ag_b hb fun _ h=>h)).wide fun b hq=>by have:=hb.size;omega
def PtIn (W:World) (v:Value) (l:List Ky):Prop:=Pth (fun q=>q < W.heap.size) W v l
theorem PtIn.on {w w':World} {v:Value} {l:List Ky} (h:PtIn w v l) (hb:Below w.heap.size w w'):PtIn w' v l:=
 (Pth.agree h (Ag_b hb fun _ h=>h)).wide fun b hq=>by have:=hb.size;omega
def ChIn (W:World) (v:Value) (l:List Ch):Prop:=ChSl (fun q=>q < W.heap.size) W v l
theorem ChIn.on {W W':World} {v:Value} {ps:List Ch} (h:ChIn W v ps) (hb:Below W.heap.size W W'):ChIn W' v ps:=LSl.on h hb
def AllP (W w':World) (v:Value) (ps:List (List Ky)) (n:Nat) (cs:List Value):Prop:=n = ps.length∧w'.ownsRow W.heap.size 65 1 v n cs∧∃ T:Nat→Prop,LCs rdPa T w' ps cs∧∀ b,T b→W.heap.size ≤ b∧b < w'.heap.size∧v.ownBlock ≠ some b
theorem AllP.news {W w':World} {a:Option Addr} {n c:Nat} {ps:List (List Ky)} {cs:List Value} (h:AllP W w' (.slice a n c) ps n cs):cs.length = n * 1∧(a = none→n = 0∧c = 0)∧(∀ ad,a = some ad→∀ (j:Nat) (u:Value),cs[j]? = some u→w'.cell? (ad.add j) = some u)∧(∀ u ∈ cs,u.oneCell' = true):=by
 obtain ⟨_,h1,T,h2,h3⟩:=h
 have s1:=SlC.of_owns h1
 exact ⟨h1.1,fun h=>(SlC.caps s1).2.2 h,SlC.news s1 Agree.refl,LCs.one h2⟩
def ByIn (W:World) (v:Value) (l:List Int):Prop:=Byt (fun q=>q < W.heap.size) W v l
theorem ByIn.on {W W':World} {v:Value} {l:List Int} (h:ByIn W v l) (hb:Below W.heap.size W W'):ByIn W' v l:=
 (SlC.agree h (Ag_b hb fun _ h=>h)).wide fun b hq=>by have:=hb.size;omega
end Go.Proofs.LF
