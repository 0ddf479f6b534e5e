/- Parts of the proof of a law of layer 11 (file): LfPt. The conditions stand in each theorem. -/
import Derived.Test.YtadkpjgpefcphaaGreatDoorProg
import Derived.Test.YtadkpjgpefcphaaGreatDoorTnak
import Derived.Test.YtadkpjgpefcphaaGreatDoorTnam
import Derived.Test.YtadkpjgpefcphaaGreatDoorTnas
set_option linter.all false
set_option linter.unusedVariables false
set_option linter.unusedSimpArgs false
namespace Go.Proofs.LF
def OkG:Nat→Fo→Prop
 | _, .nil=>True
 | d, .cons n l s r=>(d ≤ 3∧badNm n = false∧l.length ≤ 4∧badNs l = false)∧OkG (d + 1) s∧(∀ k ∈ tops r,byK (kyOf n l) k < 0)∧OkG d r
theorem okG_ord:∀ (y:Fo) (d:Nat) (p:Option Ky),OkG d y→(∀ q,p = some q→∀ k ∈ tops y,byK q k < 0)→ordG geK (d:Int) p y = 0
 | .nil,_,_,_,_=>rfl
 | .cons n l s r,d,p,⟨⟨h1,h2,h3,h4⟩,h5,h6,h7⟩,hp=>by
   have e1:ordG geK ((d:Int) + 1) none s = 0:=by
    have:=okG_ord s (d + 1) none h5 (fun q hq=>by cases hq)
    rwa [show ((d + 1:Nat):Int) = (d:Int) + 1 by omega] at this
   have e2:ordG geK (d:Int) (some (kyOf n l)) r = 0:=okG_ord r d _ h7 (fun q hq k hk=>by cases hq;exact h6 k hk)
   simp only [ordG]
   rw [if_neg (by omega),if_neg (by rw [h2];simp),if_neg (by omega),if_neg (by rw [h4];simp)]
   cases p with
   | none=>dsimp only;rw [if_neg (by simp),e1,e2];simp
   | some q=>
     have:=hp q rfl (kyOf n l) (by simp [tops])
     have hg:geK q (kyOf n l) = false:=by simp only [geK,decide_eq_false_iff_not];omega
     dsimp only
     rw [if_neg (by rw [hg];simp),e1,e2];simp
theorem ite_zero {c:Prop} [Decidable c] {a b:Int} (ha:a ≠ 0) (h:(if c then a else b) = 0):¬ c∧b = 0:=by
 by_cases hc:c
 · rw [if_pos hc] at h;exact absurd h ha
 · rw [if_neg hc] at h;exact ⟨hc,h⟩
theorem okG_of:∀ (y:Fo) (d:Nat) (p:Option Ky),ordG geK (d:Int) p y = 0→OkG d y∧∀ q,p = some q→∀ k ∈ tops y,byK q k < 0
 | .nil,_,_,_=>⟨trivial,fun _ _ _ h=>by cases h⟩
 | .cons n l s r,d,p,h=>by
   rw [ordG.eq_def] at h
   dsimp only at h
   obtain ⟨h1,h⟩:=ite_zero (by decide) h
   obtain ⟨h2,h⟩:=ite_zero (by decide) h
   obtain ⟨h3,h⟩:=ite_zero (by decide) h
   obtain ⟨h4,h⟩:=ite_zero (by decide) h
   obtain ⟨h5,h⟩:=ite_zero (by decide) h
   have h6:ordG geK ((d + 1:Nat):Int) none s = 0∧ordG geK (d:Int) (some (kyOf n l)) r = 0:=by
    rw [show ((d + 1:Nat):Int) = (d:Int) + 1 by omega]
    by_cases hc:ordG geK ((d:Int) + 1) none s = 0
    · rw [if_neg (by simp [hc])] at h
      exact ⟨hc,h⟩
    · rw [if_pos hc] at h
      exact absurd h hc
   obtain ⟨i1,_⟩:=okG_of s (d + 1) none h6.1
   obtain ⟨i2,i3⟩:=okG_of r d (some (kyOf n l)) h6.2
   refine ⟨⟨⟨by omega,by simpa using h2,by omega,by simpa using h4⟩,i1,i3 _ rfl,i2⟩,fun q hq k hk=>?_⟩
   subst hq
   have hqk:byK q (kyOf n l) < 0:=by
    have:geK q (kyOf n l) = false:=by simpa using h5
    simp only [geK,decide_eq_false_iff_not] at this
    omega
   rcases List.mem_cons.1 hk with rfl | hk
   · exact hqk
   · exact byK_ord.trans hqk (i3 _ rfl k hk)
theorem okG_chk {y:Fo} (h:OkG 0 y):chkY y = if y.cnt ≤ 60 then 0 else 2:=by
 have:=okG_ord y 0 none h (fun q hq=>by cases hq)
 unfold chkY
 split
 · exact this
 · rfl
theorem chk_okG {y:Fo} (h:chkY y = 0):OkG 0 y:=by
 unfold chkY at h
 split at h
 · exact (okG_of y 0 none h).1
 · omega
end Go.Proofs.LF
