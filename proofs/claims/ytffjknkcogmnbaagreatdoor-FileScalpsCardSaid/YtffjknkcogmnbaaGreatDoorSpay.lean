/- Parts of the proof of a law of layer 11 (file): LfYau. The conditions stand in each theorem. -/
import Derived.Test.YtffjknkcogmnbaaGreatDoorProg
import Derived.Test.YtffjknkcogmnbaaGreatDoorSpal
import Derived.Test.YtffjknkcogmnbaaGreatDoorSpao
import Derived.Test.YtffjknkcogmnbaaGreatDoorSpaq
import Derived.Test.YtffjknkcogmnbaaGreatDoorSpaw
set_option linter.all false
set_option linter.unusedVariables false
set_option linter.unusedSimpArgs false
set_option linter.all false
set_option linter.unusedVariables false
set_option linter.unusedSimpArgs false
namespace Go.Proofs.LF
def OkG:Nat→Fo→Prop
 | _, .nil=>True
 | d, .cons n l s r=>(d ≤ 3∧zN_ n = false∧l.length ≤ 4∧kb_ l = false)∧OkG (d + 1) s∧(∀ k ∈ xR_ r,byK (kyOf n l) k < 0)∧OkG d r
theorem kq_ {c:Prop} [Decidable c] {a b:Int} (ha:a ≠ 0) (h:(if c then a else b) = 0):¬ c∧b = 0:=by
 by_cases hc:c
 · rw [if_pos hc] at h;exact absurd h ha
 · rw [if_neg hc] at h;exact ⟨hc,h⟩
theorem okG_of:∀ (y:Fo) (d:Nat) (p:Option Ky),zD_ geK (d:Int) p y = 0→OkG d y∧∀ q,p = some q→∀ k ∈ xR_ y,byK q k < 0
 | .nil,_,_,_=>⟨trivial,fun _ _ _ h=>by cases h⟩
 | .cons n l s r,d,p,h=>by
   rw [zD_.eq_def] at h
   dsimp only at h
   obtain ⟨h1,h⟩:=kq_ (by decide) h
   obtain ⟨h2,h⟩:=kq_ (by decide) h
   obtain ⟨h3,h⟩:=kq_ (by decide) h
   obtain ⟨h4,h⟩:=kq_ (by decide) h
   obtain ⟨h5,h⟩:=kq_ (by decide) h
   have h6:zD_ geK ((d + 1:Nat):Int) none s = 0∧zD_ geK (d:Int) (some (kyOf n l)) r = 0:=by
    rw [show ((d + 1:Nat):Int) = (d:Int) + 1 by omega]
    by_cases hc:zD_ geK ((d:Int) + 1) none s = 0
    · rw [if_neg (by simp [hc])] at h
      exact ⟨hc,h⟩
    · rw [if_pos hc] at h
      exact absurd h hc
   obtain ⟨i1,_⟩:=okG_of s (d + 1) none h6.1
   obtain ⟨i2,i3⟩:=okG_of r d (some (kyOf n l)) h6.2
   refine ⟨⟨⟨by omega,by simpa using h2,by omega,by simpa using h4⟩,i1,i3 _ rfl,i2⟩,fun q hq k hk=>?_⟩
   subst hq
   have hqk:byK q (kyOf n l) < 0:=by
    have:geK q (kyOf n l) = false:=by simpa using h5
    simp only [geK,decide_eq_false_iff_not] at this
    omega
   rcases List.mem_cons.1 hk with rfl | hk
   · exact hqk
   · exact qR_.trans hqk (i3 _ rfl k hk)
theorem chk_okG {y:Fo} (h:qz_ y = 0):OkG 0 y:=by
 unfold qz_ at h
 split at h
 · exact (okG_of y 0 none h).1
 · omega
end Go.Proofs.LF
namespace Go.Proofs.LF
open Go.RowKit Go.Sort
set_option maxHeartbeats 4000000
set_option maxRecDepth 100000
attribute [local go_sem] q1_ q2_ q6_
end Go.Proofs.LF