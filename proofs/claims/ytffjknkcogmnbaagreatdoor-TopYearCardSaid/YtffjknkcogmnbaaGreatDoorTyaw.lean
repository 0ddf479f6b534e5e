/- Parts of the proof of a law of layer 11 (file): LfYau. The conditions stand in each theorem. -/
import Derived.Test.YtffjknkcogmnbaaGreatDoorProg
import Derived.Test.YtffjknkcogmnbaaGreatDoorTyal
import Derived.Test.YtffjknkcogmnbaaGreatDoorTyam
import Derived.Test.YtffjknkcogmnbaaGreatDoorTyap
import Derived.Test.YtffjknkcogmnbaaGreatDoorTyau
set_option linter.all false
set_option linter.unusedVariables false
set_option linter.unusedSimpArgs false
set_option linter.all false
set_option linter.unusedVariables false
set_option linter.unusedSimpArgs false
namespace Go.Proofs.LF
def OkG:Nat→Fo→Prop
 | _, .nil=>True
 | d, .cons n l s r=>(d ≤ 3∧zI_ n = false∧l.length ≤ 4∧zd_ l = false)∧OkG (d + 1) s∧(∀ k ∈ xX_ r,byK (qn_ n l) k < 0)∧OkG d r
theorem k9_ {c:Prop} [Decidable c] {a b:Int} (ha:a ≠ 0) (h:(if c then a else b) = 0):¬ c∧b = 0:=by
 by_cases hc:c
 · rw [if_pos hc] at h;exact absurd h ha
 · rw [if_neg hc] at h;exact ⟨hc,h⟩
theorem okG_of:∀ (y:Fo) (d:Nat) (p:Option Ky),zA_ geK (d:Int) p y = 0→OkG d y∧∀ q,p = some q→∀ k ∈ xX_ y,byK q k < 0
 | .nil,_,_,_=>⟨trivial,fun _ _ _ h=>by cases h⟩
 | .cons n l s r,d,p,h=>by
   rw [zA_.eq_def] at h
   dsimp only at h
   obtain ⟨h1,h⟩:=k9_ (by decide) h
   obtain ⟨h2,h⟩:=k9_ (by decide) h
   obtain ⟨h3,h⟩:=k9_ (by decide) h
   obtain ⟨h4,h⟩:=k9_ (by decide) h
   obtain ⟨h5,h⟩:=k9_ (by decide) h
   have h6:zA_ geK ((d + 1:Nat):Int) none s = 0∧zA_ geK (d:Int) (some (qn_ n l)) r = 0:=by
    rw [show ((d + 1:Nat):Int) = (d:Int) + 1 by omega]
    by_cases hc:zA_ geK ((d:Int) + 1) none s = 0
    · rw [if_neg (by simp [hc])] at h
      exact ⟨hc,h⟩
    · rw [if_pos hc] at h
      exact absurd h hc
   obtain ⟨i1,_⟩:=okG_of s (d + 1) none h6.1
   obtain ⟨i2,i3⟩:=okG_of r d (some (qn_ n l)) h6.2
   refine ⟨⟨⟨by omega,by simpa using h2,by omega,by simpa using h4⟩,i1,i3 _ rfl,i2⟩,fun q hq k hk=>?_⟩
   subst hq
   have hqk:byK q (qn_ n l) < 0:=by
    have:geK q (qn_ n l) = false:=by simpa using h5
    simp only [geK,decide_eq_false_iff_not] at this
    omega
   rcases List.mem_cons.1 hk with rfl | hk
   · exact hqk
   · exact qR_.trans hqk (i3 _ rfl k hk)
theorem chk_okG {y:Fo} (h:qS_ y = 0):OkG 0 y:=by
 unfold qS_ at h
 split at h
 · exact (okG_of y 0 none h).1
 · omega
end Go.Proofs.LF
namespace Go.Proofs.LF
open Go.RowKit Go.Sort
set_option maxHeartbeats 4000000
set_option maxRecDepth 100000
attribute [local go_sem] q1_ q2_ q8_
theorem Hp.below {b:Nat} {S:Nat→Prop} {w w':World} (h:Hp b S w) (hb:b < w.heap.size) (hS:∀ q,S q→q < w.heap.size) (hB:Below w.heap.size w w'):Hp b S w':=by
 obtain ⟨a,l,c,nx,rd,h1,h2,h3,h4,h5⟩:=h
 exact ⟨a,l,c,nx,rd,(hB.block b hb).trans h1,h2,h3,SlC.agree h4 (qc_ hB hS),h5⟩
theorem Hp.agree {b:Nat} {S:Nat→Prop} {w w':World} (h:Hp b S w) (hb:w'.heap[b]? = w.heap[b]?) (hS:qg_ S w w'):Hp b S w':=by
 obtain ⟨a,l,c,nx,rd,h1,h2,h3,h4,h5⟩:=h
 exact ⟨a,l,c,nx,rd,hb.trans h1,h2,h3,SlC.agree h4 hS,h5⟩
def FRow (B:Nat) (w:World) (v:Value) (y:Fo):Prop:=∃ cs,w.ownsRow B 109 3 v y.len cs∧FCs (Rx B w.heap.size v) w y cs
theorem FRow.fsl {B:Nat} {w:World} {v:Value} {y:Fo} (h:FRow B w v y):FSl (Rg B w.heap.size) w v y:=let ⟨cs,h1,h2⟩:=h;⟨cs,SlC.of_owns h1,h2.wide fun _ hq=>⟨hq.1,hq.2.1⟩⟩
end Go.Proofs.LF