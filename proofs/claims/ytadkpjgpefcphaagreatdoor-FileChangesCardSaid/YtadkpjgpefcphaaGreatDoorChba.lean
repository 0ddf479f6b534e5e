/- Parts of the proof of a law of layer 11 (file): LfPt, LfW71. The conditions stand in each theorem. -/
import Derived.Test.YtadkpjgpefcphaaGreatDoorProg
import Derived.Test.YtadkpjgpefcphaaGreatDoorChal
import Derived.Test.YtadkpjgpefcphaaGreatDoorCham
import Derived.Test.YtadkpjgpefcphaaGreatDoorChap
import Derived.Test.YtadkpjgpefcphaaGreatDoorChay
set_option linter.all false
set_option linter.unusedVariables false
set_option linter.unusedSimpArgs false
namespace Go.Proofs.LF
def OkG:Nat→Fo→Prop
 | _, .nil=>True
 | d, .cons n l s r=>(d ≤ 3∧badNm n = false∧l.length ≤ 4∧badNs l = false)∧OkG (d + 1) s∧(∀ k ∈ tops r,byK (kyOf n l) k < 0)∧OkG d r
theorem ite_zero {c:Prop} [Decidable c] {a b:Int} (ha:a ≠ 0) (h:(if c then a else b) = 0):¬ c∧b = 0:=by
 by_cases hc:c
 · rw [if_pos hc] at h;exact absurd h ha
 · rw [if_neg hc] at h;exact ⟨hc,h⟩
theorem okG_of:∀ (y:Fo) (d:Nat) (p:Option Ky),ordG geK (d:Int) p y = 0→OkG d y∧∀ q,p = some q→∀ k ∈ tops y,byK q k < 0
 | .nil,_,_,_=>⟨trivial,fun _ _ _ h=>by cases h⟩
 | .cons n l s r,d,p,h=>by
   rw [ordG.eq_def] at h
   dsimp only at h
   obtain ⟨h1,h⟩:=ite_zero (by decide) h
   obtain ⟨h2,h⟩:=ite_zero (by decide) h
   obtain ⟨h3,h⟩:=ite_zero (by decide) h
   obtain ⟨h4,h⟩:=ite_zero (by decide) h
   obtain ⟨h5,h⟩:=ite_zero (by decide) h
   have h6:ordG geK ((d + 1:Nat):Int) none s = 0∧ordG geK (d:Int) (some (kyOf n l)) r = 0:=by
    rw [show ((d + 1:Nat):Int) = (d:Int) + 1 by omega]
    by_cases hc:ordG geK ((d:Int) + 1) none s = 0
    · rw [if_neg (by simp [hc])] at h
      exact ⟨hc,h⟩
    · rw [if_pos hc] at h
      exact absurd h hc
   obtain ⟨i1,_⟩:=okG_of s (d + 1) none h6.1
   obtain ⟨i2,i3⟩:=okG_of r d (some (kyOf n l)) h6.2
   refine ⟨⟨⟨by omega,by simpa using h2,by omega,by simpa using h4⟩,i1,i3 _ rfl,i2⟩,fun q hq k hk=>?_⟩
   subst hq
   have hqk:byK q (kyOf n l) < 0:=by
    have:geK q (kyOf n l) = false:=by simpa using h5
    simp only [geK,decide_eq_false_iff_not] at this
    omega
   rcases List.mem_cons.1 hk with rfl | hk
   · exact hqk
   · exact byK_ord.trans hqk (i3 _ rfl k hk)
theorem chk_okG {y:Fo} (h:chkY y = 0):OkG 0 y:=by
 unfold chkY at h
 split at h
 · exact (okG_of y 0 none h).1
 · omega
theorem srt_ext:∀ {l l':List Fl},Srt l→Srt l'→(∀ x,x ∈ l ↔ x ∈ l')→l = l'
 | [],[],_,_,_=>rfl
 | [],y :: l',_,_,h=>by have:=(h y).2 (by simp);cases this
 | x :: l,[],_,_,h=>by have:=(h x).1 (by simp);cases this
 | x :: l,y :: l',h1,h2,h=>by
   obtain ⟨a1,a2⟩:=List.pairwise_cons.1 h1
   obtain ⟨b1,b2⟩:=List.pairwise_cons.1 h2
   have hxy:x = y:=by
    rcases List.mem_cons.1 ((h x).1 (by simp)) with e | e
    · exact e
    · rcases List.mem_cons.1 ((h y).2 (by simp)) with e' | e'
      · exact e'.symm
      · have h3:=a1 y e'
        have h4:=b1 x e
        have:=cmpP_ord.trans h3 h4
        rw [cmpP_ord.refl] at this
        omega
   subst hxy
   have hne:∀ {z:Fl},(z ∈ l ∨ z ∈ l')→z ≠ x:=fun hz e=>by
    subst e
    rcases hz with hz | hz
    · have:=a1 _ hz;rw [cmpP_ord.refl] at this;omega
    · have:=b1 _ hz;rw [cmpP_ord.refl] at this;omega
   rw [srt_ext a2 b2 fun z=>?_]
   constructor
   · intro hz
     rcases List.mem_cons.1 ((h z).1 (by simp [hz])) with e | e
     · exact absurd e (hne (.inl hz))
     · exact e
   · intro hz
     rcases List.mem_cons.1 ((h z).2 (by simp [hz])) with e | e
     · exact absurd e (hne (.inr hz))
     · exact e
end Go.Proofs.LF
namespace Go.Proofs.LF
open Go.RowKit Go.Sort
set_option maxHeartbeats 4000000
set_option maxRecDepth 100000
attribute [local go_sem] bs_toList bs_size bs_get
theorem Hp.below {b:Nat} {S:Nat→Prop} {w w':World} (h:Hp b S w) (hb:b < w.heap.size) (hS:∀ q,S q→q < w.heap.size) (hB:Below w.heap.size w w'):Hp b S w':=by
 obtain ⟨a,l,c,nx,rd,h1,h2,h3,h4,h5⟩:=h
 exact ⟨a,l,c,nx,rd,(hB.block b hb).trans h1,h2,h3,SlC.agree h4 (Ag_b hB hS),h5⟩
theorem Hp.agree {b:Nat} {S:Nat→Prop} {w w':World} (h:Hp b S w) (hb:w'.heap[b]? = w.heap[b]?) (hS:Agree S w w'):Hp b S w':=by
 obtain ⟨a,l,c,nx,rd,h1,h2,h3,h4,h5⟩:=h
 exact ⟨a,l,c,nx,rd,hb.trans h1,h2,h3,SlC.agree h4 hS,h5⟩
def FRow (B:Nat) (w:World) (v:Value) (y:Fo):Prop:=∃ cs,w.ownsRow B 85 3 v y.len cs∧FCs (Rx B w.heap.size v) w y cs
theorem FRow.fsl {B:Nat} {w:World} {v:Value} {y:Fo} (h:FRow B w v y):FSl (Rg B w.heap.size) w v y:=let ⟨cs,h1,h2⟩:=h;⟨cs,SlC.of_owns h1,h2.wide fun _ hq=>⟨hq.1,hq.2.1⟩⟩
end Go.Proofs.LF
