/- Parts of the proof of a law of layer 11 (file): LfYau. The conditions stand in each theorem. -/
import Derived.Test.YtffjknkcogmnbaaGreatDoorProg
import Derived.Test.YtffjknkcogmnbaaGreatDoorTyal
import Derived.Test.YtffjknkcogmnbaaGreatDoorTyam
import Derived.Test.YtffjknkcogmnbaaGreatDoorTyan
import Derived.Test.YtffjknkcogmnbaaGreatDoorTyas
set_option linter.all false
set_option linter.unusedVariables false
set_option linter.unusedSimpArgs false
set_option linter.all false
set_option linter.unusedVariables false
set_option linter.unusedSimpArgs false
namespace Go.Proofs.LF
theorem chk_okG {y:Fo} (h:qW_ y = 0):OkG 0 y:=by
 unfold qW_ at h
 split at h
 · exact (okG_of y 0 none h).1
 · omega
end Go.Proofs.LF
namespace Go.Proofs.LF
open Go.RowKit Go.Sort
set_option maxHeartbeats 4000000
set_option maxRecDepth 100000
attribute [local go_sem] q1_ q3_ qa_
theorem Hp.below {b:Nat} {S:Nat→Prop} {w w':World} (h:Hp b S w) (hb:b < w.heap.size) (hS:∀ q,S q→q < w.heap.size) (hB:Below w.heap.size w w'):Hp b S w':=by
 obtain ⟨a,l,c,nx,rd,h1,h2,h3,h4,h5⟩:=h
 exact ⟨a,l,c,nx,rd,(hB.block b hb).trans h1,h2,h3,SlC.agree h4 (qd_ hB hS),h5⟩
theorem Hp.agree {b:Nat} {S:Nat→Prop} {w w':World} (h:Hp b S w) (hb:w'.heap[b]? = w.heap[b]?) (hS:qh_ S w w'):Hp b S w':=by
 obtain ⟨a,l,c,nx,rd,h1,h2,h3,h4,h5⟩:=h
 exact ⟨a,l,c,nx,rd,hb.trans h1,h2,h3,SlC.agree h4 hS,h5⟩
def FRow (B:Nat) (w:World) (v:Value) (y:Fo):Prop:=∃ cs,w.ownsRow B 109 3 v y.len cs∧FCs (Rx B w.heap.size v) w y cs
theorem FRow.fsl {B:Nat} {w:World} {v:Value} {y:Fo} (h:FRow B w v y):FSl (Rg B w.heap.size) w v y:=let ⟨cs,h1,h2⟩:=h;⟨cs,SlC.of_owns h1,h2.wide fun _ hq=>⟨hq.1,hq.2.1⟩⟩
end Go.Proofs.LF