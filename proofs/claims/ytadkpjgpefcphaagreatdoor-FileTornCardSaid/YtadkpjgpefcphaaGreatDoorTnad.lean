/- Parts of the proof of a law of layer 11 (file): LfIdx, LfOw, LfChg, LfHeld2, LfW3, LfChain, LfHole, LfOwU, LfHeld3, LfOn, LfW6, LfW40, LfHole2, LfTwo. The conditions stand in each theorem. -/
import Derived.Laws.Externs
import Derived.Laws.RangeAny
import Derived.Lib.AppendZeros
import Derived.Lib.Overlaps
import Derived.Lib.Walk
import Derived.Test.YtadkpjgpefcphaaGreatDoorProg
import Derived.Test.YtadkpjgpefcphaaGreatDoorTnab
import Derived.Test.YtadkpjgpefcphaaGreatDoorTnac
set_option linter.all false
set_option linter.unusedVariables false
set_option linter.unusedSimpArgs false
namespace Go.Proofs.LF
open Go.RowKit
set_option maxHeartbeats 1000000
set_option maxRecDepth 100000
attribute [local go_sem] bs_toList
def elemV (k:Nat) (cs:List Value) (i:Nat):Value:=if k = 1 then cs.getD i undef else .agg ((List.range k).map fun j=>cs.getD (i * k + j) undef).toArray
def Enters (g:Nat):Prop:=∀ (args:Array Value) (W:World),Sem.run Tryz.prog (callFunc g args) W = .ok (.enter g args) W
def PredC (g:Nat) (caps:List Value) (w:World) (args:List Value) (b:Bool):Prop:=
 ∀ W,Below w.heap.size w W→Calls Tryz.prog g (args ++ caps).toArray W fun e w'=>e = .returned (.bool b)∧Below W.heap.size W w'
theorem getD_of_lt {l:List Value} {i:Nat} (h:i < l.length):l[i]? = some (l.getD i undef):=by
 rw [List.getD_eq_getElem?_getD,List.getElem?_eq_getElem h];rfl
theorem idx_int (g:Nat) (hE:Enters g) (p:Nat→Bool) (caps:List Value) (n:Nat) (a:Option Addr) (c:Nat) (cs:List Value) (S:Nat→Prop) (w:World) (hl:SlC S w 1 (.slice a n c) n cs) (hS:∀ b,S b→b < w.heap.size) (hlen:n ≤ 100000)
 (hp:∀ i,i < n→PredC g caps w [elemV 1 cs i] (p i)) :
 Calls Tryz.prog 242 #[.slice a n c, .func (.func g) #[] caps.toArray] w fun e w'=>e = .returned (.int .i64 (idxN p n))∧Below w.heap.size w w':=by
 have hE':∀ (args:Array Value) (W:World),Sem.run Tryz.prog (callFunc g args) W = .ok (.enter g args) W:=hE
 clear hE
 go_enter Tryz.func242,Tryz.ntmps242
 go_wp2_with fail
 go_loopw [8] (fun i wr=>∃ k:Nat,k ≤ n∧i = .int .i64 k∧Hid (∀ j,j < k→p j = false)∧Below w.heap.size w wr) (fun i _=>n - (intOf i).toNat)
 case atStart=>exact ⟨0,by omega,rfl,by intro j hj;omega,Below.refl _ _⟩
 case round=>
  obtain ⟨k,hk,rfl,H2,hB⟩:=hrel
  have HP:=hid hp
  clear hp
  by_cases hlt:k < n
  · obtain ⟨g',o,rfl,hg,_,_,hcell⟩:=SlC.cells hl (by omega)
    have hx0:=(Ag_b (S:=S) hB hS).cell hg (hcell k _ (getD_of_lt (by have:=hl.1;omega)))
    clear hcell
    go_wp2_with fail
    refine (HP.out k hlt _ hB).mono ?_
    rintro e w' ⟨rfl,hb'⟩
    cases hpx:p k with
    | true=>
      have HX:=hid hpx
      clear hpx
      go_wp2_with fail
      go_ret
      exact ⟨ret_int (idxN_found H2.out hlt HX.out).symm,hB.trans (hb'.mono hB.size)⟩
    | false=>
      have HX:=hid hpx
      clear hpx
      go_wp2_with fail
      go_roundw
      case rel=>exact ⟨k + 1,by omega,by go_num,fun j hj=>by rcases Nat.lt_succ_iff_lt_or_eq.1 hj with h | h;exact H2.out j h;rw [h];exact HX.out,hB.trans (hb'.mono hB.size)⟩
      case measure=>simp [intOf];omega
  · go_wp2_with fail
    go_ret
    obtain rfl:k = n:=by omega
    exact ⟨ret_int (idxN_none H2.out).symm,hB⟩
theorem cont_int (g:Nat) (hE:Enters g) (p:Nat→Bool) (caps:List Value) (n:Nat) (a:Option Addr) (c:Nat) (cs:List Value) (S:Nat→Prop) (w:World) (hl:SlC S w 1 (.slice a n c) n cs) (hS:∀ b,S b→b < w.heap.size) (hlen:n ≤ 100000)
 (hp:∀ i,i < n→PredC g caps w [elemV 1 cs i] (p i)) :
 Calls Tryz.prog 208 #[.slice a n c, .func (.func g) #[] caps.toArray] w fun e w'=>e = .returned (.bool (anyN p n))∧Below w.heap.size w w':=by
 have HP:=hid hp
 clear hp
 go_enter Tryz.func208,Tryz.ntmps208
 go_wp2_with fail
 refine (idx_int g hE p caps n a c cs S w hl hS hlen HP.out).mono ?_
 rintro e w' ⟨rfl,hb⟩
 go_wp2_with fail
 go_ret
 exact ⟨ret_bool (idxN_any p n),hb⟩
theorem idx_flat (g:Nat) (hE:Enters g) (p:Nat→Bool) (caps:List Value) (n:Nat) (a:Option Addr) (c:Nat) (cs:List Value) (S:Nat→Prop) (w:World) (hl:SlC S w 2 (.slice a n c) n cs) (hS:∀ b,S b→b < w.heap.size) (hlen:n ≤ 100000)
 (hp:∀ i,i < n→PredC g caps w [elemV 2 cs i] (p i)) :
 Calls Tryz.prog 101 #[.slice a n c, .func (.func g) #[] caps.toArray] w fun e w'=>e = .returned (.int .i64 (idxN p n))∧Below w.heap.size w w':=by
 have hE':∀ (args:Array Value) (W:World),Sem.run Tryz.prog (callFunc g args) W = .ok (.enter g args) W:=hE
 clear hE
 go_enter Tryz.func101,Tryz.ntmps101
 go_wp2_with fail
 go_loopw [8] (fun i wr=>∃ k:Nat,k ≤ n∧i = .int .i64 k∧Hid (∀ j,j < k→p j = false)∧Below w.heap.size w wr) (fun i _=>n - (intOf i).toNat)
 case atStart=>exact ⟨0,by omega,rfl,by intro j hj;omega,Below.refl _ _⟩
 case round=>
  obtain ⟨k,hk,rfl,H2,hB⟩:=hrel
  have HP:=hid hp
  clear hp
  by_cases hlt:k < n
  · obtain ⟨g',o,rfl,hg,_,_,hcell⟩:=SlC.cells hl (by omega)
    have hx0:=(Ag_b (S:=S) hB hS).cell hg (hcell (k * 2) _ (getD_of_lt (by have:=hl.1;omega)))
    have hx1:=(Ag_b (S:=S) hB hS).cell hg (hcell (k * 2 + 1) _ (getD_of_lt (by have:=hl.1;omega)))
    simp only [← Nat.add_assoc] at hx1
    clear hcell
    go_wp2_with fail
    refine (HP.out k hlt _ hB).mono ?_
    rintro e w' ⟨rfl,hb'⟩
    cases hpx:p k with
    | true=>
      have HX:=hid hpx
      clear hpx
      go_wp2_with fail
      go_ret
      exact ⟨ret_int (idxN_found H2.out hlt HX.out).symm,hB.trans (hb'.mono hB.size)⟩
    | false=>
      have HX:=hid hpx
      clear hpx
      go_wp2_with fail
      go_roundw
      case rel=>exact ⟨k + 1,by omega,by go_num,fun j hj=>by rcases Nat.lt_succ_iff_lt_or_eq.1 hj with h | h;exact H2.out j h;rw [h];exact HX.out,hB.trans (hb'.mono hB.size)⟩
      case measure=>simp [intOf];omega
  · go_wp2_with fail
    go_ret
    obtain rfl:k = n:=by omega
    exact ⟨ret_int (idxN_none H2.out).symm,hB⟩
theorem idx_node (g:Nat) (hE:Enters g) (p:Nat→Bool) (caps:List Value) (n:Nat) (a:Option Addr) (c:Nat) (cs:List Value) (S:Nat→Prop) (w:World) (hl:SlC S w 3 (.slice a n c) n cs) (hS:∀ b,S b→b < w.heap.size) (hlen:n ≤ 100000)
 (hp:∀ i,i < n→PredC g caps w [elemV 3 cs i] (p i)) :
 Calls Tryz.prog 134 #[.slice a n c, .func (.func g) #[] caps.toArray] w fun e w'=>e = .returned (.int .i64 (idxN p n))∧Below w.heap.size w w':=by
 have hE':∀ (args:Array Value) (W:World),Sem.run Tryz.prog (callFunc g args) W = .ok (.enter g args) W:=hE
 clear hE
 go_enter Tryz.func134,Tryz.ntmps134
 go_wp2_with fail
 go_loopw [8] (fun i wr=>∃ k:Nat,k ≤ n∧i = .int .i64 k∧Hid (∀ j,j < k→p j = false)∧Below w.heap.size w wr) (fun i _=>n - (intOf i).toNat)
 case atStart=>exact ⟨0,by omega,rfl,by intro j hj;omega,Below.refl _ _⟩
 case round=>
  obtain ⟨k,hk,rfl,H2,hB⟩:=hrel
  have HP:=hid hp
  clear hp
  by_cases hlt:k < n
  · obtain ⟨g',o,rfl,hg,_,_,hcell⟩:=SlC.cells hl (by omega)
    have hx0:=(Ag_b (S:=S) hB hS).cell hg (hcell (k * 3) _ (getD_of_lt (by have:=hl.1;omega)))
    have hx1:=(Ag_b (S:=S) hB hS).cell hg (hcell (k * 3 + 1) _ (getD_of_lt (by have:=hl.1;omega)))
    have hx2:=(Ag_b (S:=S) hB hS).cell hg (hcell (k * 3 + 2) _ (getD_of_lt (by have:=hl.1;omega)))
    simp only [← Nat.add_assoc] at hx1 hx2
    clear hcell
    go_wp2_with fail
    refine (HP.out k hlt _ hB).mono ?_
    rintro e w' ⟨rfl,hb'⟩
    cases hpx:p k with
    | true=>
      have HX:=hid hpx
      clear hpx
      go_wp2_with fail
      go_ret
      exact ⟨ret_int (idxN_found H2.out hlt HX.out).symm,hB.trans (hb'.mono hB.size)⟩
    | false=>
      have HX:=hid hpx
      clear hpx
      go_wp2_with fail
      go_roundw
      case rel=>exact ⟨k + 1,by omega,by go_num,fun j hj=>by rcases Nat.lt_succ_iff_lt_or_eq.1 hj with h | h;exact H2.out j h;rw [h];exact HX.out,hB.trans (hb'.mono hB.size)⟩
      case measure=>simp [intOf];omega
  · go_wp2_with fail
    go_ret
    obtain rfl:k = n:=by omega
    exact ⟨ret_int (idxN_none H2.out).symm,hB⟩
theorem idx_path (g:Nat) (hE:Enters g) (p:Nat→Bool) (caps:List Value) (n:Nat) (a:Option Addr) (c:Nat) (cs:List Value) (S:Nat→Prop) (w:World) (hl:SlC S w 1 (.slice a n c) n cs) (hS:∀ b,S b→b < w.heap.size) (hlen:n ≤ 100000)
 (hp:∀ i,i < n→PredC g caps w [elemV 1 cs i] (p i)) :
 Calls Tryz.prog 128 #[.slice a n c, .func (.func g) #[] caps.toArray] w fun e w'=>e = .returned (.int .i64 (idxN p n))∧Below w.heap.size w w':=by
 have hE':∀ (args:Array Value) (W:World),Sem.run Tryz.prog (callFunc g args) W = .ok (.enter g args) W:=hE
 clear hE
 go_enter Tryz.func128,Tryz.ntmps128
 go_wp2_with fail
 go_loopw [8] (fun i wr=>∃ k:Nat,k ≤ n∧i = .int .i64 k∧Hid (∀ j,j < k→p j = false)∧Below w.heap.size w wr) (fun i _=>n - (intOf i).toNat)
 case atStart=>exact ⟨0,by omega,rfl,by intro j hj;omega,Below.refl _ _⟩
 case round=>
  obtain ⟨k,hk,rfl,H2,hB⟩:=hrel
  have HP:=hid hp
  clear hp
  by_cases hlt:k < n
  · obtain ⟨g',o,rfl,hg,_,_,hcell⟩:=SlC.cells hl (by omega)
    have hx0:=(Ag_b (S:=S) hB hS).cell hg (hcell k _ (getD_of_lt (by have:=hl.1;omega)))
    clear hcell
    go_wp2_with fail
    refine (HP.out k hlt _ hB).mono ?_
    rintro e w' ⟨rfl,hb'⟩
    cases hpx:p k with
    | true=>
      have HX:=hid hpx
      clear hpx
      go_wp2_with fail
      go_ret
      exact ⟨ret_int (idxN_found H2.out hlt HX.out).symm,hB.trans (hb'.mono hB.size)⟩
    | false=>
      have HX:=hid hpx
      clear hpx
      go_wp2_with fail
      go_roundw
      case rel=>exact ⟨k + 1,by omega,by go_num,fun j hj=>by rcases Nat.lt_succ_iff_lt_or_eq.1 hj with h | h;exact H2.out j h;rw [h];exact HX.out,hB.trans (hb'.mono hB.size)⟩
      case measure=>simp [intOf];omega
  · go_wp2_with fail
    go_ret
    obtain rfl:k = n:=by omega
    exact ⟨ret_int (idxN_none H2.out).symm,hB⟩
theorem cont_path (g:Nat) (hE:Enters g) (p:Nat→Bool) (caps:List Value) (n:Nat) (a:Option Addr) (c:Nat) (cs:List Value) (S:Nat→Prop) (w:World) (hl:SlC S w 1 (.slice a n c) n cs) (hS:∀ b,S b→b < w.heap.size) (hlen:n ≤ 100000)
 (hp:∀ i,i < n→PredC g caps w [elemV 1 cs i] (p i)) :
 Calls Tryz.prog 45 #[.slice a n c, .func (.func g) #[] caps.toArray] w fun e w'=>e = .returned (.bool (anyN p n))∧Below w.heap.size w w':=by
 have HP:=hid hp
 clear hp
 go_enter Tryz.func45,Tryz.ntmps45
 go_wp2_with fail
 refine (idx_path g hE p caps n a c cs S w hl hS hlen HP.out).mono ?_
 rintro e w' ⟨rfl,hb⟩
 go_wp2_with fail
 go_ret
 exact ⟨ret_bool (idxN_any p n),hb⟩
end Go.Proofs.LF
namespace Go.Proofs.LF
open Go.RowKit
def FOCs (E:TypeId):(Nat→Prop)→World→Fo→List Value→Prop
 | _,_, .nil,cs=>cs = []
 | S,w, .cons n l s r,cs=>∃ (vn vs:Value) (cs':List Value) (S1 S2 S3:Nat→Prop),cs = .string (bs n) :: vn :: vs :: cs' ∧
    (∀ b,S1 b ∨ S2 b ∨ S3 b→S b)∧(∀ b,S1 b→¬ S2 b)∧(∀ b,S1 b→¬ S3 b)∧(∀ b,S2 b→¬ S3 b)∧IntU S1 w vn l ∧
    (∃ ds,w.ownsRow 0 E 3 vs s.len ds∧(∀ g,vs.ownBlock = some g→S2 g)∧FOCs E (fun b=>S2 b∧vs.ownBlock ≠ some b) w s ds)∧FOCs E S3 w r cs'
def FOw (E:TypeId) (S:Nat→Prop) (w:World) (v:Value) (y:Fo):Prop:=
 ∃ ds,w.ownsRow 0 E 3 v y.len ds∧(∀ g,v.ownBlock = some g→S g)∧FOCs E (fun b=>S b∧v.ownBlock ≠ some b) w y ds
theorem owns_agree {w w':World} {base e k n:Nat} {v:Value} {xs:List Value} (h:w.ownsRow base e k v n xs) (ha:∀ g,v.ownBlock = some g→w'.heap[g]? = w.heap[g]?):w'.ownsRow base e k v n xs:=by
 refine ⟨h.1,?_⟩
 rcases h.2 with hn | ⟨g,cap,cur,rfl,hb,hgg,rest⟩
 · exact .inl hn
 · exact .inr ⟨g,cap,cur,rfl,hb,(ha g rfl).trans hgg,rest⟩
theorem owns_base {w:World} {base base' e k n:Nat} {v:Value} {xs:List Value} (h:w.ownsRow base e k v n xs) (hb:∀ g,v.ownBlock = some g→base' ≤ g):w.ownsRow base' e k v n xs:=by
 refine ⟨h.1,?_⟩
 rcases h.2 with hn | ⟨g,cap,cur,rfl,hb',hgg,rest⟩
 · exact .inl hn
 · exact .inr ⟨g,cap,cur,rfl,hb g rfl,hgg,rest⟩
theorem FOCs.agree {E:TypeId} {w w':World}:∀ {y:Fo} {S:Nat→Prop} {cs:List Value},FOCs E S w y cs→Agree S w w'→FOCs E S w' y cs
 | .nil,_,_,h,_=>h
 | .cons n l s r,S,cs,⟨vn,vs,cs',S1,S2,S3,h1,hs,d1,d2,d3,h2,⟨ds,h3,h4,h5⟩,h6⟩,ha=>
   ⟨vn,vs,cs',S1,S2,S3,h1,hs,d1,d2,d3,IntU.agree h2 (fun b hb=>ha b (hs b (.inl hb))),
     ⟨ds,owns_agree h3 (fun g hg=>ha g (hs g (.inr (.inl (h4 g hg))))),h4,h5.agree (fun b hb=>ha b (hs b (.inr (.inl hb.1))))⟩,h6.agree (fun b hb=>ha b (hs b (.inr (.inr hb))))⟩
theorem FOCs.wide {E:TypeId} {w:World}:∀ {y:Fo} {S S':Nat→Prop} {cs:List Value},FOCs E S w y cs→(∀ b,S b→S' b)→FOCs E S' w y cs
 | .nil,_,_,_,h,_=>h
 | .cons n l s r,S,S',cs,⟨vn,vs,cs',S1,S2,S3,h1,hs,d1,d2,d3,h2,h3,h6⟩,hw=>
   ⟨vn,vs,cs',S1,S2,S3,h1,fun b hb=>hw b (hs b hb),d1,d2,d3,h2,h3,h6⟩
theorem FOCs.app {E:TypeId} {w:World}:∀ {y z:Fo} {S S':Nat→Prop} {cs ds:List Value},FOCs E S w y cs→FOCs E S' w z ds→(∀ b,S b→¬ S' b)→FOCs E (fun b=>S b ∨ S' b) w (y.app z) (cs ++ ds)
 | .nil,z,_,_,_,_,h,h',_=>by rw [show _ = [] from h];exact h'.wide (fun b hb => .inr hb)
 | .cons n l s r,z,S,S',cs,ds,⟨vn,vs,cs',S1,S2,S3,h1,hs,d1,d2,d3,h2,h3,h6⟩,h',hd=>
   ⟨vn,vs,cs' ++ ds,S1,S2,fun b=>S3 b ∨ S' b,by rw [h1];rfl,fun b hb=>by
     rcases hb with hb | hb | hb | hb
     · exact .inl (hs b (.inl hb))
     · exact .inl (hs b (.inr (.inl hb)))
     · exact .inl (hs b (.inr (.inr hb)))
     · exact .inr hb,
     d1,fun b hb h=>h.elim (d2 b hb) (hd b (hs b (.inl hb))),fun b hb h=>h.elim (d3 b hb) (hd b (hs b (.inr (.inl hb)))),h2,h3,
     h6.app h' (fun b hb=>hd b (hs b (.inr (.inr hb))))⟩
theorem FOCs.fcs {E:TypeId} {w:World}:∀ {y:Fo} {S:Nat→Prop} {cs:List Value},FOCs E S w y cs→FCs S w y cs
 | .nil,_,_,h=>h
 | .cons n l s r,S,cs,⟨vn,vs,cs',S1,S2,S3,h1,hs,_,_,_,h2,⟨ds,h3,h4,h5⟩,h6⟩=>by
   refine ⟨vn,vs,cs',h1,Ints.wide h2 (fun b hb=>hs b (.inl hb.1)),⟨ds,?_,h5.fcs.wide (fun b hb=>hs b (.inr (.inl hb.1)))⟩,h6.fcs.wide (fun b hb=>hs b (.inr (.inr hb)))⟩
   exact owns_slc h3 (fun g hg=>hs g (.inr (.inl (h4 g hg))))
 where
 owns_slc {w:World} {base e k n:Nat} {v:Value} {xs:List Value} {S:Nat→Prop} (h:w.ownsRow base e k v n xs) (hS:∀ g,v.ownBlock = some g→S g):SlC S w k v n xs:=by
  obtain ⟨h1,h2⟩:=h
  refine ⟨h1,?_⟩
  rcases h2 with ⟨rfl,rfl⟩ | ⟨g,cap,cur,rfl,hb,hg,hn,hc,hs,ht⟩
  · exact ⟨none,0,rfl,by omega,by simp [maxLen],fun _=>rfl, .inl rfl⟩
  · refine ⟨_,cap,rfl,hn,hc,(fun h=>by cases h), .inr ⟨g,0,rfl,hS g rfl,fun j u hj=>?_⟩⟩
    simp only [World.cell?,hg,Nat.zero_add]
    rw [← ht,List.getElem?_take] at hj
    split at hj
    · simpa using hj
    · cases hj
theorem FOw.agree {E:TypeId} {S:Nat→Prop} {w w':World} {v:Value} {y:Fo} (h:FOw E S w v y) (ha:Agree S w w'):FOw E S w' v y:=
 let ⟨ds,h1,h2,h3⟩:=h;⟨ds,owns_agree h1 (fun g hg=>ha g (h2 g hg)),h2,h3.agree (fun b hb=>ha b hb.1)⟩
theorem FOw.wide {E:TypeId} {S S':Nat→Prop} {w:World} {v:Value} {y:Fo} (h:FOw E S w v y) (hw:∀ b,S b→S' b):FOw E S' w v y:=
 let ⟨ds,h1,h2,h3⟩:=h;⟨ds,h1,fun g hg=>hw g (h2 g hg),h3.wide (fun b hb=>⟨hw b hb.1,hb.2⟩)⟩
theorem FOw.fsl {E:TypeId} {S:Nat→Prop} {w:World} {v:Value} {y:Fo} (h:FOw E S w v y):FSl S w v y:=
 let ⟨ds,h1,h2,h3⟩:=h;⟨ds,FOCs.fcs.owns_slc h1 h2,h3.fcs.wide (fun b hb=>hb.1)⟩
theorem FOCs.one {E:TypeId} {S1 S2:Nat→Prop} {w:World} {n:List UInt8} {l:List Int} {s:Fo} {vn vs:Value} (h1:IntU S1 w vn l) (h2:FOw E S2 w vs s) (hd:∀ b,S1 b→¬ S2 b):FOCs E (fun b=>S1 b ∨ S2 b) w (.cons n l s .nil) [.string (bs n),vn,vs]:=by
 obtain ⟨ds,h3,h4,h5⟩:=h2
 exact ⟨vn,vs,[],S1,S2,fun _=>False,rfl,fun b hb=>by rcases hb with hb | hb | hb;exact .inl hb;exact .inr hb;exact hb.elim,hd,fun _ _ h=>h,fun _ _ h=>h,h1,⟨ds,h3,h4,h5⟩,rfl⟩
end Go.Proofs.LF
namespace Go.Proofs.LF
def bsG (lt:Nat→Bool):Nat→Nat→Nat→Nat
 | 0,i,_=>i
 | f + 1,i,j=>if i < j then (if lt ((i + j) / 2) then bsG lt f ((i + j) / 2 + 1) j else bsG lt f i ((i + j) / 2)) else i
theorem bsG_fuel (lt:Nat→Bool):∀ (f i j:Nat),j - i ≤ f→bsG lt f i j = bsG lt (j - i) i j
 | 0,i,j,h=>by rw [show j - i = 0 by omega]
 | f + 1,i,j,h=>by
   by_cases hij:i < j
   · obtain ⟨d,hd⟩:∃ d,j - i = d + 1:=⟨j - i - 1,by omega⟩
     rw [hd]
     simp only [bsG,hij,if_true]
     split
     · rw [bsG_fuel lt f _ _ (by omega),bsG_fuel lt d _ _ (by omega)]
     · rw [bsG_fuel lt f _ _ (by omega),bsG_fuel lt d _ _ (by omega)]
   · rw [show j - i = 0 by omega]
     simp [bsG,hij]
def bsF (lt:Nat→Bool) (i j:Nat):Nat:=bsG lt (j - i) i j
theorem bsF_stop {lt:Nat→Bool} {i j:Nat} (h:¬ i < j):bsF lt i j = i:=by
 unfold bsF;rw [show j - i = 0 by omega];rfl
theorem bsF_go {lt:Nat→Bool} {i j:Nat} (h:i < j):bsF lt i j = if lt ((i + j) / 2) then bsF lt ((i + j) / 2 + 1) j else bsF lt i ((i + j) / 2):=by
 unfold bsF
 obtain ⟨d,hd⟩:∃ d,j - i = d + 1:=⟨j - i - 1,by omega⟩
 rw [hd]
 simp only [bsG,h,if_true]
 rw [bsG_fuel lt d _ _ (by omega),bsG_fuel lt d _ _ (by omega)]
theorem bsF_le {lt:Nat→Bool}:∀ (n i j:Nat),j - i ≤ n→i ≤ j→i ≤ bsF lt i j∧bsF lt i j ≤ j
 | 0,i,j,h,h2=>by rw [bsF_stop (by omega)];omega
 | n + 1,i,j,h,h2=>by
   by_cases hij:i < j
   · rw [bsF_go hij]
     split
     · have:=bsF_le (lt:=lt) n ((i + j) / 2 + 1) j (by omega) (by omega);omega
     · have:=bsF_le (lt:=lt) n i ((i + j) / 2) (by omega) (by omega);omega
   · rw [bsF_stop hij];omega
def fl0:Fl:=⟨[],[]⟩
def fndI (l:List Fl) (p:List Ky):Nat:=bsF (fun h=>decide (cmpP (l.getD h fl0).p p < 0)) 0 l.length
def fnd (l:List Fl) (p:List Ky):Option Fl:=match l[fndI l p]? with | some x=>if cmpP x.p p = 0 then some x else none | none=>none
def smF (a b:List Fl) (p:List Ky):Bool:=match fnd a p,fnd b p with | some x,some y=>decide (x.l = y.l) | none,none=>true | _,_=>false
def sptK (k:Ky):List UInt8:=47 :: k.n ++ (if k.h then 58 :: Lib.itoa k.x else if k.x ≠ 0 then 63 :: Lib.itoa k.x else [])
def sptL (p:List Ky):List UInt8:=(p.map sptK).flatten
def ddP:List (List Ky)→List (List Ky)→List (List Ky)
 | acc,[]=>acc
 | acc,p :: r=>if sptL p ∈ acc.map sptL then ddP acc r else ddP (acc ++ [p]) r
def insP (p:List Ky):List (List Ky)→List (List Ky)
 | []=>[p]
 | q :: r=>if cmpP q p < 0 then q :: insP p r else p :: q :: r
def srtP:List (List Ky)→List (List Ky)
 | []=>[]
 | p :: r=>insP p (srtP r)
def pthsF (l:List (List Fl)):List (List Ky):=srtP (ddP [] (l.flatten.map Fl.p))
def chD (a b:List Fl) (p:List Ky):Option Ch:=
 if smF a b p then none else some ⟨p,(fnd a p).isSome,(fnd b p).isSome,((fnd a p).getD fl0).l,((fnd b p).getD fl0).l⟩
def dfF (a b:List Fl):List Ch:=(pthsF [a,b]).filterMap (chD a b)
def lsF:List Fl→List (List Ky)→List Fl→List Fl × List (List Ky)
 | kept,out,[]=>(kept,out)
 | kept,out,f :: r=>if (fnd kept f.p.dropLast).isSome ∨ f.p.length = 1 then lsF (kept ++ [f]) out r else lsF kept (out ++ [f.p]) r
def jnF (o a b:List Fl):List Fl→List (List Ky)→List (List Ky)→List Fl × List (List Ky)
 | all,con,[]=>(all,con)
 | all,con,p :: r=>
   let st:=if smF a b p ∨ smF o b p then (a,con) else if smF o a p then (b,con) else (o,con ++ [p])
   jnF o a b (match fnd st.1 p with | some f=>all ++ [f] | none=>all) st.2 r
def cnF (con:List (List Ky)):List (List Ky)→List (List Ky)
 | []=>con
 | p :: r=>cnF (if con.any (fun q=>decide (cmpP q p = 0)) then con else con ++ [p]) r
def joF (o a b:Fo):List Fl × List (List Ky):=
 let l:=[flsL [] o,flsL [] a,flsL [] b]
 let j:=jnF (flsL [] o) (flsL [] a) (flsL [] b) [] [] (pthsF l)
 let k:=lsF [] [] j.1
 (k.1,srtP (cnF j.2 k.2))
theorem insP_perm (p:List Ky):∀ l,(insP p l).Perm (p :: l)
 | []=>List.Perm.refl _
 | q :: r=>by
   simp only [insP]
   split
   · exact ((insP_perm p r).cons q).trans (List.Perm.swap _ _ _)
   · exact List.Perm.refl _
theorem srtP_perm:∀ l,(srtP l).Perm l
 | []=>List.Perm.refl _
 | p :: r=>(insP_perm p _).trans ((srtP_perm r).cons p)
theorem insP_sorted (p:List Ky):∀ l:List (List Ky),l.Pairwise (fun a b=>cmpP a b ≤ 0)→(insP p l).Pairwise (fun a b=>cmpP a b ≤ 0)
 | [],_=>by simp [insP]
 | q :: r,h=>by
   obtain ⟨h1,h2⟩:=List.pairwise_cons.1 h
   simp only [insP]
   split
   · rename_i hq
     refine List.pairwise_cons.2 ⟨fun x hx=>?_,insP_sorted p r h2⟩
     rcases List.mem_cons.1 ((insP_perm p r).mem_iff.1 hx) with rfl | hx
     · omega
     · exact h1 x hx
   · rename_i hq
     have hpq:cmpP p q ≤ 0:=by
      rcases Int.lt_trichotomy (cmpP p q) 0 with h' | h' | h'
      · omega
      · omega
      · exact absurd (cmpP_ord.flop h') hq
     refine List.pairwise_cons.2 ⟨fun x hx=>?_,h⟩
     rcases List.mem_cons.1 hx with rfl | hx
     · exact hpq
     · have:=h1 x hx
       rcases Int.lt_or_eq_of_le hpq with a | a
       · rcases Int.lt_or_eq_of_le this with b | b
         · exact Int.le_of_lt (cmpP_ord.trans a b)
         · rw [← cmpP_ord.eq b];omega
       · rw [cmpP_ord.eq a];exact this
theorem srtP_sorted:∀ l,(srtP l).Pairwise (fun a b=>cmpP a b ≤ 0)
 | []=>List.Pairwise.nil
 | p :: r=>insP_sorted p _ (srtP_sorted r)
theorem srtP_of {l l':List (List Ky)} (hp:l'.Perm l) (hs:l'.Pairwise (fun a b=>cmpP a b ≤ 0)):l' = srtP l:=
 List.Perm.eq_of_pairwise (le:=fun a b=>cmpP a b ≤ 0) (fun a b _ _ h k=>by
  rcases Int.lt_or_eq_of_le h with h | h
  · have:=cmpP_ord.flip h;omega
  · exact cmpP_ord.eq h) hs (srtP_sorted l) (hp.trans (srtP_perm l).symm)
end Go.Proofs.LF
namespace Go.Proofs.LF
open Go.RowKit
section
variable {F:Fence} {n:Nat} {P:Program} {ops:Array Oper} {Q:Exit→Act→World→Prop} {md:Region.Mode} {S:World→Prop} {L:Nat}
def AnyT (F:Fence) (n:Nat) (P:Program) (md:Region.Mode) (ops:Array Oper) (Q:Exit→Act→World→Prop) (S:World→Prop) (L:Nat):Nat→Array Bool→Act→World→Prop
 | 0,listed,a,w=>Region.ready md ops listed = []∧Q .normal a w
 | fuel + 1,listed,a,w=>
   (Region.ready md ops listed = []→Q .normal a w) ∧
   ∀ i ∈ Region.ready md ops listed,wpOpIn F n P ops Q i (fun a' w'=>if i = L then wpAnyIn F n P md ops Q fuel (listed.setIfInBounds i true) a' w' else S w'∧AnyT F n P md ops Q S L fuel (listed.setIfInBounds i true) a' w') a w
theorem any_of_T:∀ (fuel:Nat) (listed:Array Bool) (a:Act) (w:World),AnyT F n P md ops Q S L fuel listed a w→wpAnyIn F n P md ops Q fuel listed a w
 | 0,_,_,_,h=>h
 | fuel + 1,_,_,_,h=>⟨h.1,fun i hi=>wpOpIn_mono (fun a' w' h'=>by
    split at h'
    · exact h'
    · exact any_of_T fuel _ a' w' h'.2) (h.2 i hi)⟩
theorem AnyT_first (hF:∀ f,F.fn f) (hnd:ops.all notDefer = true) {i:Nat} {oi:Oper} {v:Value} (hi:ops[i]? = some oi) (hsel:∀ (j:Nat) (o:Oper) cs b,ops[j]? = some o→o.op ≠ .select cs b)
 (hQ:∀ c a w,Q (.panic c) (a.put oi.dst v) w→Q (.panic c) a w) (hiL:i ≠ L) (hL:∀ (listed:Array Bool),i ∈ Region.ready md ops listed→L ∉ Region.ready md ops listed) :
 ∀ (fuel:Nat) (listed:Array Bool) (a:Act) (w:World),
  (∀ j oj,ops[j]? = some oj→j ≠ i→listed.getD j true = false→(∀ e ∈ oj.after,Region.binds md e = true→e.on ≠ i)→oi.apart ops oj = true) →
  i ∈ Region.ready md ops listed→YIf P ops S oi v a→S w →
  AnyT F n P md ops Q S L fuel (listed.setIfInBounds i true) (a.put oi.dst v) w→AnyT F n P md ops Q S L (fuel + 1) listed a w:=by
 have hno:∀ j o,ops[j]? = some o→notDefer o = true:=fun j o h=>by
  rw [Array.all_eq_true] at hnd
  obtain ⟨hj,rfl⟩:=Array.getElem?_eq_some_iff.1 h
  exact hnd j hj
 intro fuel
 induction fuel with
 | zero=>
   intro listed a w _ hr hy hS H
   refine ⟨fun h=>(by rw [h] at hr;cases hr),fun j hj=>?_⟩
   by_cases hji:j = i
   · subst hji;exact hy.wpOp hF hi (hno _ _ hi) hS (by rw [if_neg hiL];exact ⟨hS,H⟩)
   · have:=ready_mono hj hji
     rw [H.1] at this
     cases this
 | succ fuel ih=>
   intro listed a w hfree hr hy hS H
   refine ⟨fun h=>(by rw [h] at hr;cases hr),fun j hj=>?_⟩
   by_cases hji:j = i
   · subst hji;exact hy.wpOp hF hi (hno _ _ hi) hS (by rw [if_neg hiL];exact ⟨hS,H⟩)
   · have hjL:j ≠ L:=fun e=>hL listed hr (e ▸ hj)
     have h1:=H.2 j (ready_mono hj hji)
     simp only [if_neg hjL] at h1 ⊢
     obtain ⟨hjun,oj,hoj,hall⟩:=mem_ready.1 hj
     have hnot:∀ e ∈ oj.after,Region.binds md e = true→e.on ≠ i:=fun e he hb heq=>by
      have h1:=hall e he hb
      have h0:=(mem_ready.1 hr).1
      rw [heq] at h1
      rcases Nat.lt_or_ge i listed.size with h' | h'
      · simp [h'] at h0 h1;rw [h0] at h1;cases h1
      · simp [Array.getElem?_eq_none h'] at h1
     have h2:=wpOpIn_putIf hoj (hno _ _ hoj) (hfree j oj hoj hji hjun hnot) (fun cs b=>hsel i oi cs b hi) (fun cs b=>hsel j oj cs b hoj) hQ hy h1
     have hfree':∀ k ok,ops[k]? = some ok→k ≠ i→(listed.setIfInBounds j true).getD k true = false →
      (∀ e ∈ ok.after,Region.binds md e = true→e.on ≠ i)→oi.apart ops ok = true:=fun k ok hk hki hun hno=>by
      refine hfree k ok hk hki ?_ hno
      by_cases hjk:j = k
      · subst hjk;exact hjun
      · rw [getD_set_ne true hjk] at hun;exact hun
     refine wpOpIn_mono (fun a' w' h3=>⟨h3.2.1,ih (listed.setIfInBounds j true) a' w' hfree' (ready_mono hr (Ne.symm hji)) h3.1 h3.2.1 ?_⟩) h2
     rw [Array.setIfInBounds_comm _ _ hji]
     exact h3.2.2
def waits (md:Region.Mode) (ops:Array Oper) (L i:Nat):Bool:=match ops[L]? with | some o=>o.after.any (fun e=>Region.binds md e && e.on == i) | none=>true
theorem waits_spec {i:Nat} (h:waits md ops L i = true) (listed:Array Bool) (hr:i ∈ Region.ready md ops listed):L ∉ Region.ready md ops listed:=fun hl=>by
 obtain ⟨_,o,ho,hall⟩:=mem_ready.1 hl
 unfold waits at h
 rw [ho] at h
 simp only [Array.any_eq_true,Bool.and_eq_true,beq_iff_eq] at h
 obtain ⟨k,hk,hb,he⟩:=h
 have h1:=hall _ (Array.getElem_mem hk) hb
 have h0:=(mem_ready.1 hr).1
 rw [he] at h1
 rcases Nat.lt_or_ge i listed.size with h' | h'
 · simp [h'] at h0 h1;rw [h0] at h1;cases h1
 · simp [Array.getElem?_eq_none h'] at h1
theorem AnyT_takeD (hF:∀ f,F.fn f) (hnd:ops.all notDefer = true) (i t:Nat) (v:Value) {oi:Oper} {fuel:Nat} {listed:Array Bool} {a:Act} {w:World} (hi:ops[i]? = some oi) (hd:oi.dst = some t)
 (hs:Region.noSelect ops = true) (hf:Region.free md ops listed i = true) (hr:(Region.ready md ops listed).contains i = true) (hiL:i ≠ L) (hw:waits md ops L i = true)
 (hQ:∀ c a w,Q (.panic c) (a.put (some t) v) w→Q (.panic c) a w) (hy:YIf P ops S oi v a) (hS:S w)
 (h:AnyT F n P md ops Q S L fuel (listed.setIfInBounds i true) (a.put (some t) v) w):AnyT F n P md ops Q S L (fuel + 1) listed a w:=
 AnyT_first hF hnd hi (Region.noSelect_spec hs) (by rw [hd];exact hQ) hiL (waits_spec hw) fuel listed a w (Region.free_spec hi hf) (by simpa using hr) hy hS (by rw [hd];exact h)
theorem AnyT_one {i:Nat} {o:Oper} {fuel:Nat} {listed:Array Bool} {a:Act} {w:World} (hr:Region.ready md ops listed = [i]) (ho:ops[i]? = some o) (hw:Region.wanted o (yielded ops a.tmps) = true) (hiL:i ≠ L)
 (h:∀ K:Act→World→Prop,(∀ a w,S w∧AnyT F n P md ops Q S L fuel (listed.setIfInBounds i true) a w→K a w)→Oper.wpIn F n P o a w K Q):AnyT F n P md ops Q S L (fuel + 1) listed a w:=
 ⟨fun h0=>(by rw [hr] at h0;cases h0),hr ▸ fun j hj=>by
   obtain rfl:j = i:=by simpa using hj
   unfold wpOpIn
   rw [ho]
   simp only [hw,if_true,if_neg hiL]
   exact h _ fun _ _ h=>h⟩
theorem AnyT_last {o:Oper} {fuel:Nat} {listed:Array Bool} {a:Act} {w:World} (hr:Region.ready md ops listed = [L]) (ho:ops[L]? = some o) (hw:Region.wanted o (yielded ops a.tmps) = true) (hend:Region.ready md ops (listed.setIfInBounds L true) = [])
 (h:∀ K:Act→World→Prop,(∀ a w,Q .normal a w→K a w)→Oper.wpIn F n P o a w K Q):AnyT F n P md ops Q S L (fuel + 1) listed a w:=
 ⟨fun h0=>(by rw [hr] at h0;cases h0),hr ▸ fun j hj=>by
   obtain rfl:j = L:=by simpa using hj
   unfold wpOpIn
   rw [ho]
   simp only [hw,if_true]
   exact h _ fun a w hq=>any_of_held (S:=fun _=>True) _ _ _ _ (AnyH_done hend hq)⟩
theorem wpIn_value {o:Oper} {a:Act} {w w':World} {v:Value} {K:Act→World→Prop} (hF:∀ f,F.fn f) (hnd:notDefer o = true) (h:(execOp a.eval o).run P w = .ok (.value v) w') (hk:K (a.put o.dst v) w'):Oper.wpIn F n P o a w K Q:=by
 simp only [Oper.wpIn,semAt_of hnd,h,Oper.uponIn]
 exact ⟨fun f _=>hF f,hk⟩
theorem exec_append {o:Oper} {a:Act} {w w':World} {s x:Operand} {t:TypeId} {v1 v2 r:Value} (ho:o.op = .call { callee := .builtin .append,args:=#[s,x],argTypes:=#[t,t] }) (hs:a.eval s = v1) (hx:a.eval x = v2)
 (hr:(Builtin.append_ #[t,t] o.type #[v1,v2]).run P w = .ok r w'):(execOp a.eval o).run P w = .ok (.value r) w':=by
 unfold execOp
 simp only [ho,resolve,invoke,builtin,Sem.run_bind,Sem.run_pure,Result.andThen_ok,List.map_toArray,List.map_cons,List.map_nil,hs,hx,hr]
theorem region_T {id:Nat} {a:Act} {w:World} (S:World→Prop) (L:Nat) (hm:P.follows .mixedOrders = true)
 (h:AnyT F n P .any ops Q S L ops.size (Array.replicate ops.size false) a w.drew):(Code.region id ops true).wpIn F n P Q a w:=
 wpIn_region_any hm (any_of_T _ _ _ _ h)
end
end Go.Proofs.LF
namespace Go.Proofs.LF
open Go.RowKit
set_option maxHeartbeats 1000000
set_option maxRecDepth 100000
attribute [local go_sem] bs_toList
theorem bs_get (s:List UInt8) (k:Nat) (h:k < s.length):(bs s)[k]'(by rw [bs_size];exact h) = s[k]:=by
 show (bs s).data[k]'_ = _
 simp [bs]
theorem named_any (s:List UInt8) (w:World) (hlen:s.length ≤ 1000000) :
 Calls Tryz.prog 154 #[.string (bs s)] w fun e w'=>e = .returned (.bool (!badNm s))∧Below w.heap.size w w':=by
 go_enter Tryz.func154,Tryz.ntmps154
 go_wp2_with fail
 go_loopw [4] (fun _ wr=>∃ k:Nat,k ≤ s.length∧wr = w.iter (bs s) k∧Hid (∀ j (h:j < s.length),j < k→¬ ((s[j].toNat:Int) < 97 ∨ 122 < (s[j].toNat:Int)))) (fun _ wr=>s.length - wr.iterPos w.heap.size)
 case atStart=>exact ⟨0,by omega,rfl,fun j _ h=>by omega⟩
 case round=>
  obtain ⟨k,hk,rfl,H2⟩:=hrel
  have hb1:Below w.heap.size w (w.iter (bs s) k):=(Below.refl _ _).alloc (nl_ _) _
  by_cases hlt:k < s.length
  · have hg:=bs_get s k hlt
    by_cases hok:(s[k].toNat:Int) < 97 ∨ 122 < (s[k].toNat:Int)
    · have hbad:badNm s = true:=by
       simp only [badNm,Bool.or_eq_true,List.any_eq_true]
       exact .inl (.inl ⟨s[k]'hlt,List.getElem_mem hlt,by simpa using hok⟩)
      have HB:=hid hbad
      clear hbad
      have hsz:k < (bs s).size:=by rw [bs_size];exact hlt
      by_cases ha:s[k].toNat < 128
      · have hn:=fun ty=>run_next_ascii (P:=Tryz.prog) w (bs s) k ty hsz (by rw [hg];exact ha)
        rw [hg] at hn
        clear hg
        by_cases h97:(s[k].toNat:Int) < 97
        · clear hok
          go_wp2_with fail
          go_ret
          exact ⟨ret_bool (by rw [HB.out];rfl),(Below.refl _ _).alloc (nl_ _) _⟩
        · have h122:122 < (s[k].toNat:Int):=by omega
          clear hok
          go_wp2_with fail
          go_ret
          exact ⟨ret_bool (by rw [HB.out];rfl),(Below.refl _ _).alloc (nl_ _) _⟩
      · have hn:=fun ty=>run_next_any (P:=Tryz.prog) w (bs s) k ty hsz
        have hd:=(decode_high (bs s) k hsz (by rw [hg];omega)).1
        generalize (Utf8.decode (bs s) k).1 = dc at hn hd
        have hd1:(122:Int) < (dc:Int):=by omega
        have hd2:¬ (dc:Int) < 97:=by omega
        clear hg hok hd
        go_wp2_with fail
        go_ret
        exact ⟨ret_bool (by rw [HB.out];rfl),(Below.refl _ _).alloc (nl_ _) _⟩
    · have hn:=fun ty=>run_next_ascii (P:=Tryz.prog) w (bs s) k ty (by rw [bs_size];exact hlt) (by rw [hg];omega)
      rw [hg] at hn
      have h1:¬ (s[k].toNat:Int) < 97:=by omega
      have h2:¬ 122 < (s[k].toNat:Int):=by omega
      have HO:=hid hok
      clear hg hok
      go_wp2_with fail
      go_roundw
      case rel=>exact ⟨k + 1,by omega,rfl,fun j hj h=>by rcases Nat.lt_succ_iff_lt_or_eq.1 h with h' | h';exact H2.out j hj h';subst h';exact HO.out⟩
      case measure=>simp;omega
  · have hn:=fun ty=>run_next_end (P:=Tryz.prog) w (bs s) k ty (by rw [bs_size];exact hlt)
    go_wp2_with (go_at_call 151;refine (in_any _ _ _ _).mono ?_;rintro e w' ⟨rfl,rfl⟩)
    go_ret
    refine ⟨ret_bool ?_,hb1⟩
    have:s.any (fun c=>decide ((c.toNat:Int) < 97) || decide (122 < (c.toNat:Int))) = false:=by
     rw [List.any_eq_false]
     intro c hc
     obtain ⟨j,hj,rfl⟩:=List.getElem_of_mem hc
     have:=H2.out j hj (by omega)
     simpa using this
    simp only [badNm,this,inB,Bool.false_or,bs_size]
    rw [Bool.eq_iff_iff];simp
theorem every1_int (g:Nat) (hE:Enters g) (caps:List Value) (x:Value) (b:Bool) (bx:Nat) (W:World) (hbx:W.cell? ⟨bx,0,none⟩ = some (.func (.func g) #[] caps.toArray))
 (h:Calls Tryz.prog g (x :: caps).toArray W fun e w'=>e = .returned (.bool b)∧Below W.heap.size W w') :
 Calls Tryz.prog 209 #[x, .pointer (some ⟨bx,0,none⟩)] W fun e w'=>e = .returned (.bool (!b))∧Below W.heap.size W w':=by
 have hE':∀ (args:Array Value) (W:World),Sem.run Tryz.prog (callFunc g args) W = .ok (.enter g args) W:=hE
 have H:=hid h
 clear hE h
 go_enter Tryz.func209,Tryz.ntmps209
 go_wp2_with fail
 refine H.out.mono ?_
 rintro e w' ⟨rfl,hb⟩
 go_wp2_with fail
 go_ret
 exact ⟨rfl,hb⟩
theorem enters209:Enters 209:=by
 intro args W
 simp [go_sem]
theorem enters156:Enters 156:=by
 intro args W
 simp [go_sem]
def allN (p:Nat→Bool) (n:Nat):Bool:=!anyN (fun i=>!p i) n
theorem every_int (g:Nat) (hE:Enters g) (p:Nat→Bool) (caps:List Value) (n:Nat) (a:Option Addr) (c:Nat) (cs:List Value) (S:Nat→Prop) (w:World) (hl:SlC S w 1 (.slice a n c) n cs) (hS:∀ b,S b→b < w.heap.size) (hlen:n ≤ 100000)
 (hp:∀ i,i < n→PredC g caps w [elemV 1 cs i] (p i)) :
 Calls Tryz.prog 157 #[.slice a n c, .func (.func g) #[] caps.toArray] w fun e w'=>e = .returned (.bool (allN p n))∧Below w.heap.size w w':=by
 have HP:=hid hp
 clear hp
 go_enter Tryz.func157,Tryz.ntmps157
 go_wp2_with fail
 refine (cont_int 209 enters209 (fun i=>!p i) [.pointer (some ⟨w.heap.size,0,none⟩)] n a c cs S _ (SlC.agree hl (Ag_b (B:=w.heap.size) ((Below.refl _ _).alloc (nl_ _) _) hS)) ?_ hlen ?_).mono ?_
 · intro b hb;have:=hS b hb;simp;omega
 · intro i hi W hW
   refine every1_int g hE caps _ (p i) w.heap.size W (bc_ hW (by simp) (by simp)) (HP.out i hi W ?_)
   exact ((Below.refl _ _).alloc (nl_ _) _).trans (hW.mono (by simp))
 · rintro e w' ⟨rfl,hb⟩
   go_wp2_with fail
   go_ret
   exact ⟨rfl,((Below.refl _ _).alloc (nl_ _) _).trans (hb.mono (by simp))⟩
theorem numbers_any (l:List Int) (an:Option Addr) (cn:Nat) (S:Nat→Prop) (w:World) (hl:Ints S w (.slice an l.length cn) l) (hS:∀ b,S b→b < w.heap.size) (hlen:l.length ≤ 1000) :
 Calls Tryz.prog 157 #[.slice an l.length cn, .func (.func 156) #[] #[]] w fun e w'=>e = .returned (.bool (!badNs l))∧Below w.heap.size w w':=by
 refine (every_int 156 enters156 (fun i=>inB (l.getD i 0) 0 9999) [] l.length an cn _ S w hl hS (by omega) ?_).mono ?_
 · intro i hi W hW
   have:elemV 1 (l.map (Value.int .i64)) i = .int .i64 (l.getD i 0):=by simp [elemV,hi]
   rw [this]
   exact (number_any _ W).mono fun e w' ⟨he,hw⟩=>⟨he,by rw [← hw];exact Below.refl _ _⟩
 · rintro e w' ⟨rfl,hb⟩
   refine ⟨ret_bool ?_,hb⟩
   unfold allN badNs
   rw [anyN_list (fun x=>offB x 9999) _ l (fun i hi=>by simp [hi,inB,offB];rw [Bool.eq_iff_iff];simp)]
end Go.Proofs.LF
namespace Go.Proofs.LF
def ChF:List Ky→List Fl→Prop
 | _,[]=>True
 | up,x :: l=>(∃ d n,d ≤ up.length∧x.p = up.take d ++ [kyOf n x.l])∧ChF x.p l
theorem treF_chain:∀ (m:Nat) (l:List Fl) (up:List Ky) (d:Nat),l.length ≤ m→d ≤ up.length→ChF up l→(∀ x,l.head? = some x→x.p.length ≤ d + 1) →
 flsL (up.take d) (treF d l).1 = l.take (treF d l).2∧Above d (l.drop (treF d l).2)∧∃ up',d ≤ up'.length∧up'.take d = up.take d∧ChF up' (l.drop (treF d l).2)
 | _,[],up,d,_,hd,_,_=>by
   rw [treF_nil]
   exact ⟨rfl,(fun x hx=>by cases hx),up,hd,rfl,trivial⟩
 | 0,_ :: _,_,_,h,_,_,_=>by simp at h
 | m + 1,x :: l,up,d,hm,hd,⟨⟨e,n,he,hx⟩,hc⟩,hh=>by
   have hxl:x.p.length = e + 1:=by rw [hx];simp;omega
   have h1:=hh x rfl
   by_cases hde:e = d
   · subst hde
     have hhead:∀ {l:List Fl},ChF x.p l→∀ z,l.head? = some z→z.p.length ≤ e + 1 + 1:=fun {l} hl z hz=>by
      cases l with
      | nil=>cases hz
      | cons y l=>
        obtain ⟨⟨d',n',hd',hy⟩,_⟩:=hl
        obtain rfl:y = z:=by simpa using hz
        rw [hy];simp;omega
     obtain ⟨f1,a1,up1,u1,u2,c1⟩:=treF_chain m l x.p (e + 1) (by simpa using hm) (by omega) hc (hhead hc)
     obtain ⟨f2,a2,up2,v1,v2,c2⟩:=treF_chain m (l.drop (treF (e + 1) l).2) up1 e (by rw [List.length_drop];simp at hm;omega) (by omega) c1 a1
     have hxt:x.p.take (e + 1) = x.p:=List.take_of_length_le (by omega)
     have hue:up1.take e = up.take e:=by
      have h:=congrArg (List.take e) u2
      rw [List.take_take,Nat.min_eq_left (by omega),hxt] at h
      rw [h,hx,List.take_append_of_le_length (by simp;omega),List.take_take,Nat.min_self]
     have hget:x.p[e]'(by omega) = kyOf n x.l:=by
      have hle:(up.take e).length = e:=by simp;omega
      have:x.p[e]? = some (kyOf n x.l):=by rw [hx,List.getElem?_append_right (by omega)];simp [hle]
      exact (List.getElem?_eq_some_iff.1 this).2
     have hcat:up.take e ++ [kyOf n x.l] = x.p:=hx.symm
     rw [treF_yes hxl]
     simp only
     rw [hxt] at f1
     rw [hue] at f2 v2
     refine ⟨?_,?_,up2,v1,v2,?_⟩
     · rw [flsL_cons,hget,kyOf_n,hcat,f1,f2,show 1 + (treF (e + 1) l).2 + (treF e (l.drop (treF (e + 1) l).2)).2 = ((treF (e + 1) l).2 + (treF e (l.drop (treF (e + 1) l).2)).2) + 1 by omega,List.take_succ_cons,List.take_add]
     · rw [show 1 + (treF (e + 1) l).2 + (treF e (l.drop (treF (e + 1) l).2)).2 = ((treF (e + 1) l).2 + (treF e (l.drop (treF (e + 1) l).2)).2) + 1 by omega,List.drop_succ_cons,← List.drop_drop]
       exact a2
     · rw [show 1 + (treF (e + 1) l).2 + (treF e (l.drop (treF (e + 1) l).2)).2 = ((treF (e + 1) l).2 + (treF e (l.drop (treF (e + 1) l).2)).2) + 1 by omega,List.drop_succ_cons,← List.drop_drop]
       exact c2
   · rw [treF_no (by omega)]
     refine ⟨rfl,(fun z hz=>?_),up,hd,rfl,⟨e,n,he,hx⟩,hc⟩
     obtain rfl:x = z:=by simpa using hz
     omega
theorem fls_chain {l:List Fl} (h:ChF [] l):flsL [] (treF 0 l).1 = l:=by
 obtain ⟨h1,h2,up',_,_,h3⟩:=treF_chain l.length l [] 0 (nl_ _) (Nat.zero_le _) h (fun x hx=>by
  cases l with
  | nil=>cases hx
  | cons y l=>
    obtain ⟨⟨d',n',hd',hy⟩,_⟩:=h
    obtain rfl:y = x:=by simpa using hx
    rw [hy];simp at hd' ⊢)
 have h4:l.drop (treF 0 l).2 = []:=by
  cases hq:l.drop (treF 0 l).2 with
  | nil=>rfl
  | cons y r=>
    rw [hq] at h2 h3
    obtain ⟨⟨d',n',hd',hy⟩,_⟩:=h3
    have:=h2 y rfl
    rw [hy] at this
    simp at this
 have h5:=List.take_append_drop (treF 0 l).2 l
 rw [h4,List.append_nil] at h5
 rw [List.take_nil] at h1
 rw [h1,h5]
def Srt (l:List Fl):Prop:=l.Pairwise (fun a b=>cmpP a.p b.p < 0)
def Clo (l:List Fl):Prop:=∀ x ∈ l,x.p.dropLast ≠ []→∃ z ∈ l,z.p = x.p.dropLast
def KOk (l:List Fl):Prop:=∀ x ∈ l,∃ u n,x.p = u ++ [kyOf n x.l]
theorem cmpP_pre:∀ (u t:List Ky),t ≠ []→cmpP u (u ++ t) < 0
 | [],t,h=>by cases t with | nil=>exact absurd rfl h | cons _ _=>simp [cmpP]
 | a :: u,t,h=>by simp only [List.cons_append,cmpP,byK_ord.refl,ne_eq,not_true,if_false];exact cmpP_pre u t h
theorem cmpP_same (x y:List Ky):∀ (u:List Ky),cmpP (u ++ x) (u ++ y) = cmpP x y
 | []=>rfl
 | a :: u=>by simp only [List.cons_append,cmpP,byK_ord.refl,ne_eq,not_true,if_false];exact cmpP_same x y u
theorem pre_between:∀ {u a r:List Ky},cmpP u a ≤ 0→cmpP a (u ++ r) ≤ 0→∃ t,a = u ++ t
 | [],a,_,_,_=>⟨a,rfl⟩
 | c :: u,[],r,h,_=>by simp [cmpP] at h
 | c :: u,b :: a,r,h,k=>by
   simp only [List.cons_append,cmpP] at h k
   by_cases hcb:byK c b = 0
   · obtain rfl:=byK_ord.eq hcb
     simp only [hcb,ne_eq,not_true,if_false] at h k
     obtain ⟨t,rfl⟩:=pre_between h k
     exact ⟨t,rfl⟩
   · simp only [ne_eq,hcb,not_false_eq_true,if_true] at h
     have h1:byK c b < 0:=by omega
     have h2:=byK_ord.flip h1
     have h3:byK b c ≠ 0:=by omega
     simp only [ne_eq,h3,not_false_eq_true,if_true] at k
     omega
theorem chain_of {l:List Fl} (h1:Srt l) (h2:Clo l) (h3:KOk l):ChF [] l:=by
 have key:∀ (B A:List Fl),l = A ++ B→ChF ((A.getLast?.map Fl.p).getD []) B:=by
  intro B
  induction B with
  | nil=>intro A _;trivial
  | cons x B ih=>
    intro A hl
    have hx:x ∈ l:=by rw [hl];simp
    refine ⟨?_,?_⟩
    · obtain ⟨u,n,hu⟩:=h3 x hx
      by_cases h0:u = []
      · exact ⟨0,n,Nat.zero_le _,by rw [hu,h0];rfl⟩
      · obtain ⟨z,hz,hzp⟩:=h2 x hx (by rw [hu];simpa using h0)
        rw [hu,List.dropLast_concat] at hzp
        have hzx:cmpP z.p x.p < 0:=by rw [hzp,hu];exact cmpP_pre _ _ (by simp)
        unfold Srt at h1
        rw [hl] at h1 hz
        rw [List.pairwise_append] at h1
        obtain ⟨p1,p2,p3⟩:=h1
        have hzA:z ∈ A:=by
         rcases List.mem_append.1 hz with h | h
         · exact h
         · rcases List.mem_cons.1 h with rfl | h
           · rw [cmpP_ord.refl] at hzx;omega
           · have:=(List.pairwise_cons.1 p2).1 z h
             have:=cmpP_ord.flip this
             omega
        obtain ⟨A',a,rfl⟩:∃ A' a,A = A' ++ [a]:=⟨A.dropLast,A.getLast (by intro e;rw [e] at hzA;cases hzA),by rw [List.dropLast_concat_getLast]⟩
        have hza:cmpP u a.p ≤ 0:=by
         rcases List.mem_append.1 hzA with h | h
         · have:=(List.pairwise_append.1 p1).2.2 z h a (by simp)
           rw [hzp] at this;omega
         · obtain rfl:z = a:=by simpa using h
           rw [hzp,cmpP_ord.refl];exact Int.le_refl _
        have hax:cmpP a.p (u ++ [kyOf n x.l]) ≤ 0:=by
         have:=p3 a (by simp) x (by simp)
         rw [hu] at this;omega
        obtain ⟨t,ht⟩:=pre_between hza hax
        refine ⟨u.length,n,?_,?_⟩
        · simp [ht]
        · simp [ht,hu]
    · have:=ih (A ++ [x]) (by rw [hl];simp)
      simpa using this
 exact key l [] rfl
theorem fls_of {l:List Fl} (h1:Srt l) (h2:Clo l) (h3:KOk l):flsL [] (treF 0 l).1 = l:=fls_chain (chain_of h1 h2 h3)
theorem flsL_pre:∀ (y:Fo) (u:List Ky),∀ x ∈ flsL u y,∃ k t,x.p = u ++ k :: t
 | .nil,u,x,h=>by simp [flsL_nil] at h
 | .cons n l s r,u,x,h=>by
   rw [flsL_cons] at h
   rcases List.mem_cons.1 h with rfl | h
   · exact ⟨_,[],rfl⟩
   · rcases List.mem_append.1 h with h | h
     · obtain ⟨k,t,hp⟩:=flsL_pre s _ x h
       exact ⟨kyOf n l,k :: t,by rw [hp];simp⟩
     · exact flsL_pre r u x h
end Go.Proofs.LF
namespace Go.Proofs.LF
open Go.RowKit
theorem Fo.take_drop:∀ (i:Nat) (y:Fo),(y.take i).app (y.drop i) = y
 | 0,_=>rfl
 | _ + 1, .nil=>rfl
 | i + 1, .cons n l s r=>by simp [Fo.take,Fo.drop,Fo.app,Fo.take_drop i r]
theorem Fo.len_drop:∀ (i:Nat) (y:Fo),(y.drop i).len = y.len - i
 | 0,_=>rfl
 | _ + 1, .nil=>by simp [Fo.drop,Fo.len]
 | i + 1, .cons n l s r=>by simp only [Fo.drop,Fo.len,Fo.len_drop i r];omega
theorem Fo.drop_one:∀ (i:Nat) (y:Fo),(y.drop i).drop 1 = y.drop (i + 1)
 | 0,_=>rfl
 | _ + 1, .nil=>rfl
 | i + 1, .cons _ _ _ r=>Fo.drop_one i r
def Fo.setN (y:Fo) (i:Nat) (n:List UInt8) (l:List Int) (s:Fo):Fo:=(y.take i).app (.cons n l s (y.drop (i + 1)))
def Fo.insN (y:Fo) (i:Nat) (n:List UInt8) (l:List Int) (s:Fo):Fo:=(y.take i).app (.cons n l s (y.drop i))
theorem Fo.len_setN {i:Nat} {n:List UInt8} {l:List Int} {s y:Fo} (h:i < y.len):(y.setN i n l s).len = y.len:=by
 simp only [Fo.setN,Fo.len_app,Fo.len_take (Nat.le_of_lt h),Fo.len,Fo.len_drop];omega
theorem Fo.len_insN {i:Nat} {n:List UInt8} {l:List Int} {s y:Fo} (h:i ≤ y.len):(y.insN i n l s).len = y.len + 1:=by
 simp only [Fo.insN,Fo.len_app,Fo.len_take h,Fo.len,Fo.len_drop];omega
theorem FOCs.length {E:TypeId} {S:Nat→Prop} {w:World} {y:Fo} {cs:List Value} (h:FOCs E S w y cs):cs.length = y.len * 3:=h.fcs.length
theorem FOCs.split {E:TypeId} {w:World}:∀ {i:Nat} {y:Fo} {S:Nat→Prop} {cs:List Value},FOCs E S w y cs→∃ Sa Sb:Nat→Prop,(∀ b,Sa b→S b)∧(∀ b,Sb b→S b)∧(∀ b,Sa b→¬ Sb b) ∧
 FOCs E Sa w (y.take i) (cs.take (i * 3))∧FOCs E Sb w (y.drop i) (cs.drop (i * 3))
 | 0,y,S,cs,h=>⟨fun _=>False,S,fun _ h=>h.elim,fun _ h=>h,fun _ h=>h.elim,by simp [Fo.take,FOCs],by simpa [Fo.drop] using h⟩
 | i + 1, .nil,S,cs,h=>⟨fun _=>False,S,fun _ h=>h.elim,fun _ h=>h,fun _ h=>h.elim,by rw [show cs = [] from h];simp [Fo.take,FOCs],by rw [show cs = [] from h];simp [Fo.drop,FOCs]⟩
 | i + 1, .cons n l s r,S,cs,⟨vn,vs,cs',S1,S2,S3,h1,hs,d1,d2,d3,h2,h3,h6⟩=>by
   obtain ⟨Sa,Sb,ha,hb,hd,hfa,hfb⟩:=h6.split (i:=i)
   refine ⟨fun b=>S1 b ∨ S2 b ∨ Sa b,Sb,fun b hb=>?_,fun b h=>hs b (.inr (.inr (hb b h))),fun b h h'=>?_,?_,?_⟩
   · rcases hb with h | h | h
     · exact hs b (.inl h)
     · exact hs b (.inr (.inl h))
     · exact hs b (.inr (.inr (ha b h)))
   · rcases h with h | h | h
     · exact d2 b h (hb b h')
     · exact d3 b h (hb b h')
     · exact hd b h h'
   · rw [h1,show (i + 1) * 3 = i * 3 + 1 + 1 + 1 from by omega]
     exact ⟨vn,vs,_,S1,S2,Sa,rfl,fun _ h=>h,d1,fun b h h'=>d2 b h (ha b h'),fun b h h'=>d3 b h (ha b h'),h2,h3,hfa⟩
   · rw [h1,show (i + 1) * 3 = i * 3 + 1 + 1 + 1 from by omega]
     exact hfb
theorem FOCs.cons {E:TypeId} {Sn S:Nat→Prop} {w:World} {n:List UInt8} {l:List Int} {s r:Fo} {cs ds:List Value} (h:FOCs E Sn w (.cons n l s .nil) cs) (h':FOCs E S w r ds) (hd:∀ b,Sn b→¬ S b):FOCs E (fun b=>Sn b ∨ S b) w (.cons n l s r) (cs ++ ds):=FOCs.app h h' hd
theorem FOCs.ins {E:TypeId} {S Sn:Nat→Prop} {w:World} {y s:Fo} {i:Nat} {n:List UInt8} {l:List Int} {cs ds:List Value} (h:FOCs E S w y cs) (hn:FOCs E Sn w (.cons n l s .nil) ds) (hd:∀ b,S b→¬ Sn b) :
 FOCs E (fun b=>S b ∨ Sn b) w (y.insN i n l s) (cs.take (i * 3) ++ (ds ++ cs.drop (i * 3))):=by
 obtain ⟨Sa,Sb,ha,hb,hab,hfa,hfb⟩:=h.split (i:=i)
 refine (FOCs.app hfa (FOCs.cons hn hfb (fun b h1 h2=>hd b (hb b h2) h1)) (fun b h1 h2=>h2.elim (fun h2=>hd b (ha b h1) h2) (hab b h1))).wide ?_
 rintro b (h | h | h)
 · exact .inl (ha b h)
 · exact .inr h
 · exact .inl (hb b h)
theorem FOCs.set {E:TypeId} {S Sn:Nat→Prop} {w:World} {y s:Fo} {i:Nat} {n:List UInt8} {l:List Int} {cs ds:List Value} (h:FOCs E S w y cs) (hn:FOCs E Sn w (.cons n l s .nil) ds) (hd:∀ b,S b→¬ Sn b) :
 FOCs E (fun b=>S b ∨ Sn b) w (y.setN i n l s) (cs.take (i * 3) ++ (ds ++ cs.drop ((i + 1) * 3))):=by
 obtain ⟨Sa,Sb,ha,hb,hab,hfa,hfb⟩:=h.split (i:=i)
 have e1:(cs.drop (i * 3)).drop (1 * 3) = cs.drop ((i + 1) * 3):=by rw [List.drop_drop];congr 1;omega
 have e2:(y.drop i).drop 1 = y.drop (i + 1):=Fo.drop_one i y
 obtain ⟨Sc,Sd,hc,hd',hcd,_,hfd⟩:=hfb.split (i:=1)
 rw [e1,e2] at hfd
 refine (FOCs.app hfa (FOCs.cons hn hfd (fun b h1 h2=>hd b (hb b (hd' b h2)) h1)) (fun b h1 h2=>h2.elim (fun h2=>hd b (ha b h1) h2) (fun h2=>hab b h1 (hd' b h2)))).wide ?_
 rintro b (h | h | h)
 · exact .inl (ha b h)
 · exact .inr h
 · exact .inl (hb b (hd' b h))
theorem FOCs.hole {E:TypeId} {w:World}:∀ {i:Nat} {y s r:Fo} {n:List UInt8} {l:List Int} {S:Nat→Prop} {cs:List Value},FOCs E S w y cs→y.drop i = .cons n l s r→∃ (vn vs:Value) (T:Nat→Prop),cs[i * 3]? = some (.string (bs n))∧cs[i * 3 + 1]? = some vn∧cs[i * 3 + 2]? = some vs∧(∀ b,T b→S b)∧Ints (fun b=>S b∧¬ T b) w vn l∧FOw E T w vs s ∧
 ∀ (w':World) (vs':Value) (s':Fo) (T':Nat→Prop),Agree (fun b=>S b∧¬ T b) w w'→FOw E T' w' vs' s'→(∀ b,T' b→S b→T b)→FOCs E (fun b=>S b ∨ T' b) w' (y.setN i n l s') (cs.set (i * 3 + 2) vs')
 | 0, .cons n l s r,s0,r0,n0,l0,S,cs,⟨vn,vs,cs',S1,S2,S3,h1,hs,d1,d2,d3,h2,h3,h6⟩,hd=>by
   simp only [Fo.drop,Fo.cons.injEq] at hd
   obtain ⟨rfl,rfl,rfl,rfl⟩:=hd
   refine ⟨vn,vs,S2,by rw [h1];rfl,by rw [h1];rfl,by rw [h1];rfl,fun b h=>hs b (.inr (.inl h)),Ints.wide h2 (fun b h=>⟨hs b (.inl h.1),d1 b h.1⟩),h3,fun w' vs' s' T' ha hF hT=>?_⟩
   rw [h1]
   refine ⟨vn,vs',cs',S1,T',S3,rfl,fun b h=>?_,fun b h h'=>d1 b h (hT b h' (hs b (.inl h))),d2,fun b h h'=>d3 b (hT b h (hs b (.inr (.inr h')))) h',h2.agree (fun b h=>ha b ⟨hs b (.inl h),d1 b h⟩),hF,?_⟩
   · rcases h with h | h | h
     · exact .inl (hs b (.inl h))
     · exact .inr h
     · exact .inl (hs b (.inr (.inr h)))
   · exact h6.agree (fun b h=>ha b ⟨hs b (.inr (.inr h)),fun h'=>d3 b h' h⟩)
 | i + 1, .cons n l s r,s0,r0,n0,l0,S,cs,⟨vn,vs,cs',S1,S2,S3,h1,hs,d1,d2,d3,h2,h3,h6⟩,hd=>by
   obtain ⟨vn',vs',T,g0,g1,g2,hT,hI,hF,hk⟩:=h6.hole (i:=i) hd
   refine ⟨vn',vs',T,?_,?_,?_,fun b h=>hs b (.inr (.inr (hT b h))),hI.wide (fun b h=>⟨hs b (.inr (.inr h.1)),h.2⟩),hF,fun w' vs'' s' T' ha hF' hT'=>?_⟩
   · rw [h1,show (i + 1) * 3 = i * 3 + 1 + 1 + 1 from by omega];exact g0
   · rw [h1,show (i + 1) * 3 + 1 = i * 3 + 1 + 1 + 1 + 1 from by omega];exact g1
   · rw [h1,show (i + 1) * 3 + 2 = i * 3 + 2 + 1 + 1 + 1 from by omega];exact g2
   · have hnT:∀ b,T' b→¬ S1 b∧¬ S2 b:=fun b h=>⟨fun h'=>d2 b h' (hT b (hT' b h (hs b (.inl h')))),fun h'=>d3 b h' (hT b (hT' b h (hs b (.inr (.inl h')))))⟩
     have hk':=hk w' vs'' s' T' (fun b h=>ha b ⟨hs b (.inr (.inr h.1)),h.2⟩) hF' (fun b h h'=>hT' b h (hs b (.inr (.inr h'))))
     rw [h1,show (i + 1) * 3 + 2 = i * 3 + 2 + 1 + 1 + 1 from by omega]
     refine ⟨vn,vs,_,S1,S2,fun b=>S3 b ∨ T' b,rfl,fun b h=>?_,d1,fun b h h'=>h'.elim (d2 b h) (fun h'=>(hnT b h').1 h),fun b h h'=>h'.elim (d3 b h) (fun h'=>(hnT b h').2 h),h2.agree (fun b h=>ha b ⟨hs b (.inl h),fun h'=>d2 b h (hT b h')⟩),?_,hk'⟩
     · rcases h with h | h | h | h
       · exact .inl (hs b (.inl h))
       · exact .inl (hs b (.inr (.inl h)))
       · exact .inl (hs b (.inr (.inr h)))
       · exact .inr h
     · exact FOw.agree (S:=S2) h3 (fun b h=>ha b ⟨hs b (.inr (.inl h)),fun h'=>d3 b h (hT b h')⟩)
end Go.Proofs.LF
namespace Go.Proofs.LF
open Go.RowKit
theorem owns_slc_u {w:World} {base e k n:Nat} {v:Value} {xs:List Value} {S:Nat→Prop} (h:w.ownsRow base e k v n xs) (hS:∀ g,v.ownBlock = some g→S g):SlC (US S w) w k v n xs:=by
 obtain ⟨h1,h2⟩:=h
 refine ⟨h1,?_⟩
 rcases h2 with ⟨rfl,rfl⟩ | ⟨g,cap,cur,rfl,hb,hg,hn,hc,hs,ht⟩
 · exact ⟨none,0,rfl,by omega,by simp [maxLen],fun _=>rfl, .inl rfl⟩
 · refine ⟨_,cap,rfl,hn,hc,(fun h=>by cases h), .inr ⟨g,0,rfl,⟨hS g rfl,_,_,hg⟩,fun j u hj=>?_⟩⟩
   simp only [World.cell?,hg,Nat.zero_add]
   rw [← ht,List.getElem?_take] at hj
   split at hj
   · simpa using hj
   · cases hj
theorem FOCs.fcsu {E:TypeId} {w:World}:∀ {y:Fo} {S:Nat→Prop} {cs:List Value},FOCs E S w y cs→FCsU S w y cs
 | .nil,_,_,h=>h
 | .cons n l s r,S,cs,⟨vn,vs,cs',S1,S2,S3,h1,hs,_,_,_,h2,⟨ds,h3,h4,h5⟩,h6⟩=>
   ⟨vn,vs,cs',h1,IntU.wide h2 (fun b hb=>hs b (.inl hb)),⟨ds,owns_slc_u h3 (fun g hg=>hs g (.inr (.inl (h4 g hg)))),FCsU.wide h5.fcsu (fun b hb=>hs b (.inr (.inl hb.1)))⟩,FCsU.wide h6.fcsu (fun b hb=>hs b (.inr (.inr hb)))⟩
theorem FOw.fslu {E:TypeId} {S:Nat→Prop} {w:World} {v:Value} {y:Fo} (h:FOw E S w v y):FSlU S w v y:=
 let ⟨ds,h1,h2,h3⟩:=h;⟨ds,owns_slc_u h1 h2,FCsU.wide h3.fcsu (fun b hb=>hb.1)⟩
end Go.Proofs.LF
namespace Go.Proofs.LF
open Go.RowKit
section
variable {F:Fence} {n:Nat} {P:Program} {ops:Array Oper} {Q:Exit→Act→World→Prop} {md:Region.Mode} {S:Array Bool→World→Prop}
def LstC (md:Region.Mode) (ops:Array Oper) (listed:Array Bool):Prop:=∀ j o,ops[j]? = some o→listed.getD j false = true→∀ e ∈ o.after,Region.binds md e = true→listed.getD e.on false = true
def lstB (md:Region.Mode) (ops:Array Oper) (listed:Array Bool):Bool:=(List.range ops.size).all fun j=>!listed.getD j false || match ops[j]? with | some o=>o.after.all (fun e=>!Region.binds md e || listed.getD e.on false) | none=>true
theorem lstB_spec {listed:Array Bool} (h:lstB md ops listed = true):LstC md ops listed:=fun j o ho hl e he hb=>by
 unfold lstB at h
 rw [List.all_eq_true] at h
 have hj:j < ops.size:=(Array.getElem?_eq_some_iff.1 ho).1
 have h1:=h j (List.mem_range.2 hj)
 rw [hl,ho] at h1
 simp only [Bool.not_true,Bool.false_or,Array.all_eq_true] at h1
 obtain ⟨k,hk,rfl⟩:=Array.getElem_of_mem he
 have h2:=h1 k hk
 rw [hb] at h2
 simpa using h2
theorem LstC.set {listed:Array Bool} (h:LstC md ops listed) {i:Nat} (hi:i ∈ Region.ready md ops listed):LstC md ops (listed.setIfInBounds i true):=fun j o ho hl e he hb=>by
 obtain ⟨_,o',ho',hall⟩:=mem_ready.1 hi
 by_cases hji:i = j
 · subst hji
   rw [ho] at ho'
   cases ho'
   exact getD_set_true (hall e he hb)
 · rw [getD_set_ne false hji] at hl
   exact getD_set_true (h j o ho hl e he hb)
theorem waits_at {i k:Nat} {o:Oper} (hk:ops[k]? = some o) (h:waits md ops k i = true):∃ e ∈ o.after,Region.binds md e = true∧e.on = i:=by
 unfold waits at h
 rw [hk] at h
 simp only [Array.any_eq_true,Bool.and_eq_true,beq_iff_eq] at h
 obtain ⟨m,hm,hb,he⟩:=h
 exact ⟨_,Array.getElem_mem hm,hb,he⟩
def Unl (listed:Array Bool) (i:Nat):Prop:=listed.getD i false = false
theorem ready_un {listed:Array Bool} {i:Nat} (hr:i ∈ Region.ready md ops listed):Unl listed i:=by
 have h0:=(mem_ready.1 hr).1
 unfold Unl
 rcases Nat.lt_or_ge i listed.size with h' | h'
 · simp [h'] at h0 ⊢;exact h0
 · simp [Array.getElem?_eq_none h']
theorem un_next {listed:Array Bool} (hc:LstC md ops listed) {i k:Nat} {ok:Oper} (hk:ops[k]? = some ok) (h:waits md ops k i = true) (hu:Unl listed i):Unl listed k:=by
 unfold Unl at *
 cases hl:listed.getD k false with
 | false=>rfl
 | true=>
   obtain ⟨e,he,hb,rfl⟩:=waits_at hk h
   have:=hc _ _ hk hl e he hb
   rw [hu] at this
   cases this
theorem un_set {listed:Array Bool} {i k:Nat} (h:i ≠ k):Unl (listed.setIfInBounds i true) k ↔ Unl listed k:=by unfold Unl;rw [getD_set_ne false h]
def AnyG (F:Fence) (n:Nat) (P:Program) (md:Region.Mode) (ops:Array Oper) (Q:Exit→Act→World→Prop) (S:Array Bool→World→Prop):Nat→Array Bool→Act→World→Prop
 | 0,listed,a,w=>Region.ready md ops listed = []∧Q .normal a w
 | fuel + 1,listed,a,w=>
   (Region.ready md ops listed = []→Q .normal a w) ∧
   ∀ i ∈ Region.ready md ops listed,wpOpIn F n P ops Q i (fun a' w'=>S (listed.setIfInBounds i true) w'∧AnyG F n P md ops Q S fuel (listed.setIfInBounds i true) a' w') a w
theorem any_of_G:∀ (fuel:Nat) (listed:Array Bool) (a:Act) (w:World),AnyG F n P md ops Q S fuel listed a w→wpAnyIn F n P md ops Q fuel listed a w
 | 0,_,_,_,h=>h
 | fuel + 1,_,_,_,h=>⟨h.1,fun i hi=>wpOpIn_mono (fun a' w' h'=>any_of_G fuel _ a' w' h'.2) (h.2 i hi)⟩
def AtSome (md:Region.Mode) (ops:Array Oper) (S:Array Bool→World→Prop) (i:Nat) (w:World):Prop:=∃ listed,LstC md ops listed∧i ∈ Region.ready md ops listed∧S listed w
theorem AnyG_first (hF:∀ f,F.fn f) (hnd:ops.all notDefer = true) {i:Nat} {oi:Oper} {v:Value} (hi:ops[i]? = some oi) (hsel:∀ (j:Nat) (o:Oper) cs b,ops[j]? = some o→o.op ≠ .select cs b)
 (hQ:∀ c a w,Q (.panic c) (a.put oi.dst v) w→Q (.panic c) a w) (hins:∀ listed w,S (listed.setIfInBounds i true) w ↔ S listed w) :
 ∀ (fuel:Nat) (listed:Array Bool) (a:Act) (w:World),LstC md ops listed →
  (∀ j oj,ops[j]? = some oj→j ≠ i→listed.getD j true = false→(∀ e ∈ oj.after,Region.binds md e = true→e.on ≠ i)→oi.apart ops oj = true) →
  i ∈ Region.ready md ops listed→YIf P ops (AtSome md ops S i) oi v a→S listed w →
  AnyG F n P md ops Q S fuel (listed.setIfInBounds i true) (a.put oi.dst v) w→AnyG F n P md ops Q S (fuel + 1) listed a w:=by
 have hno:∀ j o,ops[j]? = some o→notDefer o = true:=fun j o h=>by
  rw [Array.all_eq_true] at hnd
  obtain ⟨hj,rfl⟩:=Array.getElem?_eq_some_iff.1 h
  exact hnd j hj
 intro fuel
 induction fuel with
 | zero=>
   intro listed a w hcl _ hr hy hS H
   refine ⟨fun h=>(by rw [h] at hr;cases hr),fun j hj=>?_⟩
   by_cases hji:j = i
   · subst hji;exact hy.wpOp hF hi (hno _ _ hi) ⟨listed,hcl,hr,hS⟩ ⟨(hins _ _).2 hS,H⟩
   · have:=ready_mono hj hji
     rw [H.1] at this
     cases this
 | succ fuel ih=>
   intro listed a w hcl hfree hr hy hS H
   refine ⟨fun h=>(by rw [h] at hr;cases hr),fun j hj=>?_⟩
   by_cases hji:j = i
   · subst hji;exact hy.wpOp hF hi (hno _ _ hi) ⟨listed,hcl,hr,hS⟩ ⟨(hins _ _).2 hS,H⟩
   · have h1:=H.2 j (ready_mono hj hji)
     obtain ⟨hjun,oj,hoj,hall⟩:=mem_ready.1 hj
     have hnot:∀ e ∈ oj.after,Region.binds md e = true→e.on ≠ i:=fun e he hb heq=>by
      have h1:=hall e he hb
      have h0:=(mem_ready.1 hr).1
      rw [heq] at h1
      rcases Nat.lt_or_ge i listed.size with h' | h'
      · simp [h'] at h0 h1;rw [h0] at h1;cases h1
      · simp [Array.getElem?_eq_none h'] at h1
     have h2:=wpOpIn_putIf hoj (hno _ _ hoj) (hfree j oj hoj hji hjun hnot) (fun cs b=>hsel i oi cs b hi) (fun cs b=>hsel j oj cs b hoj) hQ hy h1
     have hfree':∀ k ok,ops[k]? = some ok→k ≠ i→(listed.setIfInBounds j true).getD k true = false →
      (∀ e ∈ ok.after,Region.binds md e = true→e.on ≠ i)→oi.apart ops ok = true:=fun k ok hk hki hun hno=>by
      refine hfree k ok hk hki ?_ hno
      by_cases hjk:j = k
      · subst hjk;exact hjun
      · rw [getD_set_ne true hjk] at hun;exact hun
     refine wpOpIn_mono (fun a' w' h3=>?_) h2
     rw [Array.setIfInBounds_comm _ _ (Ne.symm hji)] at h3
     have hs':=(hins _ _).1 h3.2.1
     exact ⟨hs',ih (listed.setIfInBounds j true) a' w' (hcl.set hj) hfree' (ready_mono hr (Ne.symm hji)) h3.1 hs' h3.2.2⟩
theorem AnyG_takeD (hF:∀ f,F.fn f) (hnd:ops.all notDefer = true) (i t:Nat) (v:Value) {oi:Oper} {fuel:Nat} {listed:Array Bool} {a:Act} {w:World} (hi:ops[i]? = some oi) (hd:oi.dst = some t)
 (hs:Region.noSelect ops = true) (hf:Region.free md ops listed i = true) (hr:(Region.ready md ops listed).contains i = true) (hc:lstB md ops listed = true) (hins:∀ listed w,S (listed.setIfInBounds i true) w ↔ S listed w)
 (hQ:∀ c a w,Q (.panic c) (a.put (some t) v) w→Q (.panic c) a w) (hy:YIf P ops (AtSome md ops S i) oi v a) (hS:S listed w)
 (h:AnyG F n P md ops Q S fuel (listed.setIfInBounds i true) (a.put (some t) v) w):AnyG F n P md ops Q S (fuel + 1) listed a w:=
 AnyG_first hF hnd hi (Region.noSelect_spec hs) (by rw [hd];exact hQ) hins fuel listed a w (lstB_spec hc) (Region.free_spec hi hf) (by simpa using hr) hy hS (by rw [hd];exact h)
theorem AnyG_one {i:Nat} {o:Oper} {fuel:Nat} {listed:Array Bool} {a:Act} {w:World} (hr:Region.ready md ops listed = [i]) (ho:ops[i]? = some o) (hw:Region.wanted o (yielded ops a.tmps) = true)
 (h:∀ K:Act→World→Prop,(∀ a w,S (listed.setIfInBounds i true) w∧AnyG F n P md ops Q S fuel (listed.setIfInBounds i true) a w→K a w)→Oper.wpIn F n P o a w K Q):AnyG F n P md ops Q S (fuel + 1) listed a w:=
 ⟨fun h0=>(by rw [hr] at h0;cases h0),hr ▸ fun j hj=>by
   obtain rfl:j = i:=by simpa using hj
   unfold wpOpIn
   rw [ho]
   simp only [hw,if_true]
   exact h _ fun _ _ h=>h⟩
theorem AnyG_done {fuel:Nat} {listed:Array Bool} {a:Act} {w:World} (hr:Region.ready md ops listed = []) (h:Q .normal a w):AnyG F n P md ops Q S fuel listed a w:=by
 cases fuel with
 | zero=>exact ⟨hr,h⟩
 | succ f=>exact ⟨fun _=>h,fun i hi=>(by rw [hr] at hi;cases hi)⟩
theorem region_G {id:Nat} {a:Act} {w:World} (S:Array Bool→World→Prop) (hm:P.follows .mixedOrders = true)
 (h:AnyG F n P .any ops Q S ops.size (Array.replicate ops.size false) a w.drew):(Code.region id ops true).wpIn F n P Q a w:=
 wpIn_region_any hm (any_of_G _ _ _ _ h)
end
end Go.Proofs.LF
namespace Go.Proofs.LF
open Go.RowKit
def FNCs:(Nat→Prop)→World→Fo→List Value→Prop
 | _,_, .nil,cs=>cs = []
 | S,w, .cons n l s r,cs=>∃ (vn vs:Value) (cs':List Value) (S1 S2 S3:Nat→Prop),cs = .string (bs n) :: vn :: vs :: cs' ∧
    (∀ b,S1 b ∨ S2 b ∨ S3 b→S b)∧(∀ b,S1 b→¬ S2 b)∧(∀ b,S1 b→¬ S3 b)∧(∀ b,S2 b→¬ S3 b)∧w.ownsRow 0 3 1 vn l.length (l.map (Value.int .i64))∧(∀ g,vn.ownBlock = some g→S1 g) ∧
    FSl S2 w vs s∧FNCs S3 w r cs'
theorem FNCs.agree {w w':World}:∀ {y:Fo} {S:Nat→Prop} {cs:List Value},FNCs S w y cs→Agree S w w'→FNCs S w' y cs
 | .nil,_,_,h,_=>h
 | .cons n l s r,S,cs,⟨vn,vs,cs',S1,S2,S3,h1,hs,d1,d2,d3,h2,h3,h4,h6⟩,ha=>
   ⟨vn,vs,cs',S1,S2,S3,h1,hs,d1,d2,d3,owns_agree h2 (fun g hg=>ha g (hs g (.inl (h3 g hg)))),h3,h4.agree (fun b hb=>ha b (hs b (.inr (.inl hb)))),h6.agree (fun b hb=>ha b (hs b (.inr (.inr hb))))⟩
theorem FNCs.wide {w:World}:∀ {y:Fo} {S S':Nat→Prop} {cs:List Value},FNCs S w y cs→(∀ b,S b→S' b)→FNCs S' w y cs
 | .nil,_,_,_,h,_=>h
 | .cons n l s r,S,S',cs,⟨vn,vs,cs',S1,S2,S3,h1,hs,d1,d2,d3,h2,h3,h4,h6⟩,hw=>
   ⟨vn,vs,cs',S1,S2,S3,h1,fun b hb=>hw b (hs b hb),d1,d2,d3,h2,h3,h4,h6⟩
theorem FNCs.app {w:World}:∀ {y z:Fo} {S S':Nat→Prop} {cs ds:List Value},FNCs S w y cs→FNCs S' w z ds→(∀ b,S b→¬ S' b)→FNCs (fun b=>S b ∨ S' b) w (y.app z) (cs ++ ds)
 | .nil,z,_,_,_,_,h,h',_=>by rw [show _ = [] from h];exact h'.wide (fun b hb => .inr hb)
 | .cons n l s r,z,S,S',cs,ds,⟨vn,vs,cs',S1,S2,S3,h1,hs,d1,d2,d3,h2,h3,h4,h6⟩,h',hd=>
   ⟨vn,vs,cs' ++ ds,S1,S2,fun b=>S3 b ∨ S' b,by rw [h1];rfl,fun b hb=>by
     rcases hb with hb | hb | hb | hb
     · exact .inl (hs b (.inl hb))
     · exact .inl (hs b (.inr (.inl hb)))
     · exact .inl (hs b (.inr (.inr hb)))
     · exact .inr hb,
     d1,fun b hb h=>h.elim (d2 b hb) (hd b (hs b (.inl hb))),fun b hb h=>h.elim (d3 b hb) (hd b (hs b (.inr (.inl hb)))),h2,h3,h4,
     h6.app h' (fun b hb=>hd b (hs b (.inr (.inr hb))))⟩
theorem FNCs.one {S1 S2:Nat→Prop} {w:World} {n:List UInt8} {l:List Int} {s:Fo} {vn vs:Value} (h1:w.ownsRow 0 3 1 vn l.length (l.map (Value.int .i64))) (h2:∀ g,vn.ownBlock = some g→S1 g) (h3:FSl S2 w vs s) (hd:∀ b,S1 b→¬ S2 b):FNCs (fun b=>S1 b ∨ S2 b) w (.cons n l s .nil) [.string (bs n),vn,vs]:=
 ⟨vn,vs,[],S1,S2,fun _=>False,rfl,fun b hb=>by rcases hb with hb | hb | hb;exact .inl hb;exact .inr hb;exact hb.elim,hd,fun _ _ h=>h,fun _ _ h=>h,h1,h2,h3,rfl⟩
end Go.Proofs.LF
namespace Go.Proofs.LF
open Go.RowKit
set_option maxHeartbeats 2000000
set_option maxRecDepth 100000
attribute [local go_sem] bs_toList bs_size bs_get
theorem ordered_any (m:Nat):∀ (y:Fo) (d:Int) (a:Option Addr) (c:Nat) (S:Nat→Prop) (w:World),y.cnt < m→0 ≤ d→d ≤ 4→FSl S w (.slice a y.len c) y→(∀ b,S b→b < w.heap.size)→y.len ≤ 1000→y.Sm →
 Calls Tryz.prog 95 #[.int .i64 d, .slice a y.len c] w fun e w'=>e = .returned (.int .i64 (ordF d y))∧Below w.heap.size w w':=by
 induction m with
 | zero=>intro y _ _ _ _ _ h;omega
 | succ m ih=>
 intro y d a c S w hcnt h0 h9 hv hS hlen hsm
 obtain ⟨_,_,he,hc,hm,hat⟩:=hv.at
 cases he
 have IH:=hid ih
 clear ih
 unfold maxLen at hm
 go_enter Tryz.func95,Tryz.ntmps95
 go_wp2_with fail
 go_loopw [10] (fun i wr=>∃ (k:Nat) (p:Option Ky),k ≤ y.len∧i = .int .i64 k∧Hid (ordF d y = ordG geK d p (y.drop k))∧Hid ((k = 0∧p = none) ∨ 0 < k∧∃ n l s r,y.drop (k - 1) = .cons n l s r∧p = some (kyOf n l))∧Below w.heap.size w wr) (fun i _=>y.len - (intOf i).toNat)
 case atStart=>exact ⟨0,none,by omega,rfl,rfl, .inl ⟨rfl,rfl⟩,Below.refl _ _⟩
 case round=>
  obtain ⟨k,p,hk,rfl,H2,HP,hB⟩:=hrel
  have HAT:=hid hat
  clear hat
  by_cases hlt:k < y.len
  · obtain ⟨g,o,nm,l,s,r,an,cn,ab,cb,rfl,hg1,hd,hc0,hc1,hc2,hI,hF⟩:=HAT.out k hlt
    have ha:Agree S w wr:=Ag_b hB hS
    have c0:=ha.cell hg1 hc0
    have c1:=ha.cell hg1 hc1
    have c2:=ha.cell hg1 hc2
    obtain ⟨s1,s2,s3,s4,_⟩:nm.length ≤ 1000∧l.length ≤ 1000∧s.len ≤ 1000∧s.Sm∧r.Sm:=by have:=hsm.drop (i:=k);rwa [hd] at this
    have s5:=Fo.cnt_at hd
    have HD:=hid hd
    have hsz:=hB.size
    have hcap:=(SlC.caps hI).1
    have hcap2:=(SlC.caps hI).2.1
    clear hc0 hc1 hc2 hd
    have H3:Hid (ordF d y = ordG geK d p (.cons nm l s (y.drop (k + 1)))):=by
     rw [Hid,H2.out,HD.out,Fo.drop_succ HD.out]
    simp only [ordG] at H3
    have hBx:=hid (hB.alloc hsz (.cells #[.string (bs nm), .slice an l.length cn, .slice ab s.len cb] 85))
    by_cases t1:3 < d
    · have H4:=hid (H3.out.trans (if_pos t1))
      go_wp2_with fail
      go_ret
      exact ⟨ret_int H4.out.symm,hBx.out⟩
    · have H4:=hid (H3.out.trans (if_neg t1))
      clear H3
      go_wp2_with fail
      refine (named_any nm _ (by omega)).mono ?_
      rintro e w1 ⟨rfl,hb1⟩
      have hlt1:=hb1.size
      simp only [World.size_alloc] at hlt1
      have x0:w1.cell? ⟨wr.heap.size,0,none⟩ = some (.string (bs nm)):=bc_ hb1 (by simp) (by simp)
      have x1:w1.cell? ⟨wr.heap.size,1,none⟩ = some (.slice an l.length cn):=bc_ hb1 (by simp) (by simp)
      have x2:w1.cell? ⟨wr.heap.size,2,none⟩ = some (.slice ab s.len cb):=bc_ hb1 (by simp) (by simp)
      have hB1:=hid (hBx.out.trans (hb1.mono (by simp;omega)))
      clear hb1 c0 c1 c2
      cases t2:badNm nm with
      | true=>
        have H5:=hid (H4.out.trans (if_pos t2))
        go_wp2_with fail
        go_ret
        exact ⟨ret_int H5.out.symm,hB1.out⟩
      | false=>
      have H5:=hid (H4.out.trans (if_neg (by rw [t2];simp)))
      clear H4
      by_cases t3:4 < (l.length:Int)
      · have H6:=hid (H5.out.trans (if_pos t3))
        go_wp2_with fail
        go_ret
        exact ⟨ret_int H6.out.symm,hB1.out⟩
      · have H6:=hid (H5.out.trans (if_neg t3))
        clear H5
        go_wp2_with fail
        refine (numbers_any l an cn S _ (hI.agree (Ag_b (B:=w.heap.size) hB1.out hS)) (fun b hb=>by have:=hS b hb;omega) (by omega)).mono ?_
        rintro e w2 ⟨rfl,hb2⟩
        have hlt2:=hb2.size
        have y0:=bc_ hb2 (by omega) x0
        have y1:=bc_ hb2 (by omega) x1
        have y2:=bc_ hb2 (by omega) x2
        have hB2:=hid (hB1.out.trans (hb2.mono (by omega)))
        clear hb2 x0 x1 x2
        cases t4:badNs l with
        | true=>
          have H7:=hid (H6.out.trans (if_pos t4))
          go_wp2_with fail
          go_ret
          exact ⟨ret_int H7.out.symm,hB2.out⟩
        | false=>
        have H7:=hid (H6.out.trans (if_neg (by rw [t4];simp)))
        clear H6
        go_wp2_with fail
        have HS0:Hid (∀ b,S b→b < w2.heap.size):=fun b hb=>by have:=hS b hb;omega
        have ha2:Agree S w w2:=Ag_b hB2.out hS
        by_cases t5:0 < (k:Int)
        · obtain ⟨g',o',nm',l',s',r',an',cn',ab',cb',he',hg1',hd',hc0',hc1',hc2',hI',hF'⟩:=HAT.out (k - 1) (by omega)
          cases he'
          have hp:p = some (kyOf nm' l'):=by
           rcases HP.out with ⟨h0,_⟩ | ⟨_,n2,l2,s2,r2,e1,e2⟩
           · omega
           · rw [hd'] at e1;cases e1;exact e2
          subst hp
          obtain ⟨p1,p2,_⟩:nm'.length ≤ 1000∧l'.length ≤ 1000∧s'.len ≤ 1000∧s'.Sm∧r'.Sm:=by have:=hsm.drop (i:=k - 1);rwa [hd'] at this
          have d0:=ha2.cell hg1' hc0'
          have d1:=ha2.cell hg1' hc1'
          have d2:=ha2.cell hg1' hc2'
          have hgw:g < w2.heap.size:=HS0.out _ hg1'
          clear hc0' hc1' hc2' hF' hd'
          simp only at H7
          have tok1:True:=trivial
          have t5a:decide (0 < (k:Int)) = true:=decide_eq_true t5
          have t5b:decide (0 < k) = true:=decide_eq_true (by omega)
          have t5c:0 < k:=by omega
          have b1:(0:Int) ≤ (k:Int) - 1:=by omega
          have b2:(k:Int) - 1 < (y.len:Int):=by omega
          have b3:((k:Int) - 1).toNat = k - 1:=by omega
          have b5:(1:Int) ≤ (k:Int):=by omega
          have b6:(k:Int) ≤ (y.len:Int):=by omega
          have b7:1 ≤ k:=by omega
          have b4:IntKind.i64.wrap ((k:Int) - 1) = (k:Int) - 1:=IntWalk.i64_in _ (by omega)
          go_region_held3 (fun w'=>w'.cell? ⟨wr.heap.size,0,none⟩ = some (.string (bs nm))∧w'.cell? ⟨wr.heap.size,1,none⟩ = some (.slice an l.length cn)∧w'.cell? ⟨wr.heap.size,2,none⟩ = some (.slice ab s.len cb)∧w'.cell? ⟨g,o + (k - 1) * 3,none⟩ = some (.string (bs nm'))∧w'.cell? ⟨g,o + (k - 1) * 3 + 1,none⟩ = some (.slice an' l'.length cn')∧w'.cell? ⟨g,o + (k - 1) * 3 + 2,none⟩ = some (.slice ab' s'.len cb'))
           (first | go_keep | (go_split_ands;exact ⟨bc_ hb3 (by simp;omega) (by assumption),bc_ hb3 (by simp;omega) (by assumption),bc_ hb3 (by simp;omega) (by assumption),bc_ hb3 (by simp;omega) (by assumption),bc_ hb3 (by simp;omega) (by assumption),bc_ hb3 (by simp;omega) (by assumption)⟩) | (go_split_ands;have hlt3:=hb3.size;exact ⟨bc_ hb4 (by simp at hlt3;omega) (by assumption),bc_ hb4 (by simp at hlt3;omega) (by assumption),bc_ hb4 (by simp at hlt3;omega) (by assumption),bc_ hb4 (by simp at hlt3;omega) (by assumption),bc_ hb4 (by simp at hlt3;omega) (by assumption),bc_ hb4 (by simp at hlt3;omega) (by assumption)⟩) | (go_split_ands;have hlt3:=hb3.size;have hlt4:=hb4.size;exact ⟨bc_ hb5 (by simp at hlt3;omega) (by assumption),bc_ hb5 (by simp at hlt3;omega) (by assumption),bc_ hb5 (by simp at hlt3;omega) (by assumption),bc_ hb5 (by simp at hlt3;omega) (by assumption),bc_ hb5 (by simp at hlt3;omega) (by assumption),bc_ hb5 (by simp at hlt3;omega) (by assumption)⟩))
           (first
             | (go_at_call 136;have _t:=tok1;refine (key_any nm' l' an' cn' _ S _ (hI'.agree (Ag_b (B:=w.heap.size) hB2.out.drew hS)) ?_ ab' s'.len cb' rfl).mono ?_;(exact HS0.out);clear tok1;rintro e w3 ⟨rfl,hb3⟩)
             | (go_at_call 136;refine (key_any nm l an cn _ S _ (hI.agree (Ag_b (B:=w.heap.size) (hB2.out.drew.trans (hb3.mono (by simp;omega))) hS)) ?_ ab s.len cb rfl).mono ?_;(intro b hb;have:=hS b hb;have:=hb3.size;simp at this;omega);rintro e w4 ⟨rfl,hb4⟩)
             | (go_at_call 183;refine (byKey_any (kyOf nm' l') (kyOf nm l) _).mono ?_;rintro e w5 ⟨rfl,hb5⟩))
          have HB3:Hid (Below w.heap.size w w5):=((hB2.out.drew.trans (hb3.mono (by simp;omega))).trans (hb4.mono (by have:=hb3.size;simp at this;omega))).trans (hb5.mono (by have:=hb3.size;have:=hb4.size;simp at *;omega))
          clear b1 b2 b3 b4 b5 b6 b7
          go_split_ands
          by_cases t6:0 ≤ byK (kyOf nm' l') (kyOf nm l)
          · have H8:=hid (H7.out.trans (if_pos (by unfold geK;simpa using t6)))
            go_wp2_with fail
            go_ret
            exact ⟨ret_int H8.out.symm,HB3.out⟩
          · have H8:=hid (H7.out.trans (if_neg (by unfold geK;simpa using t6)))
            by_cases t7:ordF (d + 1) s = 0
            · have H9:=hid (H8.out.trans (if_neg (show ¬ (ordG geK (d + 1) none s ≠ 0) from fun h=>h t7)))
              go_wp2_with fail
              refine (IH.out s (d + 1) ab cb S _ (by omega) (by omega) (by omega) (hF.agree (Ag_b (B:=w.heap.size) HB3.out hS)) ?_ s3 s4).mono ?_
              · intro b hb;have:=hS b hb;have:=HB3.out.size;(try simp at this ⊢);omega
              · rintro e w6 ⟨rfl,hb6⟩
                rw [t7]
                go_wp2_with fail
                go_roundw
                case rel=>exact ⟨k + 1,some (kyOf nm l),by omega,by go_num,H9.out, .inr ⟨by omega,nm,l,s,r,HD.out,rfl⟩,HB3.out.trans (hb6.mono HB3.out.size)⟩
                case measure=>simp [intOf];omega
            · have H9:=hid (H8.out.trans (if_pos (show (ordG geK (d + 1) none s ≠ 0) from t7)))
              have t8:(ordF (d + 1) s != 0) = true:=by simpa using t7
              clear t7
              go_wp2_with fail
              refine (IH.out s (d + 1) ab cb S _ (by omega) (by omega) (by omega) (hF.agree (Ag_b (B:=w.heap.size) HB3.out hS)) ?_ s3 s4).mono ?_
              · intro b hb;have:=hS b hb;have:=HB3.out.size;(try simp at this ⊢);omega
              · rintro e w6 ⟨rfl,hb6⟩
                go_wp2_with fail
                go_ret
                exact ⟨ret_int H9.out.symm,HB3.out.trans (hb6.mono HB3.out.size)⟩
        · have hp:p = none:=by
           rcases HP.out with ⟨_,h0⟩ | ⟨h0,_⟩
           · exact h0
           · omega
          subst hp
          simp only at H7
          have t5a:decide (0 < (k:Int)) = false:=decide_eq_false t5
          have t5b:decide (0 < k) = false:=decide_eq_false (by omega)
          have H8:=hid (H7.out.trans (if_neg (by simp)))
          go_quiet (fail)
          have HB3:=hid (below_drewN hB2.out nq)
          by_cases t7:ordF (d + 1) s = 0
          · have H9:=hid (H8.out.trans (if_neg (show ¬ (ordG geK (d + 1) none s ≠ 0) from fun h=>h t7)))
            go_wp2_with fail
            refine (IH.out s (d + 1) ab cb S _ (by omega) (by omega) (by omega) (hF.agree (Ag_b (B:=w.heap.size) HB3.out hS)) ?_ s3 s4).mono ?_
            · intro b hb;have:=hS b hb;have:=HB3.out.size;(try simp at this ⊢);omega
            · rintro e w6 ⟨rfl,hb6⟩
              rw [t7]
              go_wp2_with fail
              go_roundw
              case rel=>exact ⟨k + 1,some (kyOf nm l),by omega,by go_num,H9.out, .inr ⟨by omega,nm,l,s,r,HD.out,rfl⟩,HB3.out.trans (hb6.mono HB3.out.size)⟩
              case measure=>simp [intOf];omega
          · have H9:=hid (H8.out.trans (if_pos (show (ordG geK (d + 1) none s ≠ 0) from t7)))
            have t8:(ordF (d + 1) s != 0) = true:=by simpa using t7
            clear t7
            go_wp2_with fail
            refine (IH.out s (d + 1) ab cb S _ (by omega) (by omega) (by omega) (hF.agree (Ag_b (B:=w.heap.size) HB3.out hS)) ?_ s3 s4).mono ?_
            · intro b hb;have:=hS b hb;have:=HB3.out.size;(try simp at this ⊢);omega
            · rintro e w6 ⟨rfl,hb6⟩
              go_wp2_with fail
              go_ret
              exact ⟨ret_int H9.out.symm,HB3.out.trans (hb6.mono HB3.out.size)⟩
  · go_wp2_with fail
    go_ret
    obtain rfl:k = y.len:=by omega
    exact ⟨ret_int (by rw [H2.out,Fo.drop_len];rfl),hB⟩
end Go.Proofs.LF
namespace Go.Proofs.LF
open Go.RowKit
set_option maxHeartbeats 4000000
set_option maxRecDepth 100000
theorem Tryz.info85i:(Tryz.prog.info? 85).map (fun i=>(i.zero,i.size,i.bytes)) = some (some (.agg #[.string ByteArray.empty, .slice none 0 0, .slice none 0 0]),3,64):=by kernel_rfl
def InsR (v:Value) (n i:Nat) (cs news:List Value) (B:Nat) (w:World) (e:Ending) (w':World):Prop:=
 ∃ a c,e = .returned (.slice a (n + 1) c)∧w'.ownsRow B 85 3 (.slice a (n + 1) c) (n + 1) (cs.take (i * 3) ++ (news ++ cs.drop (i * 3)))∧w.grownBy w' v.ownBlock∧(∀ g,(Value.slice a (n + 1) c).ownBlock = some g→v.ownBlock = some g ∨ g = w.heap.size)
theorem ins_end (v:Value) (n:Nat) (cs:List Value) (x y z:Value) (vb B:Nat) (w:World) (hown:w.ownsRow B 85 3 v n cs) (hvb:w.heap[vb]? = some (.cells #[x,y,z] 85 (0,0)))
 (h1v:∀ u ∈ [x,y,z],u.oneCell' = true) (hn:n ≤ 1000) (hB:B ≤ w.heap.size) :
 Calls Tryz.prog 205 #[v, .int .i64 n, .slice (some ⟨vb,0,none⟩) 1 1] w (InsR v n n cs [x,y,z] B w):=by
 obtain ⟨i0,hi0,hz0,hz1,hz2⟩:=info_parts Tryz.info85i
 have hnews:∀ (j:Nat) (u:Value),[x,y,z][j]? = some u→w.cell? ((⟨vb,0,none⟩:Addr).add j) = some u:=by
  have:=World.news_of_block (cs:=#[x,y,z]) (t:=85) (fr:=(0,0)) hvb
  exact this
 have hl:=hown.1
 rcases hown.2 with ⟨rfl,rfl⟩ | ⟨g,cap,cur,rfl,hbg,hg,hnc,hcap,hcs,htk⟩
 · go_enter Tryz.func205,Tryz.ntmps205
   go_wp2_with (at_builtin;refine wpList_append_ao _ rfl _ _ _ rfl B 85 i0 _ 3 64 Tryz.underlying22 hi0 hz0 hz1 hz2 rfl (by omega) _ 0 cs rfl hown (some ⟨vb,0,none⟩) 1 1 [x,y,z] rfl rfl (fun h=>by cases h) (fun ad had=>by cases had;exact hnews) h1v (by unfold maxLen;omega) (by omega) hB ?_;intro a' c' w' h2 h3 h4)
   go_ret
   exact ⟨a',c',rfl,by rw [List.take_of_length_le (by omega),List.drop_of_length_le (by omega),List.append_nil];exact h2,h3,h4⟩
 · have hnc':n ≤ cap:=hnc
   unfold maxLen at hcap
   go_enter Tryz.func205,Tryz.ntmps205
   go_wp2_with (at_builtin;refine wpList_append_ao _ rfl _ _ _ rfl B 85 i0 _ 3 64 Tryz.underlying22 hi0 hz0 hz1 hz2 rfl (by omega) _ n cs rfl hown (some ⟨vb,0,none⟩) 1 1 [x,y,z] rfl rfl (fun h=>by cases h) (fun ad had=>by cases had;exact hnews) h1v (by unfold maxLen;omega) (by omega) hB ?_;intro a' c' w' h2 h3 h4)
   all_goals (go_ret;exact ⟨a',c',rfl,by rw [List.take_of_length_le (by omega),List.drop_of_length_le (by omega),List.append_nil];exact h2,h3,h4⟩)
end Go.Proofs.LF
namespace Go.Proofs.LF
open Go.RowKit
theorem setCell_heap_congr {w w':World} {g o:Nat} {v:Value} (h:w'.heap[g]? = w.heap[g]?):(w'.setCell ⟨g,o,none⟩ v).heap[g]? = (w.setCell ⟨g,o,none⟩ v).heap[g]?:=by
 simp [World.setCell,Array.getElem?_modify,h]
theorem setCell_at {w:World} {g o:Nat} {v:Value} {cur:Array Value} {t:TypeId} {fr:Nat × Nat} (h:w.heap[g]? = some (.cells cur t fr)):(w.setCell ⟨g,o,none⟩ v).heap[g]? = some (.cells (cur.setIfInBounds o v) t fr):=by
 simp [World.setCell,Array.getElem?_modify,h]
theorem setCell_same {w:World} {g o:Nat} {v:Value} (h:w.cell? ⟨g,o,none⟩ = some v):(w.setCell ⟨g,o,none⟩ v).heap[g]? = w.heap[g]?:=by
 unfold World.cell? at h
 split at h
 · rename_i c t fr hb
   simp only [Option.isSome_none,Bool.false_eq_true,if_false] at h hb
   rw [setCell_at hb,hb]
   have:c.setIfInBounds o v = c:=by
    apply Array.ext (by simp)
    intro i h1 h2
    rw [Array.getElem_setIfInBounds]
    split
    · rename_i e;subst e;rw [Array.getElem?_eq_getElem h2] at h;exact (Option.some.inj h).symm
    · rfl
   rw [this]
 · cases h
def Ctx (E Ty:TypeId) (B ob:Nat) (w:World) (g o:Nat) (T:Nat→Prop) (F:Fo→Fo):Prop:=
 ¬ T g∧g < w.heap.size∧B ≤ g∧(∀ b,T b→B ≤ b∧b < w.heap.size∧b ≠ ob) ∧
 ∀ (w':World) (vs':Value) (s':Fo) (T':Nat→Prop),w.heap.size ≤ w'.heap.size→(∀ b,b < w.heap.size→¬ T b→b ≠ g→w'.heap[b]? = w.heap[b]?)→w'.heap[g]? = (w.setCell ⟨g,o,none⟩ vs').heap[g]? →
  FOw E T' w' vs' s'→(∀ b,T' b→T b ∨ (w.heap.size ≤ b∧b < w'.heap.size)) →
  ∃ v',w'.heap[ob]? = some (.cells #[v'] Ty (0,0))∧FOw E (fun b=>B ≤ b∧b < w'.heap.size∧b ≠ ob) w' v' (F s')
theorem Ctx.start {E Ty:TypeId} {B ob:Nat} {w:World} {v:Value} {T:Nat→Prop} (h0:w.heap[ob]? = some (.cells #[v] Ty (0,0))) (hB:B ≤ ob) (hT:∀ b,T b→B ≤ b∧b < w.heap.size∧b ≠ ob):Ctx E Ty B ob w ob 0 T id:=by
 have hob:ob < w.heap.size:=(Array.getElem?_eq_some_iff.1 h0).1
 refine ⟨fun h=>(hT ob h).2.2 rfl,hob,hB,hT,fun w' vs' s' T' hsz _ hg hF hT'=>⟨vs',?_,?_⟩⟩
 · rw [hg,setCell_at h0];rfl
 · refine hF.wide fun b hb=>?_
   rcases hT' b hb with h | h
   · have:=hT b h;exact ⟨this.1,by omega,this.2.2⟩
   · exact ⟨by omega,h.2,by omega⟩
theorem Ctx.grow {E Ty:TypeId} {B ob:Nat} {w w1:World} {g o:Nat} {T:Nat→Prop} {F:Fo→Fo} (h:Ctx E Ty B ob w g o T F) (hs:w.heap.size ≤ w1.heap.size) (hb:∀ b,b < w.heap.size→w1.heap[b]? = w.heap[b]?):Ctx E Ty B ob w1 g o T F:=by
 obtain ⟨h1,h2,h3,h4,h5⟩:=h
 refine ⟨h1,by omega,h3,fun b hb'=>⟨(h4 b hb').1,by have:=(h4 b hb').2.1;omega,(h4 b hb').2.2⟩,fun w' vs' s' T' hsz ha hg hF hT'=>?_⟩
 refine h5 w' vs' s' T' (by omega) (fun b hb1 hb2 hb3=>(ha b (by omega) hb2 hb3).trans (hb b hb1)) (hg.trans (setCell_heap_congr (hb g h2))) hF (fun b hb'=>?_)
 rcases hT' b hb' with h | h
 · exact .inl h
 · exact .inr ⟨by omega,h.2⟩
theorem Ctx.step {E Ty:TypeId} {B ob:Nat} {w:World} {g o:Nat} {T:Nat→Prop} {F:Fo→Fo} {vs:Value} {s s2 r:Fo} {i:Nat} {n:List UInt8} {l:List Int} (h:Ctx E Ty B ob w g o T F) (hc:w.cell? ⟨g,o,none⟩ = some vs) (hF:FOw E T w vs s) (hd:s.drop i = .cons n l s2 r) :
 ∃ (g2 cap:Nat) (vn vs2:Value) (T2:Nat→Prop),vs = .slice (some ⟨g2,0,none⟩) s.len cap∧s.len ≤ cap∧cap ≤ maxLen∧w.cell? ⟨g2,i * 3,none⟩ = some (.string (bs n))∧w.cell? ⟨g2,i * 3 + 1,none⟩ = some vn∧w.cell? ⟨g2,i * 3 + 2,none⟩ = some vs2∧T g2∧Ints T w vn l ∧
  FOw E T2 w vs2 s2∧Ctx E Ty B ob w g2 (i * 3 + 2) T2 (fun z=>F (s.setN i n l z)):=by
 obtain ⟨h1,h2,h3,h4,h5⟩:=h
 obtain ⟨ds,hown,hvs,hf⟩:=hF
 obtain ⟨vn,vs2,T2,c0,c1,c2,hT2,hI,hF2,hk⟩:=hf.hole hd
 have hlen:=hf.length
 have hil:i < s.len:=by
  rcases Nat.lt_or_ge i s.len with h | h
  · exact h
  · have:=Fo.len_drop i s
    rw [hd] at this
    simp only [Fo.len] at this
    omega
 obtain ⟨hl,hn | ⟨g2,cap,cur,rfl,_,hg2,hnc,hcap,hcs,htake⟩⟩:=hown
 · have:=hn.2
   omega
 have hTg2:=hvs g2 rfl
 have hcell:∀ j u,ds[j]? = some u→w.cell? ⟨g2,j,none⟩ = some u:=fun j u hj=>by
  simp only [World.cell?,hg2]
  rw [← htake,List.getElem?_take] at hj
  split at hj
  · simpa using hj
  · cases hj
 refine ⟨g2,cap,vn,vs2,T2,rfl,hnc,hcap,hcell _ _ c0,hcell _ _ c1,hcell _ _ c2,hTg2,hI.wide (fun b hb=>hb.1.1),hF2,?_⟩
 refine ⟨fun h=>(hT2 g2 h).2 rfl,(h4 g2 hTg2).2.1,(h4 g2 hTg2).1,fun b hb=>h4 b (hT2 b hb).1,fun w' vs' s' T' hsz ha hg hF' hT'=>?_⟩
 rw [setCell_at hg2] at hg
 have hne:g2 ≠ g:=fun e=>h1 (e ▸ hTg2)
 refine h5 w' (.slice (some ⟨g2,0,none⟩) s.len cap) (s.setN i n l s') (fun b=>T b ∨ T' b) hsz (fun b b1 b2 b3=>ha b b1 (fun h=>b2 (hT2 b h).1) (fun e=>b2 (e ▸ hTg2))) ?_ ?_ ?_
 · rw [setCell_same hc];exact ha g h2 (fun h=>h1 (hT2 g h).1) hne.symm
 · refine ⟨ds.set (i * 3 + 2) vs',⟨by rw [Fo.len_setN hil];simpa using hl, .inr ⟨g2,cap,_,by rw [Fo.len_setN hil],Nat.zero_le _,hg,by rw [Fo.len_setN hil];exact hnc,hcap,by simpa using hcs,?_⟩⟩,fun g' hg'=>?_,?_⟩
   · rw [Fo.len_setN hil,← htake,Array.toList_setIfInBounds,List.take_set]
   · obtain rfl:g2 = g':=by simpa [Value.ownBlock] using hg'
     exact .inl hTg2
   · refine (hk w' vs' s' T' (fun b hb=>ha b (h4 b hb.1.1).2.1 hb.2 (fun e=>hb.1.2 (by rw [e];rfl))) hF' (fun b hb hb'=>?_)).wide (fun b hb=>?_)
     · rcases hT' b hb with h | h
       · exact h
       · have:=(h4 b hb'.1).2.1;omega
     · rcases hb with hb | hb
       · exact ⟨.inl hb.1,hb.2⟩
       · refine ⟨.inr hb,fun e=>?_⟩
         obtain rfl:g2 = b:=by simpa [Value.ownBlock] using e
         rcases hT' g2 hb with h | h
         · exact (hT2 g2 h).2 rfl
         · have:=(h4 g2 hTg2).2.1;omega
 · intro b hb
   rcases hb with hb | hb
   · exact .inl hb
   · rcases hT' b hb with h | h
     · exact .inl (hT2 b h).1
     · exact .inr h
end Go.Proofs.LF
namespace Go.Proofs.LF
open Go.RowKit
def rdIs:Rd (List Int) 1 where
 R S w x cs:=∃ a c,cs = [.slice a x.length c]∧Ints S w (.slice a x.length c) x
 len:=by rintro S w x cs ⟨_,_,rfl,_⟩;rfl
 one:=by rintro S w x cs ⟨_,_,rfl,_⟩ u hu;simp at hu;rcases hu with rfl;rfl
 agree:=by rintro S w w' x cs ⟨a,b,rfl,h1⟩ ha;exact ⟨a,b,rfl,h1.agree ha⟩
 wide:=by rintro S w w' x cs ⟨a,b,rfl,h1⟩ ha;exact ⟨a,b,rfl,h1.wide ha⟩
def TwoX (T S:Nat→Prop) (B:Nat) (W:World) (v u:Value) (ps:List (List Ky)) (ns:List (List Int)) (cs es:List Value):Prop:=
 W.ownsRow B 65 1 v ps.length cs∧LCs rdPa T W ps cs∧W.ownsRow B 66 1 u ns.length es∧LCs rdIs S W ns es∧(∀ b,T b→B ≤ b∧b < W.heap.size∧v.ownBlock ≠ some b∧u.ownBlock ≠ some b)∧∀ b,v.ownBlock = some b→u.ownBlock ≠ some b
structure TwoR (S:Nat→Prop) (B:Nat) (W:World) (v u:Value) (ps:List (List Ky)) (ns:List (List Int)):Prop where
 ex:∃ T cs es,TwoX T S B W v u ps ns cs es
variable {T S:Nat→Prop} {B:Nat} {W W':World} {v u:Value} {ps:List (List Ky)} {ns:List (List Int)} {cs es:List Value}
theorem TwoR.nil (S:Nat→Prop) (B:Nat) (W:World):TwoR S B W (.slice none 0 0) (.slice none 0 0) [] []:=⟨fun _=>False,[],[],World.ownsRow_nil _ _ _ _,rfl,World.ownsRow_nil _ _ _ _,rfl,fun _ h=>h.elim,fun _ h=>by cases h⟩
theorem TwoX.below (h:TwoX T S B W v u ps ns cs es) (hS:∀ b,S b→b < W.heap.size) (hb:Below W.heap.size W W'):TwoX T S B W' v u ps ns cs es:=by
 obtain ⟨h1,h2,h3,h4,h5,h6⟩:=h
 exact ⟨ob_ h1 hb (nl_ _),h2.agree (Ag_b hb fun b hb'=>(h5 b hb').2.1),ob_ h3 hb (nl_ _),h4.agree (Ag_b hb hS),fun b hb'=>⟨(h5 b hb').1,by have:=(h5 b hb').2.1;have:=hb.size;omega,(h5 b hb').2.2⟩,h6⟩
end Go.Proofs.LF
