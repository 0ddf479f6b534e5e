/- Parts of the proof of a law of layer 11 (file): LfIdx, LfChg, LfHeld2, LfW40, LfTwo, LfKp, LfW3, LfChain, LfHeld3, LfW40b, LfW4, LfToFo. The conditions stand in each theorem. -/
import Derived.Laws.Externs
import Derived.Laws.RangeAny
import Derived.Laws.World
import Derived.Lib.AppendZeros
import Derived.Lib.Overlaps
import Derived.Lib.Walk
import Derived.Shelf.RegionOpenPlain
import Derived.Test.YtadkpjgpefcphaaGreatDoorProg
import Derived.Test.YtadkpjgpefcphaaGreatDoorChaa
import Derived.Test.YtadkpjgpefcphaaGreatDoorChab
set_option linter.all false
set_option linter.unusedVariables false
set_option linter.unusedSimpArgs false
namespace Go.Proofs.LF
open Go.RowKit
set_option maxHeartbeats 1000000
set_option maxRecDepth 100000
attribute [local go_sem] bs_toList
def elemV (k:Nat) (cs:List Value) (i:Nat):Value:=if k = 1 then cs.getD i undef else .agg ((List.range k).map fun j=>cs.getD (i * k + j) undef).toArray
def Enters (g:Nat):Prop:=∀ (args:Array Value) (W:World),Sem.run Tryz.prog (callFunc g args) W = .ok (.enter g args) W
def PredC (g:Nat) (caps:List Value) (w:World) (args:List Value) (b:Bool):Prop:=
 ∀ W,Below w.heap.size w W→Calls Tryz.prog g (args ++ caps).toArray W fun e w'=>e = .returned (.bool b)∧Below W.heap.size W w'
theorem getD_of_lt {l:List Value} {i:Nat} (h:i < l.length):l[i]? = some (l.getD i undef):=by
 rw [List.getD_eq_getElem?_getD,List.getElem?_eq_getElem h];rfl
theorem idx_int (g:Nat) (hE:Enters g) (p:Nat→Bool) (caps:List Value) (n:Nat) (a:Option Addr) (c:Nat) (cs:List Value) (S:Nat→Prop) (w:World) (hl:SlC S w 1 (.slice a n c) n cs) (hS:∀ b,S b→b < w.heap.size) (hlen:n ≤ 100000)
 (hp:∀ i,i < n→PredC g caps w [elemV 1 cs i] (p i)) :
 Calls Tryz.prog 242 #[.slice a n c, .func (.func g) #[] caps.toArray] w fun e w'=>e = .returned (.int .i64 (idxN p n))∧Below w.heap.size w w':=by
 have hE':∀ (args:Array Value) (W:World),Sem.run Tryz.prog (callFunc g args) W = .ok (.enter g args) W:=hE
 clear hE
 go_enter Tryz.func242,Tryz.ntmps242
 go_wp2_with fail
 go_loopw [8] (fun i wr=>∃ k:Nat,k ≤ n∧i = .int .i64 k∧Hid (∀ j,j < k→p j = false)∧Below w.heap.size w wr) (fun i _=>n - (intOf i).toNat)
 case atStart=>exact ⟨0,by omega,rfl,by intro j hj;omega,Below.refl _ _⟩
 case round=>
  obtain ⟨k,hk,rfl,H2,hB⟩:=hrel
  have HP:=hid hp
  clear hp
  by_cases hlt:k < n
  · obtain ⟨g',o,rfl,hg,_,_,hcell⟩:=SlC.cells hl (by omega)
    have hx0:=(Ag_b (S:=S) hB hS).cell hg (hcell k _ (getD_of_lt (by have:=hl.1;omega)))
    clear hcell
    go_wp2_with fail
    refine (HP.out k hlt _ hB).mono ?_
    rintro e w' ⟨rfl,hb'⟩
    cases hpx:p k with
    | true=>
      have HX:=hid hpx
      clear hpx
      go_wp2_with fail
      go_ret
      exact ⟨ret_int (idxN_found H2.out hlt HX.out).symm,hB.trans (hb'.mono hB.size)⟩
    | false=>
      have HX:=hid hpx
      clear hpx
      go_wp2_with fail
      go_roundw
      case rel=>exact ⟨k + 1,by omega,by go_num,fun j hj=>by rcases Nat.lt_succ_iff_lt_or_eq.1 hj with h | h;exact H2.out j h;rw [h];exact HX.out,hB.trans (hb'.mono hB.size)⟩
      case measure=>simp [intOf];omega
  · go_wp2_with fail
    go_ret
    obtain rfl:k = n:=by omega
    exact ⟨ret_int (idxN_none H2.out).symm,hB⟩
theorem cont_int (g:Nat) (hE:Enters g) (p:Nat→Bool) (caps:List Value) (n:Nat) (a:Option Addr) (c:Nat) (cs:List Value) (S:Nat→Prop) (w:World) (hl:SlC S w 1 (.slice a n c) n cs) (hS:∀ b,S b→b < w.heap.size) (hlen:n ≤ 100000)
 (hp:∀ i,i < n→PredC g caps w [elemV 1 cs i] (p i)) :
 Calls Tryz.prog 208 #[.slice a n c, .func (.func g) #[] caps.toArray] w fun e w'=>e = .returned (.bool (anyN p n))∧Below w.heap.size w w':=by
 have HP:=hid hp
 clear hp
 go_enter Tryz.func208,Tryz.ntmps208
 go_wp2_with fail
 refine (idx_int g hE p caps n a c cs S w hl hS hlen HP.out).mono ?_
 rintro e w' ⟨rfl,hb⟩
 go_wp2_with fail
 go_ret
 exact ⟨ret_bool (idxN_any p n),hb⟩
theorem idx_flat (g:Nat) (hE:Enters g) (p:Nat→Bool) (caps:List Value) (n:Nat) (a:Option Addr) (c:Nat) (cs:List Value) (S:Nat→Prop) (w:World) (hl:SlC S w 2 (.slice a n c) n cs) (hS:∀ b,S b→b < w.heap.size) (hlen:n ≤ 100000)
 (hp:∀ i,i < n→PredC g caps w [elemV 2 cs i] (p i)) :
 Calls Tryz.prog 101 #[.slice a n c, .func (.func g) #[] caps.toArray] w fun e w'=>e = .returned (.int .i64 (idxN p n))∧Below w.heap.size w w':=by
 have hE':∀ (args:Array Value) (W:World),Sem.run Tryz.prog (callFunc g args) W = .ok (.enter g args) W:=hE
 clear hE
 go_enter Tryz.func101,Tryz.ntmps101
 go_wp2_with fail
 go_loopw [8] (fun i wr=>∃ k:Nat,k ≤ n∧i = .int .i64 k∧Hid (∀ j,j < k→p j = false)∧Below w.heap.size w wr) (fun i _=>n - (intOf i).toNat)
 case atStart=>exact ⟨0,by omega,rfl,by intro j hj;omega,Below.refl _ _⟩
 case round=>
  obtain ⟨k,hk,rfl,H2,hB⟩:=hrel
  have HP:=hid hp
  clear hp
  by_cases hlt:k < n
  · obtain ⟨g',o,rfl,hg,_,_,hcell⟩:=SlC.cells hl (by omega)
    have hx0:=(Ag_b (S:=S) hB hS).cell hg (hcell (k * 2) _ (getD_of_lt (by have:=hl.1;omega)))
    have hx1:=(Ag_b (S:=S) hB hS).cell hg (hcell (k * 2 + 1) _ (getD_of_lt (by have:=hl.1;omega)))
    simp only [← Nat.add_assoc] at hx1
    clear hcell
    go_wp2_with fail
    refine (HP.out k hlt _ hB).mono ?_
    rintro e w' ⟨rfl,hb'⟩
    cases hpx:p k with
    | true=>
      have HX:=hid hpx
      clear hpx
      go_wp2_with fail
      go_ret
      exact ⟨ret_int (idxN_found H2.out hlt HX.out).symm,hB.trans (hb'.mono hB.size)⟩
    | false=>
      have HX:=hid hpx
      clear hpx
      go_wp2_with fail
      go_roundw
      case rel=>exact ⟨k + 1,by omega,by go_num,fun j hj=>by rcases Nat.lt_succ_iff_lt_or_eq.1 hj with h | h;exact H2.out j h;rw [h];exact HX.out,hB.trans (hb'.mono hB.size)⟩
      case measure=>simp [intOf];omega
  · go_wp2_with fail
    go_ret
    obtain rfl:k = n:=by omega
    exact ⟨ret_int (idxN_none H2.out).symm,hB⟩
theorem idx_node (g:Nat) (hE:Enters g) (p:Nat→Bool) (caps:List Value) (n:Nat) (a:Option Addr) (c:Nat) (cs:List Value) (S:Nat→Prop) (w:World) (hl:SlC S w 3 (.slice a n c) n cs) (hS:∀ b,S b→b < w.heap.size) (hlen:n ≤ 100000)
 (hp:∀ i,i < n→PredC g caps w [elemV 3 cs i] (p i)) :
 Calls Tryz.prog 134 #[.slice a n c, .func (.func g) #[] caps.toArray] w fun e w'=>e = .returned (.int .i64 (idxN p n))∧Below w.heap.size w w':=by
 have hE':∀ (args:Array Value) (W:World),Sem.run Tryz.prog (callFunc g args) W = .ok (.enter g args) W:=hE
 clear hE
 go_enter Tryz.func134,Tryz.ntmps134
 go_wp2_with fail
 go_loopw [8] (fun i wr=>∃ k:Nat,k ≤ n∧i = .int .i64 k∧Hid (∀ j,j < k→p j = false)∧Below w.heap.size w wr) (fun i _=>n - (intOf i).toNat)
 case atStart=>exact ⟨0,by omega,rfl,by intro j hj;omega,Below.refl _ _⟩
 case round=>
  obtain ⟨k,hk,rfl,H2,hB⟩:=hrel
  have HP:=hid hp
  clear hp
  by_cases hlt:k < n
  · obtain ⟨g',o,rfl,hg,_,_,hcell⟩:=SlC.cells hl (by omega)
    have hx0:=(Ag_b (S:=S) hB hS).cell hg (hcell (k * 3) _ (getD_of_lt (by have:=hl.1;omega)))
    have hx1:=(Ag_b (S:=S) hB hS).cell hg (hcell (k * 3 + 1) _ (getD_of_lt (by have:=hl.1;omega)))
    have hx2:=(Ag_b (S:=S) hB hS).cell hg (hcell (k * 3 + 2) _ (getD_of_lt (by have:=hl.1;omega)))
    simp only [← Nat.add_assoc] at hx1 hx2
    clear hcell
    go_wp2_with fail
    refine (HP.out k hlt _ hB).mono ?_
    rintro e w' ⟨rfl,hb'⟩
    cases hpx:p k with
    | true=>
      have HX:=hid hpx
      clear hpx
      go_wp2_with fail
      go_ret
      exact ⟨ret_int (idxN_found H2.out hlt HX.out).symm,hB.trans (hb'.mono hB.size)⟩
    | false=>
      have HX:=hid hpx
      clear hpx
      go_wp2_with fail
      go_roundw
      case rel=>exact ⟨k + 1,by omega,by go_num,fun j hj=>by rcases Nat.lt_succ_iff_lt_or_eq.1 hj with h | h;exact H2.out j h;rw [h];exact HX.out,hB.trans (hb'.mono hB.size)⟩
      case measure=>simp [intOf];omega
  · go_wp2_with fail
    go_ret
    obtain rfl:k = n:=by omega
    exact ⟨ret_int (idxN_none H2.out).symm,hB⟩
theorem idx_path (g:Nat) (hE:Enters g) (p:Nat→Bool) (caps:List Value) (n:Nat) (a:Option Addr) (c:Nat) (cs:List Value) (S:Nat→Prop) (w:World) (hl:SlC S w 1 (.slice a n c) n cs) (hS:∀ b,S b→b < w.heap.size) (hlen:n ≤ 100000)
 (hp:∀ i,i < n→PredC g caps w [elemV 1 cs i] (p i)) :
 Calls Tryz.prog 128 #[.slice a n c, .func (.func g) #[] caps.toArray] w fun e w'=>e = .returned (.int .i64 (idxN p n))∧Below w.heap.size w w':=by
 have hE':∀ (args:Array Value) (W:World),Sem.run Tryz.prog (callFunc g args) W = .ok (.enter g args) W:=hE
 clear hE
 go_enter Tryz.func128,Tryz.ntmps128
 go_wp2_with fail
 go_loopw [8] (fun i wr=>∃ k:Nat,k ≤ n∧i = .int .i64 k∧Hid (∀ j,j < k→p j = false)∧Below w.heap.size w wr) (fun i _=>n - (intOf i).toNat)
 case atStart=>exact ⟨0,by omega,rfl,by intro j hj;omega,Below.refl _ _⟩
 case round=>
  obtain ⟨k,hk,rfl,H2,hB⟩:=hrel
  have HP:=hid hp
  clear hp
  by_cases hlt:k < n
  · obtain ⟨g',o,rfl,hg,_,_,hcell⟩:=SlC.cells hl (by omega)
    have hx0:=(Ag_b (S:=S) hB hS).cell hg (hcell k _ (getD_of_lt (by have:=hl.1;omega)))
    clear hcell
    go_wp2_with fail
    refine (HP.out k hlt _ hB).mono ?_
    rintro e w' ⟨rfl,hb'⟩
    cases hpx:p k with
    | true=>
      have HX:=hid hpx
      clear hpx
      go_wp2_with fail
      go_ret
      exact ⟨ret_int (idxN_found H2.out hlt HX.out).symm,hB.trans (hb'.mono hB.size)⟩
    | false=>
      have HX:=hid hpx
      clear hpx
      go_wp2_with fail
      go_roundw
      case rel=>exact ⟨k + 1,by omega,by go_num,fun j hj=>by rcases Nat.lt_succ_iff_lt_or_eq.1 hj with h | h;exact H2.out j h;rw [h];exact HX.out,hB.trans (hb'.mono hB.size)⟩
      case measure=>simp [intOf];omega
  · go_wp2_with fail
    go_ret
    obtain rfl:k = n:=by omega
    exact ⟨ret_int (idxN_none H2.out).symm,hB⟩
theorem cont_path (g:Nat) (hE:Enters g) (p:Nat→Bool) (caps:List Value) (n:Nat) (a:Option Addr) (c:Nat) (cs:List Value) (S:Nat→Prop) (w:World) (hl:SlC S w 1 (.slice a n c) n cs) (hS:∀ b,S b→b < w.heap.size) (hlen:n ≤ 100000)
 (hp:∀ i,i < n→PredC g caps w [elemV 1 cs i] (p i)) :
 Calls Tryz.prog 45 #[.slice a n c, .func (.func g) #[] caps.toArray] w fun e w'=>e = .returned (.bool (anyN p n))∧Below w.heap.size w w':=by
 have HP:=hid hp
 clear hp
 go_enter Tryz.func45,Tryz.ntmps45
 go_wp2_with fail
 refine (idx_path g hE p caps n a c cs S w hl hS hlen HP.out).mono ?_
 rintro e w' ⟨rfl,hb⟩
 go_wp2_with fail
 go_ret
 exact ⟨ret_bool (idxN_any p n),hb⟩
theorem idx_key (g:Nat) (hE:Enters g) (p:Nat→Bool) (caps:List Value) (n:Nat) (a:Option Addr) (c:Nat) (cs:List Value) (S:Nat→Prop) (w:World) (hl:SlC S w 3 (.slice a n c) n cs) (hS:∀ b,S b→b < w.heap.size) (hlen:n ≤ 100000)
 (hp:∀ i,i < n→PredC g caps w [elemV 3 cs i] (p i)) :
 Calls Tryz.prog 139 #[.slice a n c, .func (.func g) #[] caps.toArray] w fun e w'=>e = .returned (.int .i64 (idxN p n))∧Below w.heap.size w w':=by
 have hE':∀ (args:Array Value) (W:World),Sem.run Tryz.prog (callFunc g args) W = .ok (.enter g args) W:=hE
 clear hE
 go_enter Tryz.func139,Tryz.ntmps139
 go_wp2_with fail
 go_loopw [8] (fun i wr=>∃ k:Nat,k ≤ n∧i = .int .i64 k∧Hid (∀ j,j < k→p j = false)∧Below w.heap.size w wr) (fun i _=>n - (intOf i).toNat)
 case atStart=>exact ⟨0,by omega,rfl,by intro j hj;omega,Below.refl _ _⟩
 case round=>
  obtain ⟨k,hk,rfl,H2,hB⟩:=hrel
  have HP:=hid hp
  clear hp
  by_cases hlt:k < n
  · obtain ⟨g',o,rfl,hg,_,_,hcell⟩:=SlC.cells hl (by omega)
    have hx0:=(Ag_b (S:=S) hB hS).cell hg (hcell (k * 3) _ (getD_of_lt (by have:=hl.1;omega)))
    have hx1:=(Ag_b (S:=S) hB hS).cell hg (hcell (k * 3 + 1) _ (getD_of_lt (by have:=hl.1;omega)))
    have hx2:=(Ag_b (S:=S) hB hS).cell hg (hcell (k * 3 + 2) _ (getD_of_lt (by have:=hl.1;omega)))
    simp only [← Nat.add_assoc] at hx1 hx2
    clear hcell
    go_wp2_with fail
    refine (HP.out k hlt _ hB).mono ?_
    rintro e w' ⟨rfl,hb'⟩
    cases hpx:p k with
    | true=>
      have HX:=hid hpx
      clear hpx
      go_wp2_with fail
      go_ret
      exact ⟨ret_int (idxN_found H2.out hlt HX.out).symm,hB.trans (hb'.mono hB.size)⟩
    | false=>
      have HX:=hid hpx
      clear hpx
      go_wp2_with fail
      go_roundw
      case rel=>exact ⟨k + 1,by omega,by go_num,fun j hj=>by rcases Nat.lt_succ_iff_lt_or_eq.1 hj with h | h;exact H2.out j h;rw [h];exact HX.out,hB.trans (hb'.mono hB.size)⟩
      case measure=>simp [intOf];omega
  · go_wp2_with fail
    go_ret
    obtain rfl:k = n:=by omega
    exact ⟨ret_int (idxN_none H2.out).symm,hB⟩
theorem cont_key (g:Nat) (hE:Enters g) (p:Nat→Bool) (caps:List Value) (n:Nat) (a:Option Addr) (c:Nat) (cs:List Value) (S:Nat→Prop) (w:World) (hl:SlC S w 3 (.slice a n c) n cs) (hS:∀ b,S b→b < w.heap.size) (hlen:n ≤ 100000)
 (hp:∀ i,i < n→PredC g caps w [elemV 3 cs i] (p i)) :
 Calls Tryz.prog 53 #[.slice a n c, .func (.func g) #[] caps.toArray] w fun e w'=>e = .returned (.bool (anyN p n))∧Below w.heap.size w w':=by
 have HP:=hid hp
 clear hp
 go_enter Tryz.func53,Tryz.ntmps53
 go_wp2_with fail
 refine (idx_key g hE p caps n a c cs S w hl hS hlen HP.out).mono ?_
 rintro e w' ⟨rfl,hb⟩
 go_wp2_with fail
 go_ret
 exact ⟨ret_bool (idxN_any p n),hb⟩
theorem idx_chg (g:Nat) (hE:Enters g) (p:Nat→Bool) (caps:List Value) (n:Nat) (a:Option Addr) (c:Nat) (cs:List Value) (S:Nat→Prop) (w:World) (hl:SlC S w 5 (.slice a n c) n cs) (hS:∀ b,S b→b < w.heap.size) (hlen:n ≤ 100000)
 (hp:∀ i,i < n→PredC g caps w [elemV 5 cs i] (p i)) :
 Calls Tryz.prog 77 #[.slice a n c, .func (.func g) #[] caps.toArray] w fun e w'=>e = .returned (.int .i64 (idxN p n))∧Below w.heap.size w w':=by
 have hE':∀ (args:Array Value) (W:World),Sem.run Tryz.prog (callFunc g args) W = .ok (.enter g args) W:=hE
 clear hE
 go_enter Tryz.func77,Tryz.ntmps77
 go_wp2_with fail
 go_loopw [8] (fun i wr=>∃ k:Nat,k ≤ n∧i = .int .i64 k∧Hid (∀ j,j < k→p j = false)∧Below w.heap.size w wr) (fun i _=>n - (intOf i).toNat)
 case atStart=>exact ⟨0,by omega,rfl,by intro j hj;omega,Below.refl _ _⟩
 case round=>
  obtain ⟨k,hk,rfl,H2,hB⟩:=hrel
  have HP:=hid hp
  clear hp
  by_cases hlt:k < n
  · obtain ⟨g',o,rfl,hg,_,_,hcell⟩:=SlC.cells hl (by omega)
    have hx0:=(Ag_b (S:=S) hB hS).cell hg (hcell (k * 5) _ (getD_of_lt (by have:=hl.1;omega)))
    have hx1:=(Ag_b (S:=S) hB hS).cell hg (hcell (k * 5 + 1) _ (getD_of_lt (by have:=hl.1;omega)))
    have hx2:=(Ag_b (S:=S) hB hS).cell hg (hcell (k * 5 + 2) _ (getD_of_lt (by have:=hl.1;omega)))
    have hx3:=(Ag_b (S:=S) hB hS).cell hg (hcell (k * 5 + 3) _ (getD_of_lt (by have:=hl.1;omega)))
    have hx4:=(Ag_b (S:=S) hB hS).cell hg (hcell (k * 5 + 4) _ (getD_of_lt (by have:=hl.1;omega)))
    simp only [← Nat.add_assoc] at hx1 hx2 hx3 hx4
    clear hcell
    go_wp2_with fail
    refine (HP.out k hlt _ hB).mono ?_
    rintro e w' ⟨rfl,hb'⟩
    cases hpx:p k with
    | true=>
      have HX:=hid hpx
      clear hpx
      go_wp2_with fail
      go_ret
      exact ⟨ret_int (idxN_found H2.out hlt HX.out).symm,hB.trans (hb'.mono hB.size)⟩
    | false=>
      have HX:=hid hpx
      clear hpx
      go_wp2_with fail
      go_roundw
      case rel=>exact ⟨k + 1,by omega,by go_num,fun j hj=>by rcases Nat.lt_succ_iff_lt_or_eq.1 hj with h | h;exact H2.out j h;rw [h];exact HX.out,hB.trans (hb'.mono hB.size)⟩
      case measure=>simp [intOf];omega
  · go_wp2_with fail
    go_ret
    obtain rfl:k = n:=by omega
    exact ⟨ret_int (idxN_none H2.out).symm,hB⟩
theorem cont_chg (g:Nat) (hE:Enters g) (p:Nat→Bool) (caps:List Value) (n:Nat) (a:Option Addr) (c:Nat) (cs:List Value) (S:Nat→Prop) (w:World) (hl:SlC S w 5 (.slice a n c) n cs) (hS:∀ b,S b→b < w.heap.size) (hlen:n ≤ 100000)
 (hp:∀ i,i < n→PredC g caps w [elemV 5 cs i] (p i)) :
 Calls Tryz.prog 142 #[.slice a n c, .func (.func g) #[] caps.toArray] w fun e w'=>e = .returned (.bool (anyN p n))∧Below w.heap.size w w':=by
 have HP:=hid hp
 clear hp
 go_enter Tryz.func142,Tryz.ntmps142
 go_wp2_with fail
 refine (idx_chg g hE p caps n a c cs S w hl hS hlen HP.out).mono ?_
 rintro e w' ⟨rfl,hb⟩
 go_wp2_with fail
 go_ret
 exact ⟨ret_bool (idxN_any p n),hb⟩
end Go.Proofs.LF
namespace Go.Proofs.LF
def bsG (lt:Nat→Bool):Nat→Nat→Nat→Nat
 | 0,i,_=>i
 | f + 1,i,j=>if i < j then (if lt ((i + j) / 2) then bsG lt f ((i + j) / 2 + 1) j else bsG lt f i ((i + j) / 2)) else i
theorem bsG_fuel (lt:Nat→Bool):∀ (f i j:Nat),j - i ≤ f→bsG lt f i j = bsG lt (j - i) i j
 | 0,i,j,h=>by rw [show j - i = 0 by omega]
 | f + 1,i,j,h=>by
   by_cases hij:i < j
   · obtain ⟨d,hd⟩:∃ d,j - i = d + 1:=⟨j - i - 1,by omega⟩
     rw [hd]
     simp only [bsG,hij,if_true]
     split
     · rw [bsG_fuel lt f _ _ (by omega),bsG_fuel lt d _ _ (by omega)]
     · rw [bsG_fuel lt f _ _ (by omega),bsG_fuel lt d _ _ (by omega)]
   · rw [show j - i = 0 by omega]
     simp [bsG,hij]
def bsF (lt:Nat→Bool) (i j:Nat):Nat:=bsG lt (j - i) i j
theorem bsF_stop {lt:Nat→Bool} {i j:Nat} (h:¬ i < j):bsF lt i j = i:=by
 unfold bsF;rw [show j - i = 0 by omega];rfl
theorem bsF_go {lt:Nat→Bool} {i j:Nat} (h:i < j):bsF lt i j = if lt ((i + j) / 2) then bsF lt ((i + j) / 2 + 1) j else bsF lt i ((i + j) / 2):=by
 unfold bsF
 obtain ⟨d,hd⟩:∃ d,j - i = d + 1:=⟨j - i - 1,by omega⟩
 rw [hd]
 simp only [bsG,h,if_true]
 rw [bsG_fuel lt d _ _ (by omega),bsG_fuel lt d _ _ (by omega)]
theorem bsF_le {lt:Nat→Bool}:∀ (n i j:Nat),j - i ≤ n→i ≤ j→i ≤ bsF lt i j∧bsF lt i j ≤ j
 | 0,i,j,h,h2=>by rw [bsF_stop (by omega)];omega
 | n + 1,i,j,h,h2=>by
   by_cases hij:i < j
   · rw [bsF_go hij]
     split
     · have:=bsF_le (lt:=lt) n ((i + j) / 2 + 1) j (by omega) (by omega);omega
     · have:=bsF_le (lt:=lt) n i ((i + j) / 2) (by omega) (by omega);omega
   · rw [bsF_stop hij];omega
def fl0:Fl:=⟨[],[]⟩
def fndI (l:List Fl) (p:List Ky):Nat:=bsF (fun h=>decide (cmpP (l.getD h fl0).p p < 0)) 0 l.length
def fnd (l:List Fl) (p:List Ky):Option Fl:=match l[fndI l p]? with | some x=>if cmpP x.p p = 0 then some x else none | none=>none
def smF (a b:List Fl) (p:List Ky):Bool:=match fnd a p,fnd b p with | some x,some y=>decide (x.l = y.l) | none,none=>true | _,_=>false
def sptK (k:Ky):List UInt8:=47 :: k.n ++ (if k.h then 58 :: Lib.itoa k.x else if k.x ≠ 0 then 63 :: Lib.itoa k.x else [])
def sptL (p:List Ky):List UInt8:=(p.map sptK).flatten
def ddP:List (List Ky)→List (List Ky)→List (List Ky)
 | acc,[]=>acc
 | acc,p :: r=>if sptL p ∈ acc.map sptL then ddP acc r else ddP (acc ++ [p]) r
def insP (p:List Ky):List (List Ky)→List (List Ky)
 | []=>[p]
 | q :: r=>if cmpP q p < 0 then q :: insP p r else p :: q :: r
def srtP:List (List Ky)→List (List Ky)
 | []=>[]
 | p :: r=>insP p (srtP r)
def pthsF (l:List (List Fl)):List (List Ky):=srtP (ddP [] (l.flatten.map Fl.p))
def chD (a b:List Fl) (p:List Ky):Option Ch:=
 if smF a b p then none else some ⟨p,(fnd a p).isSome,(fnd b p).isSome,((fnd a p).getD fl0).l,((fnd b p).getD fl0).l⟩
def dfF (a b:List Fl):List Ch:=(pthsF [a,b]).filterMap (chD a b)
def lsF:List Fl→List (List Ky)→List Fl→List Fl × List (List Ky)
 | kept,out,[]=>(kept,out)
 | kept,out,f :: r=>if (fnd kept f.p.dropLast).isSome ∨ f.p.length = 1 then lsF (kept ++ [f]) out r else lsF kept (out ++ [f.p]) r
def jnF (o a b:List Fl):List Fl→List (List Ky)→List (List Ky)→List Fl × List (List Ky)
 | all,con,[]=>(all,con)
 | all,con,p :: r=>
   let st:=if smF a b p ∨ smF o b p then (a,con) else if smF o a p then (b,con) else (o,con ++ [p])
   jnF o a b (match fnd st.1 p with | some f=>all ++ [f] | none=>all) st.2 r
def cnF (con:List (List Ky)):List (List Ky)→List (List Ky)
 | []=>con
 | p :: r=>cnF (if con.any (fun q=>decide (cmpP q p = 0)) then con else con ++ [p]) r
def joF (o a b:Fo):List Fl × List (List Ky):=
 let l:=[flsL [] o,flsL [] a,flsL [] b]
 let j:=jnF (flsL [] o) (flsL [] a) (flsL [] b) [] [] (pthsF l)
 let k:=lsF [] [] j.1
 (k.1,srtP (cnF j.2 k.2))
theorem insP_perm (p:List Ky):∀ l,(insP p l).Perm (p :: l)
 | []=>List.Perm.refl _
 | q :: r=>by
   simp only [insP]
   split
   · exact ((insP_perm p r).cons q).trans (List.Perm.swap _ _ _)
   · exact List.Perm.refl _
theorem srtP_perm:∀ l,(srtP l).Perm l
 | []=>List.Perm.refl _
 | p :: r=>(insP_perm p _).trans ((srtP_perm r).cons p)
theorem insP_sorted (p:List Ky):∀ l:List (List Ky),l.Pairwise (fun a b=>cmpP a b ≤ 0)→(insP p l).Pairwise (fun a b=>cmpP a b ≤ 0)
 | [],_=>by simp [insP]
 | q :: r,h=>by
   obtain ⟨h1,h2⟩:=List.pairwise_cons.1 h
   simp only [insP]
   split
   · rename_i hq
     refine List.pairwise_cons.2 ⟨fun x hx=>?_,insP_sorted p r h2⟩
     rcases List.mem_cons.1 ((insP_perm p r).mem_iff.1 hx) with rfl | hx
     · omega
     · exact h1 x hx
   · rename_i hq
     have hpq:cmpP p q ≤ 0:=by
      rcases Int.lt_trichotomy (cmpP p q) 0 with h' | h' | h'
      · omega
      · omega
      · exact absurd (cmpP_ord.flop h') hq
     refine List.pairwise_cons.2 ⟨fun x hx=>?_,h⟩
     rcases List.mem_cons.1 hx with rfl | hx
     · exact hpq
     · have:=h1 x hx
       rcases Int.lt_or_eq_of_le hpq with a | a
       · rcases Int.lt_or_eq_of_le this with b | b
         · exact Int.le_of_lt (cmpP_ord.trans a b)
         · rw [← cmpP_ord.eq b];omega
       · rw [cmpP_ord.eq a];exact this
theorem srtP_sorted:∀ l,(srtP l).Pairwise (fun a b=>cmpP a b ≤ 0)
 | []=>List.Pairwise.nil
 | p :: r=>insP_sorted p _ (srtP_sorted r)
theorem srtP_of {l l':List (List Ky)} (hp:l'.Perm l) (hs:l'.Pairwise (fun a b=>cmpP a b ≤ 0)):l' = srtP l:=
 List.Perm.eq_of_pairwise (le:=fun a b=>cmpP a b ≤ 0) (fun a b _ _ h k=>by
  rcases Int.lt_or_eq_of_le h with h | h
  · have:=cmpP_ord.flip h;omega
  · exact cmpP_ord.eq h) hs (srtP_sorted l) (hp.trans (srtP_perm l).symm)
end Go.Proofs.LF
namespace Go.Proofs.LF
open Go.RowKit
section
variable {F:Fence} {n:Nat} {P:Program} {ops:Array Oper} {Q:Exit→Act→World→Prop} {md:Region.Mode} {S:World→Prop} {L:Nat}
def AnyT (F:Fence) (n:Nat) (P:Program) (md:Region.Mode) (ops:Array Oper) (Q:Exit→Act→World→Prop) (S:World→Prop) (L:Nat):Nat→Array Bool→Act→World→Prop
 | 0,listed,a,w=>Region.ready md ops listed = []∧Q .normal a w
 | fuel + 1,listed,a,w=>
   (Region.ready md ops listed = []→Q .normal a w) ∧
   ∀ i ∈ Region.ready md ops listed,wpOpIn F n P ops Q i (fun a' w'=>if i = L then wpAnyIn F n P md ops Q fuel (listed.setIfInBounds i true) a' w' else S w'∧AnyT F n P md ops Q S L fuel (listed.setIfInBounds i true) a' w') a w
theorem any_of_T:∀ (fuel:Nat) (listed:Array Bool) (a:Act) (w:World),AnyT F n P md ops Q S L fuel listed a w→wpAnyIn F n P md ops Q fuel listed a w
 | 0,_,_,_,h=>h
 | fuel + 1,_,_,_,h=>⟨h.1,fun i hi=>wpOpIn_mono (fun a' w' h'=>by
    split at h'
    · exact h'
    · exact any_of_T fuel _ a' w' h'.2) (h.2 i hi)⟩
theorem AnyT_first (hF:∀ f,F.fn f) (hnd:ops.all notDefer = true) {i:Nat} {oi:Oper} {v:Value} (hi:ops[i]? = some oi) (hsel:∀ (j:Nat) (o:Oper) cs b,ops[j]? = some o→o.op ≠ .select cs b)
 (hQ:∀ c a w,Q (.panic c) (a.put oi.dst v) w→Q (.panic c) a w) (hiL:i ≠ L) (hL:∀ (listed:Array Bool),i ∈ Region.ready md ops listed→L ∉ Region.ready md ops listed) :
 ∀ (fuel:Nat) (listed:Array Bool) (a:Act) (w:World),
  (∀ j oj,ops[j]? = some oj→j ≠ i→listed.getD j true = false→(∀ e ∈ oj.after,Region.binds md e = true→e.on ≠ i)→oi.apart ops oj = true) →
  i ∈ Region.ready md ops listed→YIf P ops S oi v a→S w →
  AnyT F n P md ops Q S L fuel (listed.setIfInBounds i true) (a.put oi.dst v) w→AnyT F n P md ops Q S L (fuel + 1) listed a w:=by
 have hno:∀ j o,ops[j]? = some o→notDefer o = true:=fun j o h=>by
  rw [Array.all_eq_true] at hnd
  obtain ⟨hj,rfl⟩:=Array.getElem?_eq_some_iff.1 h
  exact hnd j hj
 intro fuel
 induction fuel with
 | zero=>
   intro listed a w _ hr hy hS H
   refine ⟨fun h=>(by rw [h] at hr;cases hr),fun j hj=>?_⟩
   by_cases hji:j = i
   · subst hji;exact hy.wpOp hF hi (hno _ _ hi) hS (by rw [if_neg hiL];exact ⟨hS,H⟩)
   · have:=ready_mono hj hji
     rw [H.1] at this
     cases this
 | succ fuel ih=>
   intro listed a w hfree hr hy hS H
   refine ⟨fun h=>(by rw [h] at hr;cases hr),fun j hj=>?_⟩
   by_cases hji:j = i
   · subst hji;exact hy.wpOp hF hi (hno _ _ hi) hS (by rw [if_neg hiL];exact ⟨hS,H⟩)
   · have hjL:j ≠ L:=fun e=>hL listed hr (e ▸ hj)
     have h1:=H.2 j (ready_mono hj hji)
     simp only [if_neg hjL] at h1 ⊢
     obtain ⟨hjun,oj,hoj,hall⟩:=mem_ready.1 hj
     have hnot:∀ e ∈ oj.after,Region.binds md e = true→e.on ≠ i:=fun e he hb heq=>by
      have h1:=hall e he hb
      have h0:=(mem_ready.1 hr).1
      rw [heq] at h1
      rcases Nat.lt_or_ge i listed.size with h' | h'
      · simp [h'] at h0 h1;rw [h0] at h1;cases h1
      · simp [Array.getElem?_eq_none h'] at h1
     have h2:=wpOpIn_putIf hoj (hno _ _ hoj) (hfree j oj hoj hji hjun hnot) (fun cs b=>hsel i oi cs b hi) (fun cs b=>hsel j oj cs b hoj) hQ hy h1
     have hfree':∀ k ok,ops[k]? = some ok→k ≠ i→(listed.setIfInBounds j true).getD k true = false →
      (∀ e ∈ ok.after,Region.binds md e = true→e.on ≠ i)→oi.apart ops ok = true:=fun k ok hk hki hun hno=>by
      refine hfree k ok hk hki ?_ hno
      by_cases hjk:j = k
      · subst hjk;exact hjun
      · rw [getD_set_ne true hjk] at hun;exact hun
     refine wpOpIn_mono (fun a' w' h3=>⟨h3.2.1,ih (listed.setIfInBounds j true) a' w' hfree' (ready_mono hr (Ne.symm hji)) h3.1 h3.2.1 ?_⟩) h2
     rw [Array.setIfInBounds_comm _ _ hji]
     exact h3.2.2
def waits (md:Region.Mode) (ops:Array Oper) (L i:Nat):Bool:=match ops[L]? with | some o=>o.after.any (fun e=>Region.binds md e && e.on == i) | none=>true
theorem waits_spec {i:Nat} (h:waits md ops L i = true) (listed:Array Bool) (hr:i ∈ Region.ready md ops listed):L ∉ Region.ready md ops listed:=fun hl=>by
 obtain ⟨_,o,ho,hall⟩:=mem_ready.1 hl
 unfold waits at h
 rw [ho] at h
 simp only [Array.any_eq_true,Bool.and_eq_true,beq_iff_eq] at h
 obtain ⟨k,hk,hb,he⟩:=h
 have h1:=hall _ (Array.getElem_mem hk) hb
 have h0:=(mem_ready.1 hr).1
 rw [he] at h1
 rcases Nat.lt_or_ge i listed.size with h' | h'
 · simp [h'] at h0 h1;rw [h0] at h1;cases h1
 · simp [Array.getElem?_eq_none h'] at h1
theorem AnyT_takeD (hF:∀ f,F.fn f) (hnd:ops.all notDefer = true) (i t:Nat) (v:Value) {oi:Oper} {fuel:Nat} {listed:Array Bool} {a:Act} {w:World} (hi:ops[i]? = some oi) (hd:oi.dst = some t)
 (hs:Region.noSelect ops = true) (hf:Region.free md ops listed i = true) (hr:(Region.ready md ops listed).contains i = true) (hiL:i ≠ L) (hw:waits md ops L i = true)
 (hQ:∀ c a w,Q (.panic c) (a.put (some t) v) w→Q (.panic c) a w) (hy:YIf P ops S oi v a) (hS:S w)
 (h:AnyT F n P md ops Q S L fuel (listed.setIfInBounds i true) (a.put (some t) v) w):AnyT F n P md ops Q S L (fuel + 1) listed a w:=
 AnyT_first hF hnd hi (Region.noSelect_spec hs) (by rw [hd];exact hQ) hiL (waits_spec hw) fuel listed a w (Region.free_spec hi hf) (by simpa using hr) hy hS (by rw [hd];exact h)
theorem AnyT_one {i:Nat} {o:Oper} {fuel:Nat} {listed:Array Bool} {a:Act} {w:World} (hr:Region.ready md ops listed = [i]) (ho:ops[i]? = some o) (hw:Region.wanted o (yielded ops a.tmps) = true) (hiL:i ≠ L)
 (h:∀ K:Act→World→Prop,(∀ a w,S w∧AnyT F n P md ops Q S L fuel (listed.setIfInBounds i true) a w→K a w)→Oper.wpIn F n P o a w K Q):AnyT F n P md ops Q S L (fuel + 1) listed a w:=
 ⟨fun h0=>(by rw [hr] at h0;cases h0),hr ▸ fun j hj=>by
   obtain rfl:j = i:=by simpa using hj
   unfold wpOpIn
   rw [ho]
   simp only [hw,if_true,if_neg hiL]
   exact h _ fun _ _ h=>h⟩
theorem AnyT_last {o:Oper} {fuel:Nat} {listed:Array Bool} {a:Act} {w:World} (hr:Region.ready md ops listed = [L]) (ho:ops[L]? = some o) (hw:Region.wanted o (yielded ops a.tmps) = true) (hend:Region.ready md ops (listed.setIfInBounds L true) = [])
 (h:∀ K:Act→World→Prop,(∀ a w,Q .normal a w→K a w)→Oper.wpIn F n P o a w K Q):AnyT F n P md ops Q S L (fuel + 1) listed a w:=
 ⟨fun h0=>(by rw [hr] at h0;cases h0),hr ▸ fun j hj=>by
   obtain rfl:j = L:=by simpa using hj
   unfold wpOpIn
   rw [ho]
   simp only [hw,if_true]
   exact h _ fun a w hq=>any_of_held (S:=fun _=>True) _ _ _ _ (AnyH_done hend hq)⟩
theorem wpIn_value {o:Oper} {a:Act} {w w':World} {v:Value} {K:Act→World→Prop} (hF:∀ f,F.fn f) (hnd:notDefer o = true) (h:(execOp a.eval o).run P w = .ok (.value v) w') (hk:K (a.put o.dst v) w'):Oper.wpIn F n P o a w K Q:=by
 simp only [Oper.wpIn,semAt_of hnd,h,Oper.uponIn]
 exact ⟨fun f _=>hF f,hk⟩
theorem exec_append {o:Oper} {a:Act} {w w':World} {s x:Operand} {t:TypeId} {v1 v2 r:Value} (ho:o.op = .call { callee := .builtin .append,args:=#[s,x],argTypes:=#[t,t] }) (hs:a.eval s = v1) (hx:a.eval x = v2)
 (hr:(Builtin.append_ #[t,t] o.type #[v1,v2]).run P w = .ok r w'):(execOp a.eval o).run P w = .ok (.value r) w':=by
 unfold execOp
 simp only [ho,resolve,invoke,builtin,Sem.run_bind,Sem.run_pure,Result.andThen_ok,List.map_toArray,List.map_cons,List.map_nil,hs,hx,hr]
theorem region_T {id:Nat} {a:Act} {w:World} (S:World→Prop) (L:Nat) (hm:P.follows .mixedOrders = true)
 (h:AnyT F n P .any ops Q S L ops.size (Array.replicate ops.size false) a w.drew):(Code.region id ops true).wpIn F n P Q a w:=
 wpIn_region_any hm (any_of_T _ _ _ _ h)
end
end Go.Proofs.LF
namespace Go.Proofs.LF
open Go.RowKit
set_option maxHeartbeats 4000000
set_option maxRecDepth 100000
theorem Tryz.info85i:(Tryz.prog.info? 85).map (fun i=>(i.zero,i.size,i.bytes)) = some (some (.agg #[.string ByteArray.empty, .slice none 0 0, .slice none 0 0]),3,64):=by kernel_rfl
def InsR (v:Value) (n i:Nat) (cs news:List Value) (B:Nat) (w:World) (e:Ending) (w':World):Prop:=
 ∃ a c,e = .returned (.slice a (n + 1) c)∧w'.ownsRow B 85 3 (.slice a (n + 1) c) (n + 1) (cs.take (i * 3) ++ (news ++ cs.drop (i * 3)))∧w.grownBy w' v.ownBlock∧(∀ g,(Value.slice a (n + 1) c).ownBlock = some g→v.ownBlock = some g ∨ g = w.heap.size)
theorem ins_end (v:Value) (n:Nat) (cs:List Value) (x y z:Value) (vb B:Nat) (w:World) (hown:w.ownsRow B 85 3 v n cs) (hvb:w.heap[vb]? = some (.cells #[x,y,z] 85 (0,0)))
 (h1v:∀ u ∈ [x,y,z],u.oneCell' = true) (hn:n ≤ 1000) (hB:B ≤ w.heap.size) :
 Calls Tryz.prog 205 #[v, .int .i64 n, .slice (some ⟨vb,0,none⟩) 1 1] w (InsR v n n cs [x,y,z] B w):=by
 obtain ⟨i0,hi0,hz0,hz1,hz2⟩:=info_parts Tryz.info85i
 have hnews:∀ (j:Nat) (u:Value),[x,y,z][j]? = some u→w.cell? ((⟨vb,0,none⟩:Addr).add j) = some u:=by
  have:=World.news_of_block (cs:=#[x,y,z]) (t:=85) (fr:=(0,0)) hvb
  exact this
 have hl:=hown.1
 rcases hown.2 with ⟨rfl,rfl⟩ | ⟨g,cap,cur,rfl,hbg,hg,hnc,hcap,hcs,htk⟩
 · go_enter Tryz.func205,Tryz.ntmps205
   go_wp2_with (at_builtin;refine wpList_append_ao _ rfl _ _ _ rfl B 85 i0 _ 3 64 Tryz.underlying22 hi0 hz0 hz1 hz2 rfl (by omega) _ 0 cs rfl hown (some ⟨vb,0,none⟩) 1 1 [x,y,z] rfl rfl (fun h=>by cases h) (fun ad had=>by cases had;exact hnews) h1v (by unfold maxLen;omega) (by omega) hB ?_;intro a' c' w' h2 h3 h4)
   go_ret
   exact ⟨a',c',rfl,by rw [List.take_of_length_le (by omega),List.drop_of_length_le (by omega),List.append_nil];exact h2,h3,h4⟩
 · have hnc':n ≤ cap:=hnc
   unfold maxLen at hcap
   go_enter Tryz.func205,Tryz.ntmps205
   go_wp2_with (at_builtin;refine wpList_append_ao _ rfl _ _ _ rfl B 85 i0 _ 3 64 Tryz.underlying22 hi0 hz0 hz1 hz2 rfl (by omega) _ n cs rfl hown (some ⟨vb,0,none⟩) 1 1 [x,y,z] rfl rfl (fun h=>by cases h) (fun ad had=>by cases had;exact hnews) h1v (by unfold maxLen;omega) (by omega) hB ?_;intro a' c' w' h2 h3 h4)
   all_goals (go_ret;exact ⟨a',c',rfl,by rw [List.take_of_length_le (by omega),List.drop_of_length_le (by omega),List.append_nil];exact h2,h3,h4⟩)
end Go.Proofs.LF
namespace Go.Proofs.LF
open Go.RowKit
def rdIs:Rd (List Int) 1 where
 R S w x cs:=∃ a c,cs = [.slice a x.length c]∧Ints S w (.slice a x.length c) x
 len:=by rintro S w x cs ⟨_,_,rfl,_⟩;rfl
 one:=by rintro S w x cs ⟨_,_,rfl,_⟩ u hu;simp at hu;rcases hu with rfl;rfl
 agree:=by rintro S w w' x cs ⟨a,b,rfl,h1⟩ ha;exact ⟨a,b,rfl,h1.agree ha⟩
 wide:=by rintro S w w' x cs ⟨a,b,rfl,h1⟩ ha;exact ⟨a,b,rfl,h1.wide ha⟩
def TwoX (T S:Nat→Prop) (B:Nat) (W:World) (v u:Value) (ps:List (List Ky)) (ns:List (List Int)) (cs es:List Value):Prop:=
 W.ownsRow B 65 1 v ps.length cs∧LCs rdPa T W ps cs∧W.ownsRow B 66 1 u ns.length es∧LCs rdIs S W ns es∧(∀ b,T b→B ≤ b∧b < W.heap.size∧v.ownBlock ≠ some b∧u.ownBlock ≠ some b)∧∀ b,v.ownBlock = some b→u.ownBlock ≠ some b
structure TwoR (S:Nat→Prop) (B:Nat) (W:World) (v u:Value) (ps:List (List Ky)) (ns:List (List Int)):Prop where
 ex:∃ T cs es,TwoX T S B W v u ps ns cs es
variable {T S:Nat→Prop} {B:Nat} {W W':World} {v u:Value} {ps:List (List Ky)} {ns:List (List Int)} {cs es:List Value}
theorem TwoR.nil (S:Nat→Prop) (B:Nat) (W:World):TwoR S B W (.slice none 0 0) (.slice none 0 0) [] []:=⟨fun _=>False,[],[],World.ownsRow_nil _ _ _ _,rfl,World.ownsRow_nil _ _ _ _,rfl,fun _ h=>h.elim,fun _ h=>by cases h⟩
theorem TwoX.below (h:TwoX T S B W v u ps ns cs es) (hS:∀ b,S b→b < W.heap.size) (hb:Below W.heap.size W W'):TwoX T S B W' v u ps ns cs es:=by
 obtain ⟨h1,h2,h3,h4,h5,h6⟩:=h
 exact ⟨ob_ h1 hb (nl_ _),h2.agree (Ag_b hb fun b hb'=>(h5 b hb').2.1),ob_ h3 hb (nl_ _),h4.agree (Ag_b hb hS),fun b hb'=>⟨(h5 b hb').1,by have:=(h5 b hb').2.1;have:=hb.size;omega,(h5 b hb').2.2⟩,h6⟩
end Go.Proofs.LF
namespace Go.Proofs.LF
open Go.RowKit
def Kd (u u':Value):Prop:=u' = u ∨ (∃ x y,u = .int .i64 x∧u' = .int .i64 y) ∨ ∃ s t,u = .string s∧u' = .string t
theorem Kd.refl (u:Value):Kd u u := .inl rfl
theorem Kd.trans {a b c:Value} (h:Kd a b) (k:Kd b c):Kd a c:=by
 rcases h with rfl | ⟨x,y,rfl,rfl⟩ | ⟨x,y,rfl,rfl⟩
 · exact k
 · rcases k with rfl | ⟨p,q,h1,rfl⟩ | ⟨p,q,h1,rfl⟩
   · exact .inr (.inl ⟨x,y,rfl,rfl⟩)
   · exact .inr (.inl ⟨x,q,rfl,rfl⟩)
   · cases h1
 · rcases k with rfl | ⟨p,q,h1,rfl⟩ | ⟨p,q,h1,rfl⟩
   · exact .inr (.inr ⟨x,y,rfl,rfl⟩)
   · cases h1
   · exact .inr (.inr ⟨x,q,rfl,rfl⟩)
theorem Kd.slice {a:Option Addr} {n c:Nat} {u:Value} (h:Kd (.slice a n c) u):u = .slice a n c:=by
 rcases h with rfl | ⟨x,y,h,_⟩ | ⟨x,y,h,_⟩
 · rfl
 · cases h
 · cases h
theorem Kd.int {x:Int} {u:Value} (h:Kd (.int .i64 x) u):∃ y,u = .int .i64 y:=by
 rcases h with rfl | ⟨x,y,h,rfl⟩ | ⟨x,y,h,_⟩
 · exact ⟨_,rfl⟩
 · exact ⟨_,rfl⟩
 · cases h
theorem Kd.str {x:ByteArray} {u:Value} (h:Kd (.string x) u):∃ y,u = .string y:=by
 rcases h with rfl | ⟨x,y,h,_⟩ | ⟨x,y,h,rfl⟩
 · exact ⟨_,rfl⟩
 · cases h
 · exact ⟨_,rfl⟩
def KP (w w':World):Prop:=∀ (b:Nat) (cs:Array Value) (t:TypeId) (fr:Nat × Nat),w.heap[b]? = some (.cells cs t fr)→∃ cs',w'.heap[b]? = some (.cells cs' t fr)∧∀ (o:Nat) u,cs[o]? = some u→∃ u',cs'[o]? = some u'∧Kd u u'
theorem KP.refl (w:World):KP w w:=fun b cs t fr h=>⟨cs,h,fun o u hu=>⟨u,hu,Kd.refl u⟩⟩
theorem KP.trans {a b c:World} (h:KP a b) (k:KP b c):KP a c:=fun q cs t fr hq=>by
 obtain ⟨cs1,h1,h2⟩:=h q cs t fr hq
 obtain ⟨cs2,k1,k2⟩:=k q cs1 t fr h1
 refine ⟨cs2,k1,fun o u hu=>?_⟩
 obtain ⟨u1,e1,d1⟩:=h2 o u hu
 obtain ⟨u2,e2,d2⟩:=k2 o u1 e1
 exact ⟨u2,e2,d1.trans d2⟩
theorem KP.of_below {w w':World} (h:Below w.heap.size w w'):KP w w':=fun b cs t fr hb=>
 ⟨cs,(h.block b (Array.getElem?_eq_some_iff.1 hb).1).trans hb,fun o u hu=>⟨u,hu,Kd.refl u⟩⟩
theorem KP.cell {w w':World} (h:KP w w') {b o:Nat} {u:Value} (hc:w.cell? ⟨b,o,none⟩ = some u):∃ u',w'.cell? ⟨b,o,none⟩ = some u'∧Kd u u':=by
 unfold World.cell? at hc ⊢
 simp only at hc ⊢
 cases hb:w.heap[b]? with
 | none=>rw [hb] at hc;cases hc
 | some x=>
   rw [hb] at hc
   cases x with
   | cells cs t fr=>
     obtain ⟨cs',h1,h2⟩:=h b cs t fr hb
     rw [h1]
     simp only [Option.isSome_none,Bool.false_eq_true,if_false] at hc ⊢
     exact h2 o u hc
   | _=>cases hc
theorem KP.uf {w w':World} (h:KP w w') {q:Nat} (hu:Uf w q):Uf w' q:=by
 obtain ⟨cs,t,hb⟩:=hu
 obtain ⟨cs',h1,_⟩:=h q cs t (0,0) hb
 exact ⟨cs',t,h1⟩
theorem KP.setCell {w:World} {b o:Nat} {u v:Value} (hc:w.cell? ⟨b,o,none⟩ = some u) (hd:Kd u v):KP w (w.setCell ⟨b,o,none⟩ v):=fun q cs t fr hq=>by
 by_cases hqb:b = q
 · subst hqb
   refine ⟨cs.setIfInBounds o v,by simp [World.setCell,Array.getElem?_modify,hq],fun i x hx=>?_⟩
   rw [Array.getElem?_setIfInBounds]
   by_cases hi:o = i
   · subst hi
     have hlt:o < cs.size:=(Array.getElem?_eq_some_iff.1 hx).1
     rw [if_pos rfl,if_pos hlt]
     unfold World.cell? at hc
     simp only [hq,Option.isSome_none,Bool.false_eq_true,if_false] at hc
     rw [hx] at hc
     cases hc
     exact ⟨v,rfl,hd⟩
   · rw [if_neg hi]
     exact ⟨x,hx,Kd.refl x⟩
 · exact ⟨cs,(Below.heap_setCell _ _ _ _ (Ne.symm hqb)).trans hq,fun i x hx=>⟨x,hx,Kd.refl x⟩⟩
theorem KP.zeros (b:Nat):∀ (n o:Nat) (w:World),(∀ j,j < n→∃ x,w.cell? ⟨b,o + j,none⟩ = some (.int .i64 x))→KP w (w.setCells b o (List.replicate n (.int .i64 0)))
 | 0,_,w,_=>KP.refl w
 | n + 1,o,w,h=>by
   obtain ⟨x,hx⟩:=h 0 (by omega)
   rw [Nat.add_zero] at hx
   have h1:KP w (w.setCell ⟨b,o,none⟩ (.int .i64 0)):=KP.setCell hx (.inr (.inl ⟨_,_,rfl,rfl⟩))
   refine h1.trans ?_
   show KP _ ((w.setCell ⟨b,o,none⟩ (.int .i64 0)).setCells b (o + 1) (List.replicate n (.int .i64 0)))
   refine KP.zeros b n (o + 1) _ fun j hj=>?_
   obtain ⟨y,hy⟩:=h (j + 1) (by omega)
   rw [show o + 1 + j = o + (j + 1) by omega]
   obtain ⟨u',k1,k2⟩:=h1.cell hy
   obtain ⟨z,rfl⟩:=k2.int
   exact ⟨z,k1⟩
theorem list_of {P:Nat→Value→Prop}:∀ (n:Nat),(∀ j,j < n→∃ u,P j u)→∃ l:List Value,l.length = n∧∀ j u,l[j]? = some u→P j u
 | 0,_=>⟨[],rfl,fun j u h=>by simp at h⟩
 | n + 1,h=>by
   obtain ⟨l,h1,h2⟩:=list_of n fun j hj=>h j (by omega)
   obtain ⟨u,hu⟩:=h n (by omega)
   refine ⟨l ++ [u],by simp [h1],fun j v hv=>?_⟩
   by_cases hj:j < l.length
   · rw [List.getElem?_append_left hj] at hv;exact h2 j v hv
   · rw [List.getElem?_append_right (by omega)] at hv
     have:j - l.length = 0:=by
      have:=(List.getElem?_eq_some_iff.1 hv).1
      simp at this;omega
     rw [this] at hv
     simp only [List.getElem?_cons_zero,Option.some.injEq] at hv
     subst hv
     rw [show j = n by omega];exact hu
theorem KP.slc {S:Nat→Prop} {w w':World} {k n:Nat} {v:Value} {cs:List Value} (h:SlC (US S w) w k v n cs) (hk:KP w w'):∃ cs',SlC (US S w') w' k v n cs'∧cs'.length = cs.length∧∀ (j:Nat) (u u':Value),cs[j]? = some u→cs'[j]? = some u'→Kd u u':=by
 obtain ⟨h0,a,c,h1,h2,h3,h4,h5⟩:=h
 rcases h5 with h5 | ⟨g,o,h6,h7,h8⟩
 · have hcs:cs = []:=List.eq_nil_of_length_eq_zero (by rw [h0,h5];simp)
   subst hcs
   exact ⟨[],⟨h0,a,c,h1,h2,h3,h4, .inl h5⟩,rfl,fun j u u' hj=>by simp at hj⟩
 · obtain ⟨l,l1,l2⟩:=list_of (P:=fun j u'=>w'.cell? ⟨g,o + j,none⟩ = some u'∧∀ u,cs[j]? = some u→Kd u u') cs.length fun j hj=>by
    obtain ⟨u',k1,k2⟩:=hk.cell (h8 j cs[j] (by simp [hj]))
    exact ⟨u',k1,fun u hu=>by rw [List.getElem?_eq_getElem hj] at hu;cases hu;exact k2⟩
   exact ⟨l,⟨by rw [l1];exact h0,a,c,h1,h2,h3,h4, .inr ⟨g,o,h6,⟨h7.1,hk.uf h7.2⟩,fun j u hj=>(l2 j u hj).1⟩⟩,l1,fun j u u' hj hj'=>(l2 j u' hj').2 u hj⟩
theorem KP.ints {S:Nat→Prop} {w w':World} {v:Value} {l:List Int} (h:IntU S w v l) (hk:KP w w'):∃ l',IntU S w' v l'∧l'.length = l.length:=by
 obtain ⟨cs',h1,h2,h3⟩:=KP.slc h hk
 rw [List.length_map] at h2
 have hex:∃ l':List Int,l'.length = l.length∧cs' = l'.map (Value.int .i64):=by
  have hall:∀ u ∈ cs',∃ y,u = .int .i64 y:=fun u hu=>by
   obtain ⟨j,hj,rfl⟩:=List.getElem_of_mem hu
   have:=h3 j (.int .i64 (l[j]'(by omega))) cs'[j] (by simp [show j < l.length by omega]) (by simp [hj])
   exact this.int
  clear h1 h3
  revert h2 hall
  generalize l.length = n
  intro h2 hall
  subst h2
  induction cs' with
  | nil=>exact ⟨[],rfl,rfl⟩
  | cons u cs ih=>
    obtain ⟨y,rfl⟩:=hall u (by simp)
    obtain ⟨l',e1,e2⟩:=ih (fun u hu=>hall u (by simp [hu]))
    exact ⟨y :: l',by simp [e1],by simp [e2]⟩
 obtain ⟨l',e1,rfl⟩:=hex
 refine ⟨l',?_,e1⟩
 show SlC _ _ _ _ _ _
 rw [e1];exact h1
theorem KP.fcs {S:Nat→Prop} {w w':World} (hk:KP w w'):∀ (y:Fo) (cs cs':List Value),FCsU S w y cs→cs'.length = cs.length→(∀ (j:Nat) (u u':Value),cs[j]? = some u→cs'[j]? = some u'→Kd u u')→∃ y',FCsU S w' y' cs'∧y'.len = y.len∧y'.cnt = y.cnt
 | .nil,cs,cs',h,hl,_=>by
   rw [show cs = [] from h] at hl
   rw [List.eq_nil_of_length_eq_zero (show cs'.length = 0 by simpa using hl)]
   exact ⟨.nil,rfl,rfl,rfl⟩
 | .cons n l s r,cs,cs',⟨vn,vs,ds,h1,h2,⟨es,h3,h4⟩,h5⟩,hl,hd=>by
   subst h1
   match cs',hl with
   | [c0,c1,c2],hl=>
     simp only [List.length_cons,List.length_nil] at hl
     have hds:ds = []:=List.eq_nil_of_length_eq_zero (by omega)
     subst hds
     have:=FCs.length h5
     have hr:r = .nil:=by
      cases r with
      | nil=>rfl
      | cons _ _ _ _=>simp only [List.length_nil,Fo.len] at this;omega
     subst hr
     obtain ⟨s0,e0⟩:=(hd 0 _ c0 rfl rfl).str
     obtain ⟨an,cn,rfl,_⟩:=SlC.shape h2
     obtain ⟨ab,cb,rfl,_⟩:=SlC.shape h3
     have e1:=(hd 1 _ c1 rfl rfl).slice
     have e2:=(hd 2 _ c2 rfl rfl).slice
     obtain ⟨l',k1,k2⟩:=KP.ints h2 hk
     obtain ⟨es',m1,m2,m3⟩:=KP.slc h3 hk
     obtain ⟨s',q1,q2,q3⟩:=KP.fcs hk s es es' h4 m2 m3
     subst e0 e1 e2
     refine ⟨.cons s0.data.toList l' s' .nil,⟨_,_,[],by rw [bs_of],k1,⟨es',by rw [q2];exact m1,q1⟩,rfl⟩,rfl,?_⟩
     simp only [Fo.cnt,q3]
   | c0 :: c1 :: c2 :: c3 :: ct,hl=>
     obtain ⟨s0,e0⟩:=(hd 0 _ c0 rfl rfl).str
     obtain ⟨an,cn,rfl,_⟩:=SlC.shape h2
     obtain ⟨ab,cb,rfl,_⟩:=SlC.shape h3
     have e1:=(hd 1 _ c1 rfl rfl).slice
     have e2:=(hd 2 _ c2 rfl rfl).slice
     obtain ⟨l',k1,k2⟩:=KP.ints h2 hk
     obtain ⟨es',m1,m2,m3⟩:=KP.slc h3 hk
     obtain ⟨s',q1,q2,q3⟩:=KP.fcs hk s es es' h4 m2 m3
     obtain ⟨r',p1,p2,p3⟩:=KP.fcs hk r ds (c3 :: ct) h5 (by simp only [List.length_cons] at hl ⊢;omega) (fun j u u' hj hj'=>hd (j + 3) u u' (by simpa using hj) (by simpa using hj'))
     subst e0 e1 e2
     refine ⟨.cons s0.data.toList l' s' r',⟨_,_,c3 :: ct,by rw [bs_of],k1,⟨es',by rw [q2];exact m1,q1⟩,p1⟩,?_,?_⟩
     · simp only [Fo.len,p2]
     · simp only [Fo.cnt,q3,p3]
   | [],hl=>simp at hl
   | [_],hl=>simp at hl
   | [_,_],hl=>simp at hl
theorem KP.fsl {S:Nat→Prop} {w w':World} {v:Value} {y:Fo} (h:FSlU S w v y) (hk:KP w w'):∃ y',FSlU S w' v y'∧y'.len = y.len∧y'.cnt = y.cnt:=by
 obtain ⟨ds,h1,h2⟩:=h
 obtain ⟨ds',k1,k2,k3⟩:=KP.slc h1 hk
 obtain ⟨y',q1,q2,q3⟩:=KP.fcs hk y ds ds' h2 k2 k3
 exact ⟨y',⟨ds',by rw [q2];exact k1,q1⟩,q2,q3⟩
end Go.Proofs.LF
namespace Go.Proofs.LF
open Go.RowKit
set_option maxHeartbeats 1000000
set_option maxRecDepth 100000
attribute [local go_sem] bs_toList
theorem bs_get (s:List UInt8) (k:Nat) (h:k < s.length):(bs s)[k]'(by rw [bs_size];exact h) = s[k]:=by
 show (bs s).data[k]'_ = _
 simp [bs]
theorem named_any (s:List UInt8) (w:World) (hlen:s.length ≤ 1000000) :
 Calls Tryz.prog 154 #[.string (bs s)] w fun e w'=>e = .returned (.bool (!badNm s))∧Below w.heap.size w w':=by
 go_enter Tryz.func154,Tryz.ntmps154
 go_wp2_with fail
 go_loopw [4] (fun _ wr=>∃ k:Nat,k ≤ s.length∧wr = w.iter (bs s) k∧Hid (∀ j (h:j < s.length),j < k→¬ ((s[j].toNat:Int) < 97 ∨ 122 < (s[j].toNat:Int)))) (fun _ wr=>s.length - wr.iterPos w.heap.size)
 case atStart=>exact ⟨0,by omega,rfl,fun j _ h=>by omega⟩
 case round=>
  obtain ⟨k,hk,rfl,H2⟩:=hrel
  have hb1:Below w.heap.size w (w.iter (bs s) k):=(Below.refl _ _).alloc (nl_ _) _
  by_cases hlt:k < s.length
  · have hg:=bs_get s k hlt
    by_cases hok:(s[k].toNat:Int) < 97 ∨ 122 < (s[k].toNat:Int)
    · have hbad:badNm s = true:=by
       simp only [badNm,Bool.or_eq_true,List.any_eq_true]
       exact .inl (.inl ⟨s[k]'hlt,List.getElem_mem hlt,by simpa using hok⟩)
      have HB:=hid hbad
      clear hbad
      have hsz:k < (bs s).size:=by rw [bs_size];exact hlt
      by_cases ha:s[k].toNat < 128
      · have hn:=fun ty=>run_next_ascii (P:=Tryz.prog) w (bs s) k ty hsz (by rw [hg];exact ha)
        rw [hg] at hn
        clear hg
        by_cases h97:(s[k].toNat:Int) < 97
        · clear hok
          go_wp2_with fail
          go_ret
          exact ⟨ret_bool (by rw [HB.out];rfl),(Below.refl _ _).alloc (nl_ _) _⟩
        · have h122:122 < (s[k].toNat:Int):=by omega
          clear hok
          go_wp2_with fail
          go_ret
          exact ⟨ret_bool (by rw [HB.out];rfl),(Below.refl _ _).alloc (nl_ _) _⟩
      · have hn:=fun ty=>run_next_any (P:=Tryz.prog) w (bs s) k ty hsz
        have hd:=(decode_high (bs s) k hsz (by rw [hg];omega)).1
        generalize (Utf8.decode (bs s) k).1 = dc at hn hd
        have hd1:(122:Int) < (dc:Int):=by omega
        have hd2:¬ (dc:Int) < 97:=by omega
        clear hg hok hd
        go_wp2_with fail
        go_ret
        exact ⟨ret_bool (by rw [HB.out];rfl),(Below.refl _ _).alloc (nl_ _) _⟩
    · have hn:=fun ty=>run_next_ascii (P:=Tryz.prog) w (bs s) k ty (by rw [bs_size];exact hlt) (by rw [hg];omega)
      rw [hg] at hn
      have h1:¬ (s[k].toNat:Int) < 97:=by omega
      have h2:¬ 122 < (s[k].toNat:Int):=by omega
      have HO:=hid hok
      clear hg hok
      go_wp2_with fail
      go_roundw
      case rel=>exact ⟨k + 1,by omega,rfl,fun j hj h=>by rcases Nat.lt_succ_iff_lt_or_eq.1 h with h' | h';exact H2.out j hj h';subst h';exact HO.out⟩
      case measure=>simp;omega
  · have hn:=fun ty=>run_next_end (P:=Tryz.prog) w (bs s) k ty (by rw [bs_size];exact hlt)
    go_wp2_with (go_at_call 151;refine (in_any _ _ _ _).mono ?_;rintro e w' ⟨rfl,rfl⟩)
    go_ret
    refine ⟨ret_bool ?_,hb1⟩
    have:s.any (fun c=>decide ((c.toNat:Int) < 97) || decide (122 < (c.toNat:Int))) = false:=by
     rw [List.any_eq_false]
     intro c hc
     obtain ⟨j,hj,rfl⟩:=List.getElem_of_mem hc
     have:=H2.out j hj (by omega)
     simpa using this
    simp only [badNm,this,inB,Bool.false_or,bs_size]
    rw [Bool.eq_iff_iff];simp
theorem every1_int (g:Nat) (hE:Enters g) (caps:List Value) (x:Value) (b:Bool) (bx:Nat) (W:World) (hbx:W.cell? ⟨bx,0,none⟩ = some (.func (.func g) #[] caps.toArray))
 (h:Calls Tryz.prog g (x :: caps).toArray W fun e w'=>e = .returned (.bool b)∧Below W.heap.size W w') :
 Calls Tryz.prog 209 #[x, .pointer (some ⟨bx,0,none⟩)] W fun e w'=>e = .returned (.bool (!b))∧Below W.heap.size W w':=by
 have hE':∀ (args:Array Value) (W:World),Sem.run Tryz.prog (callFunc g args) W = .ok (.enter g args) W:=hE
 have H:=hid h
 clear hE h
 go_enter Tryz.func209,Tryz.ntmps209
 go_wp2_with fail
 refine H.out.mono ?_
 rintro e w' ⟨rfl,hb⟩
 go_wp2_with fail
 go_ret
 exact ⟨rfl,hb⟩
theorem enters209:Enters 209:=by
 intro args W
 simp [go_sem]
theorem enters156:Enters 156:=by
 intro args W
 simp [go_sem]
def allN (p:Nat→Bool) (n:Nat):Bool:=!anyN (fun i=>!p i) n
theorem every_int (g:Nat) (hE:Enters g) (p:Nat→Bool) (caps:List Value) (n:Nat) (a:Option Addr) (c:Nat) (cs:List Value) (S:Nat→Prop) (w:World) (hl:SlC S w 1 (.slice a n c) n cs) (hS:∀ b,S b→b < w.heap.size) (hlen:n ≤ 100000)
 (hp:∀ i,i < n→PredC g caps w [elemV 1 cs i] (p i)) :
 Calls Tryz.prog 157 #[.slice a n c, .func (.func g) #[] caps.toArray] w fun e w'=>e = .returned (.bool (allN p n))∧Below w.heap.size w w':=by
 have HP:=hid hp
 clear hp
 go_enter Tryz.func157,Tryz.ntmps157
 go_wp2_with fail
 refine (cont_int 209 enters209 (fun i=>!p i) [.pointer (some ⟨w.heap.size,0,none⟩)] n a c cs S _ (SlC.agree hl (Ag_b (B:=w.heap.size) ((Below.refl _ _).alloc (nl_ _) _) hS)) ?_ hlen ?_).mono ?_
 · intro b hb;have:=hS b hb;simp;omega
 · intro i hi W hW
   refine every1_int g hE caps _ (p i) w.heap.size W (bc_ hW (by simp) (by simp)) (HP.out i hi W ?_)
   exact ((Below.refl _ _).alloc (nl_ _) _).trans (hW.mono (by simp))
 · rintro e w' ⟨rfl,hb⟩
   go_wp2_with fail
   go_ret
   exact ⟨rfl,((Below.refl _ _).alloc (nl_ _) _).trans (hb.mono (by simp))⟩
theorem numbers_any (l:List Int) (an:Option Addr) (cn:Nat) (S:Nat→Prop) (w:World) (hl:Ints S w (.slice an l.length cn) l) (hS:∀ b,S b→b < w.heap.size) (hlen:l.length ≤ 1000) :
 Calls Tryz.prog 157 #[.slice an l.length cn, .func (.func 156) #[] #[]] w fun e w'=>e = .returned (.bool (!badNs l))∧Below w.heap.size w w':=by
 refine (every_int 156 enters156 (fun i=>inB (l.getD i 0) 0 9999) [] l.length an cn _ S w hl hS (by omega) ?_).mono ?_
 · intro i hi W hW
   have:elemV 1 (l.map (Value.int .i64)) i = .int .i64 (l.getD i 0):=by simp [elemV,hi]
   rw [this]
   exact (number_any _ W).mono fun e w' ⟨he,hw⟩=>⟨he,by rw [← hw];exact Below.refl _ _⟩
 · rintro e w' ⟨rfl,hb⟩
   refine ⟨ret_bool ?_,hb⟩
   unfold allN badNs
   rw [anyN_list (fun x=>offB x 9999) _ l (fun i hi=>by simp [hi,inB,offB];rw [Bool.eq_iff_iff];simp)]
end Go.Proofs.LF
namespace Go.Proofs.LF
def ChF:List Ky→List Fl→Prop
 | _,[]=>True
 | up,x :: l=>(∃ d n,d ≤ up.length∧x.p = up.take d ++ [kyOf n x.l])∧ChF x.p l
theorem treF_chain:∀ (m:Nat) (l:List Fl) (up:List Ky) (d:Nat),l.length ≤ m→d ≤ up.length→ChF up l→(∀ x,l.head? = some x→x.p.length ≤ d + 1) →
 flsL (up.take d) (treF d l).1 = l.take (treF d l).2∧Above d (l.drop (treF d l).2)∧∃ up',d ≤ up'.length∧up'.take d = up.take d∧ChF up' (l.drop (treF d l).2)
 | _,[],up,d,_,hd,_,_=>by
   rw [treF_nil]
   exact ⟨rfl,(fun x hx=>by cases hx),up,hd,rfl,trivial⟩
 | 0,_ :: _,_,_,h,_,_,_=>by simp at h
 | m + 1,x :: l,up,d,hm,hd,⟨⟨e,n,he,hx⟩,hc⟩,hh=>by
   have hxl:x.p.length = e + 1:=by rw [hx];simp;omega
   have h1:=hh x rfl
   by_cases hde:e = d
   · subst hde
     have hhead:∀ {l:List Fl},ChF x.p l→∀ z,l.head? = some z→z.p.length ≤ e + 1 + 1:=fun {l} hl z hz=>by
      cases l with
      | nil=>cases hz
      | cons y l=>
        obtain ⟨⟨d',n',hd',hy⟩,_⟩:=hl
        obtain rfl:y = z:=by simpa using hz
        rw [hy];simp;omega
     obtain ⟨f1,a1,up1,u1,u2,c1⟩:=treF_chain m l x.p (e + 1) (by simpa using hm) (by omega) hc (hhead hc)
     obtain ⟨f2,a2,up2,v1,v2,c2⟩:=treF_chain m (l.drop (treF (e + 1) l).2) up1 e (by rw [List.length_drop];simp at hm;omega) (by omega) c1 a1
     have hxt:x.p.take (e + 1) = x.p:=List.take_of_length_le (by omega)
     have hue:up1.take e = up.take e:=by
      have h:=congrArg (List.take e) u2
      rw [List.take_take,Nat.min_eq_left (by omega),hxt] at h
      rw [h,hx,List.take_append_of_le_length (by simp;omega),List.take_take,Nat.min_self]
     have hget:x.p[e]'(by omega) = kyOf n x.l:=by
      have hle:(up.take e).length = e:=by simp;omega
      have:x.p[e]? = some (kyOf n x.l):=by rw [hx,List.getElem?_append_right (by omega)];simp [hle]
      exact (List.getElem?_eq_some_iff.1 this).2
     have hcat:up.take e ++ [kyOf n x.l] = x.p:=hx.symm
     rw [treF_yes hxl]
     simp only
     rw [hxt] at f1
     rw [hue] at f2 v2
     refine ⟨?_,?_,up2,v1,v2,?_⟩
     · rw [flsL_cons,hget,kyOf_n,hcat,f1,f2,show 1 + (treF (e + 1) l).2 + (treF e (l.drop (treF (e + 1) l).2)).2 = ((treF (e + 1) l).2 + (treF e (l.drop (treF (e + 1) l).2)).2) + 1 by omega,List.take_succ_cons,List.take_add]
     · rw [show 1 + (treF (e + 1) l).2 + (treF e (l.drop (treF (e + 1) l).2)).2 = ((treF (e + 1) l).2 + (treF e (l.drop (treF (e + 1) l).2)).2) + 1 by omega,List.drop_succ_cons,← List.drop_drop]
       exact a2
     · rw [show 1 + (treF (e + 1) l).2 + (treF e (l.drop (treF (e + 1) l).2)).2 = ((treF (e + 1) l).2 + (treF e (l.drop (treF (e + 1) l).2)).2) + 1 by omega,List.drop_succ_cons,← List.drop_drop]
       exact c2
   · rw [treF_no (by omega)]
     refine ⟨rfl,(fun z hz=>?_),up,hd,rfl,⟨e,n,he,hx⟩,hc⟩
     obtain rfl:x = z:=by simpa using hz
     omega
theorem fls_chain {l:List Fl} (h:ChF [] l):flsL [] (treF 0 l).1 = l:=by
 obtain ⟨h1,h2,up',_,_,h3⟩:=treF_chain l.length l [] 0 (nl_ _) (Nat.zero_le _) h (fun x hx=>by
  cases l with
  | nil=>cases hx
  | cons y l=>
    obtain ⟨⟨d',n',hd',hy⟩,_⟩:=h
    obtain rfl:y = x:=by simpa using hx
    rw [hy];simp at hd' ⊢)
 have h4:l.drop (treF 0 l).2 = []:=by
  cases hq:l.drop (treF 0 l).2 with
  | nil=>rfl
  | cons y r=>
    rw [hq] at h2 h3
    obtain ⟨⟨d',n',hd',hy⟩,_⟩:=h3
    have:=h2 y rfl
    rw [hy] at this
    simp at this
 have h5:=List.take_append_drop (treF 0 l).2 l
 rw [h4,List.append_nil] at h5
 rw [List.take_nil] at h1
 rw [h1,h5]
def Srt (l:List Fl):Prop:=l.Pairwise (fun a b=>cmpP a.p b.p < 0)
def Clo (l:List Fl):Prop:=∀ x ∈ l,x.p.dropLast ≠ []→∃ z ∈ l,z.p = x.p.dropLast
def KOk (l:List Fl):Prop:=∀ x ∈ l,∃ u n,x.p = u ++ [kyOf n x.l]
theorem cmpP_pre:∀ (u t:List Ky),t ≠ []→cmpP u (u ++ t) < 0
 | [],t,h=>by cases t with | nil=>exact absurd rfl h | cons _ _=>simp [cmpP]
 | a :: u,t,h=>by simp only [List.cons_append,cmpP,byK_ord.refl,ne_eq,not_true,if_false];exact cmpP_pre u t h
theorem cmpP_same (x y:List Ky):∀ (u:List Ky),cmpP (u ++ x) (u ++ y) = cmpP x y
 | []=>rfl
 | a :: u=>by simp only [List.cons_append,cmpP,byK_ord.refl,ne_eq,not_true,if_false];exact cmpP_same x y u
theorem pre_between:∀ {u a r:List Ky},cmpP u a ≤ 0→cmpP a (u ++ r) ≤ 0→∃ t,a = u ++ t
 | [],a,_,_,_=>⟨a,rfl⟩
 | c :: u,[],r,h,_=>by simp [cmpP] at h
 | c :: u,b :: a,r,h,k=>by
   simp only [List.cons_append,cmpP] at h k
   by_cases hcb:byK c b = 0
   · obtain rfl:=byK_ord.eq hcb
     simp only [hcb,ne_eq,not_true,if_false] at h k
     obtain ⟨t,rfl⟩:=pre_between h k
     exact ⟨t,rfl⟩
   · simp only [ne_eq,hcb,not_false_eq_true,if_true] at h
     have h1:byK c b < 0:=by omega
     have h2:=byK_ord.flip h1
     have h3:byK b c ≠ 0:=by omega
     simp only [ne_eq,h3,not_false_eq_true,if_true] at k
     omega
theorem chain_of {l:List Fl} (h1:Srt l) (h2:Clo l) (h3:KOk l):ChF [] l:=by
 have key:∀ (B A:List Fl),l = A ++ B→ChF ((A.getLast?.map Fl.p).getD []) B:=by
  intro B
  induction B with
  | nil=>intro A _;trivial
  | cons x B ih=>
    intro A hl
    have hx:x ∈ l:=by rw [hl];simp
    refine ⟨?_,?_⟩
    · obtain ⟨u,n,hu⟩:=h3 x hx
      by_cases h0:u = []
      · exact ⟨0,n,Nat.zero_le _,by rw [hu,h0];rfl⟩
      · obtain ⟨z,hz,hzp⟩:=h2 x hx (by rw [hu];simpa using h0)
        rw [hu,List.dropLast_concat] at hzp
        have hzx:cmpP z.p x.p < 0:=by rw [hzp,hu];exact cmpP_pre _ _ (by simp)
        unfold Srt at h1
        rw [hl] at h1 hz
        rw [List.pairwise_append] at h1
        obtain ⟨p1,p2,p3⟩:=h1
        have hzA:z ∈ A:=by
         rcases List.mem_append.1 hz with h | h
         · exact h
         · rcases List.mem_cons.1 h with rfl | h
           · rw [cmpP_ord.refl] at hzx;omega
           · have:=(List.pairwise_cons.1 p2).1 z h
             have:=cmpP_ord.flip this
             omega
        obtain ⟨A',a,rfl⟩:∃ A' a,A = A' ++ [a]:=⟨A.dropLast,A.getLast (by intro e;rw [e] at hzA;cases hzA),by rw [List.dropLast_concat_getLast]⟩
        have hza:cmpP u a.p ≤ 0:=by
         rcases List.mem_append.1 hzA with h | h
         · have:=(List.pairwise_append.1 p1).2.2 z h a (by simp)
           rw [hzp] at this;omega
         · obtain rfl:z = a:=by simpa using h
           rw [hzp,cmpP_ord.refl];exact Int.le_refl _
        have hax:cmpP a.p (u ++ [kyOf n x.l]) ≤ 0:=by
         have:=p3 a (by simp) x (by simp)
         rw [hu] at this;omega
        obtain ⟨t,ht⟩:=pre_between hza hax
        refine ⟨u.length,n,?_,?_⟩
        · simp [ht]
        · simp [ht,hu]
    · have:=ih (A ++ [x]) (by rw [hl];simp)
      simpa using this
 exact key l [] rfl
theorem fls_of {l:List Fl} (h1:Srt l) (h2:Clo l) (h3:KOk l):flsL [] (treF 0 l).1 = l:=fls_chain (chain_of h1 h2 h3)
def isBel (u:List Ky) (x:Fl):Bool:=decide (u.length < x.p.length) && decide (x.p.take u.length = u)
def isCh (u:List Ky) (x:Fl):Bool:=decide (x.p.length = u.length + 1) && decide (x.p.take u.length = u)
def toFo (g:Fl→Fo) (d:Nat):List Fl→Fo
 | [] => .nil
 | x :: l => .cons (x.p.getD d ⟨[],false,0⟩).n x.l (g x) (toFo g d l)
def treR:Nat→List Fl→List Ky→Fo
 | 0,_,_ => .nil
 | f + 1,L,u=>toFo (fun x=>treR f L x.p) u.length (L.filter (isCh u))
def Fo.hgt:Fo→Nat
 | .nil=>0
 | .cons _ _ s r=>max (s.hgt + 1) r.hgt
theorem flsL_pre:∀ (y:Fo) (u:List Ky),∀ x ∈ flsL u y,∃ k t,x.p = u ++ k :: t
 | .nil,u,x,h=>by simp [flsL_nil] at h
 | .cons n l s r,u,x,h=>by
   rw [flsL_cons] at h
   rcases List.mem_cons.1 h with rfl | h
   · exact ⟨_,[],rfl⟩
   · rcases List.mem_append.1 h with h | h
     · obtain ⟨k,t,hp⟩:=flsL_pre s _ x h
       exact ⟨kyOf n l,k :: t,by rw [hp];simp⟩
     · exact flsL_pre r u x h
theorem isBel_pre {u t:List Ky} {k:Ky} {x:Fl} (h:x.p = u ++ k :: t):isBel u x = true:=by
 simp [isBel,h]
theorem isCh_bel {u:List Ky} {x:Fl} (h:isCh u x = true):isBel u x = true:=by
 simp only [isCh,isBel,Bool.and_eq_true,decide_eq_true_eq] at *
 exact ⟨by omega,h.2⟩
theorem filter_all {α:Type} {p:α→Bool} {l:List α} (h:∀ x ∈ l,p x = true):l.filter p = l:=List.filter_eq_self.2 h
theorem filter_no {α:Type} {p:α→Bool} {l:List α} (h:∀ x ∈ l,p x = false):l.filter p = []:=by
 rw [List.filter_eq_nil_iff];intro x hx;rw [h x hx];simp
theorem top_mem:∀ (y:Fo) (u:List Ky) (x:Fl),x ∈ flsL u y→∀ k t,x.p = u ++ k :: t→(u ++ [k]) ∈ (flsL u y).map Fl.p
 | .nil,_,_,h,_,_,_=>by simp [flsL_nil] at h
 | .cons n l s r,u,x,h,k,t,hp=>by
   rw [flsL_cons] at h ⊢
   rcases List.mem_cons.1 h with rfl | h
   · have h1:kyOf n l = k∧[] = t:=by simpa using hp
     simp [h1.1]
   · rcases List.mem_append.1 h with h | h
     · obtain ⟨k2,t2,hp2⟩:=flsL_pre s _ x h
       rw [hp2] at hp
       have h1:kyOf n l = k:=by simp at hp;exact hp.1
       simp [h1]
     · have:=top_mem r u x h k t hp
       simp only [List.map_cons,List.map_append,List.mem_cons,List.mem_append]
       exact .inr (.inr this)
theorem bel_at:∀ (y:Fo) (u:List Ky) (i:Nat) (n:List UInt8) (l:List Int) (s r:Fo),((flsL u y).map Fl.p).Nodup→y.drop i = .cons n l s r→(flsL u y).filter (isBel (u ++ [kyOf n l])) = flsL (u ++ [kyOf n l]) s
 | .nil,_,i,_,_,_,_,_,h=>by cases i <;> simp [Fo.drop] at h
 | .cons n' l' s' r',u,0,n,l,s,r,hnd,h=>by
   simp only [Fo.drop,Fo.cons.injEq] at h
   obtain ⟨rfl,rfl,rfl,rfl⟩:=h
   rw [flsL_cons] at hnd ⊢
   have h1:(flsL (u ++ [kyOf n' l']) s').filter (isBel (u ++ [kyOf n' l'])) = flsL (u ++ [kyOf n' l']) s':=filter_all fun x hx=>by
    obtain ⟨k,t,hp⟩:=flsL_pre s' _ x hx
    exact isBel_pre hp
   have h2:(flsL u r').filter (isBel (u ++ [kyOf n' l'])) = []:=filter_no fun x hx=>by
    cases hb:isBel (u ++ [kyOf n' l']) x with
    | false=>rfl
    | true=>
      obtain ⟨k,t,hp⟩:=flsL_pre r' _ x hx
      simp only [isBel,Bool.and_eq_true,decide_eq_true_eq,hp,List.length_append,List.length_cons,List.length_nil] at hb
      have hk:k = kyOf n' l':=by
       have:=hb.2
       rw [show u.length + (0 + 1) = u.length + 1 by omega,List.take_length_add_append] at this
       simpa using this
      have:=top_mem r' u x hx k t hp
      rw [hk] at this
      simp only [List.map_cons,List.nodup_cons,List.map_append,List.mem_append,not_or] at hnd
      exact absurd this hnd.1.2
   rw [List.filter_cons,if_neg (by simp [isBel]),List.filter_append,h1,h2,List.append_nil]
 | .cons n' l' s' r',u,i + 1,n,l,s,r,hnd,h=>by
   simp only [Fo.drop] at h
   rw [flsL_cons] at hnd ⊢
   simp only [List.map_cons,List.nodup_cons,List.map_append,List.mem_append,not_or,List.nodup_append] at hnd
   have h1:(flsL (u ++ [kyOf n' l']) s').filter (isBel (u ++ [kyOf n l])) = []:=filter_no fun x hx=>by
    cases hb:isBel (u ++ [kyOf n l]) x with
    | false=>rfl
    | true=>
      obtain ⟨k,t,hp⟩:=flsL_pre s' _ x hx
      simp only [isBel,Bool.and_eq_true,decide_eq_true_eq,hp,List.length_append,List.length_cons,List.length_nil] at hb
      have hk:kyOf n' l' = kyOf n l:=by
       have:=hb.2
       rw [List.append_assoc,show u.length + (0 + 1) = u.length + 1 by omega,List.take_length_add_append] at this
       simpa using this
      exfalso
      refine hnd.1.2 ?_
      rw [hk]
      have hm:∀ (z:Fo) (i:Nat),z.drop i = .cons n l s r→(u ++ [kyOf n l]) ∈ (flsL u z).map Fl.p:=by
       intro z
       induction z with
       | nil=>intro i h;cases i <;> simp [Fo.drop] at h
       | cons a b c e _ ih=>
         intro i h
         rw [flsL_cons]
         cases i with
         | zero=>simp only [Fo.drop,Fo.cons.injEq] at h;simp [h.1,h.2.1]
         | succ i=>simp only [List.map_cons,List.map_append,List.mem_cons,List.mem_append];exact .inr (.inr (ih i h))
      exact hm r' i h
   rw [List.filter_cons,if_neg (by simp [isBel]),List.filter_append,h1,List.nil_append]
   exact bel_at r' u i n l s r hnd.2.2.1 h
theorem hgt_drop:∀ (y:Fo) (i:Nat) (n:List UInt8) (l:List Int) (s r:Fo),y.drop i = .cons n l s r→s.hgt + 1 ≤ y.hgt
 | .nil,i,_,_,_,_,h=>by cases i <;> simp [Fo.drop] at h
 | .cons _ _ _ _,0,n,l,s,r,h=>by
   simp only [Fo.drop,Fo.cons.injEq] at h
   obtain ⟨rfl,rfl,rfl,rfl⟩:=h
   simp only [Fo.hgt];omega
 | .cons _ _ _ r',i + 1,n,l,s,r,h=>by
   simp only [Fo.drop] at h
   have:=hgt_drop r' i n l s r h
   simp only [Fo.hgt];omega
theorem nodup_at:∀ (y:Fo) (u:List Ky) (i:Nat) (n:List UInt8) (l:List Int) (s r:Fo),((flsL u y).map Fl.p).Nodup→y.drop i = .cons n l s r→((flsL (u ++ [kyOf n l]) s).map Fl.p).Nodup
 | .nil,_,i,_,_,_,_,_,h=>by cases i <;> simp [Fo.drop] at h
 | .cons n' l' s' r',u,0,n,l,s,r,hnd,h=>by
   simp only [Fo.drop,Fo.cons.injEq] at h
   obtain ⟨rfl,rfl,rfl,rfl⟩:=h
   rw [flsL_cons] at hnd
   simp only [List.map_cons,List.nodup_cons,List.map_append,List.nodup_append] at hnd
   exact hnd.2.1
 | .cons n' l' s' r',u,i + 1,n,l,s,r,hnd,h=>by
   simp only [Fo.drop] at h
   rw [flsL_cons] at hnd
   simp only [List.map_cons,List.nodup_cons,List.map_append,List.nodup_append] at hnd
   exact nodup_at r' u i n l s r hnd.2.2.1 h
theorem toFo_fls (g:Fl→Fo):∀ (y:Fo) (u:List Ky),(∀ i n l s r,y.drop i = .cons n l s r→g ⟨u ++ [kyOf n l],l⟩ = s)→toFo g u.length ((flsL u y).filter (isCh u)) = y
 | .nil,_,_=>by simp [flsL_nil,toFo]
 | .cons n l s r,u,h=>by
   have h0:=h 0 n l s r rfl
   rw [flsL_cons,List.filter_cons,if_pos (by simp [isCh]),List.filter_append,filter_no (l:=flsL (u ++ [kyOf n l]) s) (fun x hx=>?_),List.nil_append,toFo,h0,toFo_fls g r u (fun i=>h (i + 1))]
   · simp [kyOf_n]
   · obtain ⟨k,t,hp⟩:=flsL_pre s _ x hx
     simp [isCh,hp]
theorem treR_fls:∀ (f:Nat) (y:Fo) (u:List Ky) (L:List Fl),y.hgt ≤ f→L.filter (isBel u) = flsL u y→((flsL u y).map Fl.p).Nodup→treR f L u = y
 | 0,y,u,L,hf,_,_=>by
   cases y with
   | nil=>rfl
   | cons n l s r=>simp only [Fo.hgt] at hf;omega
 | f + 1,y,u,L,hf,hL,hnd=>by
   have h1:L.filter (isCh u) = (flsL u y).filter (isCh u):=by
    rw [← hL,List.filter_filter]
    congr 1
    funext x
    cases hc:isCh u x with
    | false=>rfl
    | true=>simp [isCh_bel hc]
   rw [treR,h1]
   refine toFo_fls _ y u fun i n l s r hd=>?_
   have h2:=hgt_drop y i n l s r hd
   refine treR_fls f s (u ++ [kyOf n l]) L (by omega) ?_ (nodup_at y u i n l s r hnd hd)
   rw [← bel_at y u i n l s r hnd hd,← hL,List.filter_filter]
   congr 1
   funext x
   cases hc:isBel (u ++ [kyOf n l]) x with
   | false=>rfl
   | true=>
     have:isBel u x = true:=by
      simp only [isBel,Bool.and_eq_true,decide_eq_true_eq,List.length_append,List.length_singleton] at hc ⊢
      refine ⟨by omega,?_⟩
      have:=congrArg (List.take u.length) hc.2
      rwa [List.take_take,Nat.min_eq_left (by omega),List.take_left'  rfl] at this
     simp [this]
theorem hgt_le:∀ (y:Fo) (u:List Ky) (m:Nat),(∀ x ∈ flsL u y,x.p.length ≤ u.length + m)→y.hgt ≤ m
 | .nil,_,_,_=>Nat.zero_le _
 | .cons n l s r,u,m,h=>by
   rw [flsL_cons] at h
   have h0:=h ⟨u ++ [kyOf n l],l⟩ (by simp)
   simp at h0
   have h1:=hgt_le s (u ++ [kyOf n l]) (m - 1) (fun x hx=>by
    have:=h x (by simp [hx])
    simp;omega)
   have h2:=hgt_le r u m (fun x hx=>h x (by simp [hx]))
   simp only [Fo.hgt];omega
theorem Srt.nodup {l:List Fl} (h:Srt l):(l.map Fl.p).Nodup:=by
 unfold Srt at h
 rw [List.Nodup,List.pairwise_map]
 exact h.imp fun {a b} hab e=>by rw [e,cmpP_ord.refl] at hab;omega
theorem treR_treF {l:List Fl} (h1:Srt l) (h2:Clo l) (h3:KOk l) {f:Nat} (hf:∀ x ∈ l,x.p.length ≤ f):treR f l [] = (treF 0 l).1:=by
 have he:=fls_of h1 h2 h3
 refine treR_fls f _ [] l ?_ ?_ (by rw [he];exact h1.nodup)
 · exact hgt_le _ [] f (fun x hx=>by rw [he] at hx;simpa using hf x hx)
 · rw [he]
   exact filter_all fun x hx=>by
    obtain ⟨u,n,hu⟩:=h3 x hx
    simp [isBel,hu]
end Go.Proofs.LF
namespace Go.Proofs.LF
open Go.RowKit
section
variable {F:Fence} {n:Nat} {P:Program} {ops:Array Oper} {Q:Exit→Act→World→Prop} {md:Region.Mode} {S:Array Bool→World→Prop}
def LstC (md:Region.Mode) (ops:Array Oper) (listed:Array Bool):Prop:=∀ j o,ops[j]? = some o→listed.getD j false = true→∀ e ∈ o.after,Region.binds md e = true→listed.getD e.on false = true
def lstB (md:Region.Mode) (ops:Array Oper) (listed:Array Bool):Bool:=(List.range ops.size).all fun j=>!listed.getD j false || match ops[j]? with | some o=>o.after.all (fun e=>!Region.binds md e || listed.getD e.on false) | none=>true
theorem lstB_spec {listed:Array Bool} (h:lstB md ops listed = true):LstC md ops listed:=fun j o ho hl e he hb=>by
 unfold lstB at h
 rw [List.all_eq_true] at h
 have hj:j < ops.size:=(Array.getElem?_eq_some_iff.1 ho).1
 have h1:=h j (List.mem_range.2 hj)
 rw [hl,ho] at h1
 simp only [Bool.not_true,Bool.false_or,Array.all_eq_true] at h1
 obtain ⟨k,hk,rfl⟩:=Array.getElem_of_mem he
 have h2:=h1 k hk
 rw [hb] at h2
 simpa using h2
theorem LstC.set {listed:Array Bool} (h:LstC md ops listed) {i:Nat} (hi:i ∈ Region.ready md ops listed):LstC md ops (listed.setIfInBounds i true):=fun j o ho hl e he hb=>by
 obtain ⟨_,o',ho',hall⟩:=mem_ready.1 hi
 by_cases hji:i = j
 · subst hji
   rw [ho] at ho'
   cases ho'
   exact getD_set_true (hall e he hb)
 · rw [getD_set_ne false hji] at hl
   exact getD_set_true (h j o ho hl e he hb)
theorem waits_at {i k:Nat} {o:Oper} (hk:ops[k]? = some o) (h:waits md ops k i = true):∃ e ∈ o.after,Region.binds md e = true∧e.on = i:=by
 unfold waits at h
 rw [hk] at h
 simp only [Array.any_eq_true,Bool.and_eq_true,beq_iff_eq] at h
 obtain ⟨m,hm,hb,he⟩:=h
 exact ⟨_,Array.getElem_mem hm,hb,he⟩
def Unl (listed:Array Bool) (i:Nat):Prop:=listed.getD i false = false
theorem ready_un {listed:Array Bool} {i:Nat} (hr:i ∈ Region.ready md ops listed):Unl listed i:=by
 have h0:=(mem_ready.1 hr).1
 unfold Unl
 rcases Nat.lt_or_ge i listed.size with h' | h'
 · simp [h'] at h0 ⊢;exact h0
 · simp [Array.getElem?_eq_none h']
theorem un_next {listed:Array Bool} (hc:LstC md ops listed) {i k:Nat} {ok:Oper} (hk:ops[k]? = some ok) (h:waits md ops k i = true) (hu:Unl listed i):Unl listed k:=by
 unfold Unl at *
 cases hl:listed.getD k false with
 | false=>rfl
 | true=>
   obtain ⟨e,he,hb,rfl⟩:=waits_at hk h
   have:=hc _ _ hk hl e he hb
   rw [hu] at this
   cases this
theorem un_set {listed:Array Bool} {i k:Nat} (h:i ≠ k):Unl (listed.setIfInBounds i true) k ↔ Unl listed k:=by unfold Unl;rw [getD_set_ne false h]
def AnyG (F:Fence) (n:Nat) (P:Program) (md:Region.Mode) (ops:Array Oper) (Q:Exit→Act→World→Prop) (S:Array Bool→World→Prop):Nat→Array Bool→Act→World→Prop
 | 0,listed,a,w=>Region.ready md ops listed = []∧Q .normal a w
 | fuel + 1,listed,a,w=>
   (Region.ready md ops listed = []→Q .normal a w) ∧
   ∀ i ∈ Region.ready md ops listed,wpOpIn F n P ops Q i (fun a' w'=>S (listed.setIfInBounds i true) w'∧AnyG F n P md ops Q S fuel (listed.setIfInBounds i true) a' w') a w
theorem any_of_G:∀ (fuel:Nat) (listed:Array Bool) (a:Act) (w:World),AnyG F n P md ops Q S fuel listed a w→wpAnyIn F n P md ops Q fuel listed a w
 | 0,_,_,_,h=>h
 | fuel + 1,_,_,_,h=>⟨h.1,fun i hi=>wpOpIn_mono (fun a' w' h'=>any_of_G fuel _ a' w' h'.2) (h.2 i hi)⟩
def AtSome (md:Region.Mode) (ops:Array Oper) (S:Array Bool→World→Prop) (i:Nat) (w:World):Prop:=∃ listed,LstC md ops listed∧i ∈ Region.ready md ops listed∧S listed w
theorem AnyG_first (hF:∀ f,F.fn f) (hnd:ops.all notDefer = true) {i:Nat} {oi:Oper} {v:Value} (hi:ops[i]? = some oi) (hsel:∀ (j:Nat) (o:Oper) cs b,ops[j]? = some o→o.op ≠ .select cs b)
 (hQ:∀ c a w,Q (.panic c) (a.put oi.dst v) w→Q (.panic c) a w) (hins:∀ listed w,S (listed.setIfInBounds i true) w ↔ S listed w) :
 ∀ (fuel:Nat) (listed:Array Bool) (a:Act) (w:World),LstC md ops listed →
  (∀ j oj,ops[j]? = some oj→j ≠ i→listed.getD j true = false→(∀ e ∈ oj.after,Region.binds md e = true→e.on ≠ i)→oi.apart ops oj = true) →
  i ∈ Region.ready md ops listed→YIf P ops (AtSome md ops S i) oi v a→S listed w →
  AnyG F n P md ops Q S fuel (listed.setIfInBounds i true) (a.put oi.dst v) w→AnyG F n P md ops Q S (fuel + 1) listed a w:=by
 have hno:∀ j o,ops[j]? = some o→notDefer o = true:=fun j o h=>by
  rw [Array.all_eq_true] at hnd
  obtain ⟨hj,rfl⟩:=Array.getElem?_eq_some_iff.1 h
  exact hnd j hj
 intro fuel
 induction fuel with
 | zero=>
   intro listed a w hcl _ hr hy hS H
   refine ⟨fun h=>(by rw [h] at hr;cases hr),fun j hj=>?_⟩
   by_cases hji:j = i
   · subst hji;exact hy.wpOp hF hi (hno _ _ hi) ⟨listed,hcl,hr,hS⟩ ⟨(hins _ _).2 hS,H⟩
   · have:=ready_mono hj hji
     rw [H.1] at this
     cases this
 | succ fuel ih=>
   intro listed a w hcl hfree hr hy hS H
   refine ⟨fun h=>(by rw [h] at hr;cases hr),fun j hj=>?_⟩
   by_cases hji:j = i
   · subst hji;exact hy.wpOp hF hi (hno _ _ hi) ⟨listed,hcl,hr,hS⟩ ⟨(hins _ _).2 hS,H⟩
   · have h1:=H.2 j (ready_mono hj hji)
     obtain ⟨hjun,oj,hoj,hall⟩:=mem_ready.1 hj
     have hnot:∀ e ∈ oj.after,Region.binds md e = true→e.on ≠ i:=fun e he hb heq=>by
      have h1:=hall e he hb
      have h0:=(mem_ready.1 hr).1
      rw [heq] at h1
      rcases Nat.lt_or_ge i listed.size with h' | h'
      · simp [h'] at h0 h1;rw [h0] at h1;cases h1
      · simp [Array.getElem?_eq_none h'] at h1
     have h2:=wpOpIn_putIf hoj (hno _ _ hoj) (hfree j oj hoj hji hjun hnot) (fun cs b=>hsel i oi cs b hi) (fun cs b=>hsel j oj cs b hoj) hQ hy h1
     have hfree':∀ k ok,ops[k]? = some ok→k ≠ i→(listed.setIfInBounds j true).getD k true = false →
      (∀ e ∈ ok.after,Region.binds md e = true→e.on ≠ i)→oi.apart ops ok = true:=fun k ok hk hki hun hno=>by
      refine hfree k ok hk hki ?_ hno
      by_cases hjk:j = k
      · subst hjk;exact hjun
      · rw [getD_set_ne true hjk] at hun;exact hun
     refine wpOpIn_mono (fun a' w' h3=>?_) h2
     rw [Array.setIfInBounds_comm _ _ (Ne.symm hji)] at h3
     have hs':=(hins _ _).1 h3.2.1
     exact ⟨hs',ih (listed.setIfInBounds j true) a' w' (hcl.set hj) hfree' (ready_mono hr (Ne.symm hji)) h3.1 hs' h3.2.2⟩
theorem AnyG_takeD (hF:∀ f,F.fn f) (hnd:ops.all notDefer = true) (i t:Nat) (v:Value) {oi:Oper} {fuel:Nat} {listed:Array Bool} {a:Act} {w:World} (hi:ops[i]? = some oi) (hd:oi.dst = some t)
 (hs:Region.noSelect ops = true) (hf:Region.free md ops listed i = true) (hr:(Region.ready md ops listed).contains i = true) (hc:lstB md ops listed = true) (hins:∀ listed w,S (listed.setIfInBounds i true) w ↔ S listed w)
 (hQ:∀ c a w,Q (.panic c) (a.put (some t) v) w→Q (.panic c) a w) (hy:YIf P ops (AtSome md ops S i) oi v a) (hS:S listed w)
 (h:AnyG F n P md ops Q S fuel (listed.setIfInBounds i true) (a.put (some t) v) w):AnyG F n P md ops Q S (fuel + 1) listed a w:=
 AnyG_first hF hnd hi (Region.noSelect_spec hs) (by rw [hd];exact hQ) hins fuel listed a w (lstB_spec hc) (Region.free_spec hi hf) (by simpa using hr) hy hS (by rw [hd];exact h)
theorem AnyG_one {i:Nat} {o:Oper} {fuel:Nat} {listed:Array Bool} {a:Act} {w:World} (hr:Region.ready md ops listed = [i]) (ho:ops[i]? = some o) (hw:Region.wanted o (yielded ops a.tmps) = true)
 (h:∀ K:Act→World→Prop,(∀ a w,S (listed.setIfInBounds i true) w∧AnyG F n P md ops Q S fuel (listed.setIfInBounds i true) a w→K a w)→Oper.wpIn F n P o a w K Q):AnyG F n P md ops Q S (fuel + 1) listed a w:=
 ⟨fun h0=>(by rw [hr] at h0;cases h0),hr ▸ fun j hj=>by
   obtain rfl:j = i:=by simpa using hj
   unfold wpOpIn
   rw [ho]
   simp only [hw,if_true]
   exact h _ fun _ _ h=>h⟩
theorem AnyG_done {fuel:Nat} {listed:Array Bool} {a:Act} {w:World} (hr:Region.ready md ops listed = []) (h:Q .normal a w):AnyG F n P md ops Q S fuel listed a w:=by
 cases fuel with
 | zero=>exact ⟨hr,h⟩
 | succ f=>exact ⟨fun _=>h,fun i hi=>(by rw [hr] at hi;cases hi)⟩
theorem region_G {id:Nat} {a:Act} {w:World} (S:Array Bool→World→Prop) (hm:P.follows .mixedOrders = true)
 (h:AnyG F n P .any ops Q S ops.size (Array.replicate ops.size false) a w.drew):(Code.region id ops true).wpIn F n P Q a w:=
 wpIn_region_any hm (any_of_G _ _ _ _ h)
end
end Go.Proofs.LF
namespace Go.Proofs.LF
open Go.RowKit
set_option maxHeartbeats 4000000
set_option maxRecDepth 100000
theorem Tryz.info85j:(Tryz.prog.info? 85).map (fun i=>(i.zero,i.size,i.bytes)) = some (some (.agg #[.string ByteArray.empty, .slice none 0 0, .slice none 0 0]),3,64):=by kernel_rfl
theorem ins_room (g n i cap:Nat) (cur:Array Value) (cs:List Value) (x y z:Value) (vb B:Nat) (w:World) (hi:i < n) (hbg:B ≤ g) (hg:w.heap[g]? = some (.cells cur 85 (0,0))) (hroom:n + 1 ≤ cap) (hcap:cap ≤ maxLen) (hcs:cur.size = cap * 3) (htk:cur.toList.take (n * 3) = cs)
 (hvb:w.heap[vb]? = some (.cells #[x,y,z] 85 (0,0))) (hne:vb ≠ g) (h1:∀ u ∈ cs,u.oneCell' = true) (h1v:∀ u ∈ [x,y,z],u.oneCell' = true) :
 Calls Tryz.prog 205 #[.slice (some ⟨g,0,none⟩) n cap, .int .i64 i, .slice (some ⟨vb,0,none⟩) 1 1] w (InsR (.slice (some ⟨g,0,none⟩) n cap) n i cs [x,y,z] B w):=by
 have hsz:(Tryz.prog.info? 85).map (·.size) = some 3:=by
  obtain ⟨i0,hi0,hz0,hz1,hz2⟩:=info_parts Tryz.info85j
  rw [hi0];simp [hz1]
 have hso:∀ W:World,(Go.sizeOf 85).run Tryz.prog W = .ok 3 W:=fun W=>by
  obtain ⟨i0,hi0,hz0,hz1,hz2⟩:=info_parts Tryz.info85j
  simp [Go.sizeOf,typeInfo,hi0,hz1]
 have hnews:∀ (j:Nat) (u:Value),[x,y,z][j]? = some u→∀ W:World,W.heap[vb]? = w.heap[vb]?→W.cell? ((⟨vb,0,none⟩:Addr).add j) = some u:=fun j u hj W hW=>
  World.news_of_block (w:=W) (cs:=#[x,y,z]) (t:=85) (fr:=(0,0)) (hW.trans hvb) j u hj
 have hcl:cs.length = n * 3:=by rw [← htk,List.length_take,Array.length_toList,hcs];omega
 have hdl:(cs.drop (i * 3)).length = 3 * (n - i):=by rw [List.length_drop,hcl];omega
 have hcl2:cur.toList.length = cap * 3:=by rw [Array.length_toList,hcs]
 have hov:∀ lb cb,(callFunc 240 #[.slice (some ⟨vb,0,none⟩) 1 1, .slice (some ⟨g,(i + 1) * 3,none⟩) lb cb]).run Tryz.prog w = .ok (.value (.bool false)) w:=fun lb cb=>by
  rw [run_callFunc_extern Tryz.func240 (by kernel_rfl) (by kernel_rfl) (by kernel_rfl) (e:=Extern.SlicesOverlaps.overlaps #[22,22] #[4]) (by kernel_rfl),
   Lib.run_overlaps_apart w 22 4 85 Tryz.underlying22 3 hso ⟨vb,0,none⟩ ⟨g,(i + 1) * 3,none⟩ 1 1 lb cb hne 85 85 3 (cap * 3) (by simp [World.shape?,hvb]) (by simp [World.shape?,hg,hcs]) (by omega) (by simp [World.frozen?,hvb]) (by simp [World.frozen?,hvb])]
  rfl
 unfold maxLen at hcap
 obtain ⟨c1,hc1⟩:∃ c1,c1 = cur.toList.take ((i + 1) * 3) ++ cs.drop (i * 3) ++ cur.toList.drop ((i + 1) * 3 + (cs.drop (i * 3)).length):=⟨_,rfl⟩
 obtain ⟨k1,k2,k3⟩:=ins_cells (news:=[x,y,z]) (k:=3) rfl htk hcl (Nat.le_of_lt hi) hroom hcl2 hc1
 have hcp1:∀ ty dc sc,(Builtin.copy_ #[22,22] ty #[.slice (some ⟨g,(i + 1) * 3,none⟩) (n - i) dc, .slice (some ⟨g,i * 3,none⟩) (n + 1 - i) sc]).run Tryz.prog w.drew = .ok (goInt (n - i:Nat)) (w.drew.setRow g c1.toArray):=fun ty dc sc=>by
  have:=run_copy_rowK (P:=Tryz.prog) w.drew 22 22 ty 85 3 g ((i + 1) * 3) (n - i) dc (n - i) ⟨g,i * 3,none⟩ (n + 1 - i) sc cur 85 (cs.drop (i * 3)) Tryz.underlying22 hsz hg (by simp only [Nat.min_def];split <;> omega) hdl
   (fun j v hj=>by
     rw [Addr.add_lit]
     rw [List.getElem?_drop,← htk,List.getElem?_take] at hj
     split at hj
     · have hgd:w.drew.heap[g]? = some (.cells cur 85 (0,0)):=hg
       simp only [World.cell?,hgd];simpa using hj
     · cases hj) (by rw [hdl,hcs];omega) (fun v hv=>h1 v (List.mem_of_mem_drop hv))
  rw [this,hc1]
 obtain ⟨W1,hW1⟩:∃ W1,w.drew.setRow g c1.toArray = W1:=⟨_,rfl⟩
 have hg1:W1.heap[g]? = some (.cells c1.toArray 85 (0,0)):=by rw [← hW1];exact setRow_at hg
 have hvb1:W1.heap[vb]? = w.heap[vb]?:=by rw [← hW1];exact setRow_other w.drew g vb _ (fun e=>hne e)
 have hcp2:∀ ty dc,(Builtin.copy_ #[22,22] ty #[.slice (some ⟨g,i * 3,none⟩) (n + 1 - i) dc, .slice (some ⟨vb,0,none⟩) 1 1]).run Tryz.prog W1 = .ok (goInt (1:Nat)) (W1.setRow g (c1.take (i * 3) ++ [x,y,z] ++ c1.drop (i * 3 + [x,y,z].length)).toArray):=fun ty dc=>by
  have:=run_copy_rowK (P:=Tryz.prog) W1 22 22 ty 85 3 g (i * 3) (n + 1 - i) dc 1 ⟨vb,0,none⟩ 1 1 c1.toArray 85 [x,y,z] Tryz.underlying22 hsz hg1 (by simp only [Nat.min_def];split <;> omega) rfl
   (fun j v hj=>hnews j v hj W1 hvb1) (by simp [k3];omega) h1v
  simpa using this
 rw [hW1] at hcp1
 obtain ⟨c2,hc2⟩:∃ c2,c1.take (i * 3) ++ [x,y,z] ++ c1.drop (i * 3 + [x,y,z].length) = c2:=⟨_,rfl⟩
 rw [hc2] at hcp2 k1 k2
 have hin:¬ ((i:Int) = (n:Int)):=by omega
 have hle:¬ ((cap:Int) < (n:Int) + (1:Int)):=by omega
 have hb1:(0:Int) ≤ (i:Int) + (1:Int):=by omega
 have hii:(i:Int) ≤ (n:Int):=by omega
 have htn:((i:Int) + (1:Int)).toNat = i + 1:=by omega
 have hb2:¬ (cap = i + 1):=by omega
 have hb3:(i:Int) ≤ (n:Int) + (1:Int):=by omega
 have hb4:¬ (cap = i):=by omega
 have hgrw:w.grownBy (W1.setRow g c2.toArray) (some g):=by
  rw [← hW1]
  refine ⟨rfl,rfl,rfl,by simp [World.setRow],fun k hk hne'=>?_⟩
  exact (setRow_other _ g k _ (fun e=>hne' (by rw [e]))).trans (setRow_other _ g k _ (fun e=>hne' (by rw [e])))
 have hg2:(W1.setRow g c2.toArray).heap[g]? = some (.cells c2.toArray 85 (0,0)):=setRow_at hg1
 have mixed:Tryz.prog.follows Departure.mixedOrders = true:=by kernel_rfl
 have hw1:IntKind.i64.wrap ((i:Int) + (1:Int)) = (i:Int) + (1:Int):=by rw [IntKind.wrap_i64];omega
 have hb5:¬ (i + 1 = cap):=by omega
 go_enter Tryz.func205,Tryz.ntmps205
 go_wp2_with (first | simp only [hov] | fail)
 go_region_law_o (refine step_copyRow rfl _ _ 22 22 rfl _ _ (by simp [Act.eval,Act.put]) (by simp [Act.eval,Act.put]) (hcp1 _ _ _) ?_)
 go_wp2_with (at_builtin;refine wpList_copyRow rfl _ _ 22 22 rfl _ _ rfl rfl (hcp2 _ _) ?_)
 go_ret
 exact ⟨some ⟨g,0,none⟩,cap,rfl,⟨by simp [hcl];omega, .inr ⟨g,cap,c2.toArray,rfl,hbg,hg2,hroom,by unfold maxLen;omega,by simpa using k2,by simpa using k1⟩⟩,hgrw,fun g' hg' => .inl hg'⟩
theorem ins_grow (g n i cap:Nat) (cur:Array Value) (cs:List Value) (x y z:Value) (vb B:Nat) (w:World) (hi:i < n) (hbg:B ≤ w.heap.size) (hg:w.heap[g]? = some (.cells cur 85 (0,0))) (hnc:n ≤ cap) (hroom:cap < n + 1) (hcs:cur.size = cap * 3) (htk:cur.toList.take (n * 3) = cs) (hn:n ≤ 1000)
 (hvb:w.heap[vb]? = some (.cells #[x,y,z] 85 (0,0))) (h1:∀ u ∈ cs,u.oneCell' = true) (h1v:∀ u ∈ [x,y,z],u.oneCell' = true) :
 Calls Tryz.prog 205 #[.slice (some ⟨g,0,none⟩) n cap, .int .i64 i, .slice (some ⟨vb,0,none⟩) 1 1] w (InsR (.slice (some ⟨g,0,none⟩) n cap) n i cs [x,y,z] B w):=by
 obtain ⟨i0,hi0,hz0,hz1,hz2⟩:=info_parts Tryz.info85j
 have hsz:(Tryz.prog.info? 85).map (·.size) = some 3:=by rw [hi0];simp [hz1]
 have hgw:g < w.heap.size:=(Array.getElem?_eq_some_iff.1 hg).1
 have hvw:vb < w.heap.size:=(Array.getElem?_eq_some_iff.1 hvb).1
 have hcl:cs.length = n * 3:=by rw [← htk,List.length_take,Array.length_toList,hcs];omega
 have hdl:(cs.drop (i * 3)).length = 3 * (n - i):=by rw [List.length_drop,hcl];omega
 have hcell:∀ (j:Nat) (u:Value),cs[j]? = some u→∀ W:World,W.heap[g]? = w.heap[g]?→W.cell? ⟨g,j,none⟩ = some u:=fun j u hj W hW=>by
  rw [← htk,List.getElem?_take] at hj
  split at hj
  · simp only [World.cell?,hW,hg];simpa using hj
  · cases hj
 have hold:(Builtin.firstCells i0.size i (.slice (some ⟨g,0,none⟩) i cap)).run Tryz.prog w.drew = .ok (cs.take (i * 3)).toArray w.drew:=by
  rw [hz1]
  exact run_firstCells_some w.drew 3 i ⟨g,0,none⟩ i cap (cs.take (i * 3)) (by rw [List.length_take];omega) (fun j v hj=>by
   rw [Addr.add_lit]
   rw [List.getElem?_take] at hj
   split at hj
   · rw [Nat.zero_add];exact hcell j v hj _ rfl
   · cases hj)
 obtain ⟨G,hG⟩:∃ G,G = grownCap w (n + 1) cap 85:=⟨_,rfl⟩
 obtain ⟨zs,hzs⟩:∃ zs:List Value,zs = (Builtin.zeroCells (Value.agg #[.string ByteArray.empty, .slice none 0 0, .slice none 0 0]).cells (n + 1 - i) ++ Builtin.zeroCells (Value.agg #[.string ByteArray.empty, .slice none 0 0, .slice none 0 0]).cells (G - (n + 1))).toList:=⟨_,rfl⟩
 have hGn:n + 1 ≤ G:=by rw [hG];exact grownCap_ge w _ _ _
 have hG63:G ≤ 9223372036854775807:=by
  have:=grownCap_le_maxLen w (n + 1) cap 85 (by unfold maxLen;omega)
  rw [← hG] at this
  unfold maxLen at this
  omega
 have hc3:(Value.agg #[.string ByteArray.empty, .slice none 0 0, .slice none 0 0]).cells.size = 3:=rfl
 have hzl:zs.length = (n + 1 - i) * 3 + (G - (n + 1)) * 3:=by
  rw [hzs,Array.length_toList,Array.size_append]
  simp only [Builtin.zeroCells,Array.size_map,Array.size_range,hc3]
 obtain ⟨r0,hr0⟩:∃ r0,r0 = cs.take (i * 3) ++ zs:=⟨_,rfl⟩
 have hrl:r0.length = G * 3:=by rw [hr0,List.length_append,List.length_take,hzl];omega
 obtain ⟨c1,hc1⟩:∃ c1,c1 = r0.take (i * 3) ++ [x,y,z] ++ r0.drop (i * 3 + [x,y,z].length):=⟨_,rfl⟩
 obtain ⟨k1,k2,k3⟩:=ins_cells2 (n:=n) (k:=3) rfl hcl (Nat.le_of_lt hi) hr0 (by rw [hzl];omega) hc1
 have hik:i + (n + 1 - i) = n + 1:=by omega
 have hrz:∀ ty,(Builtin.append_ #[22,3] ty #[.slice (some ⟨g,0,none⟩) i cap, .int .i64 ((n:Int) + (1:Int) - (i:Int))]).run Tryz.prog w = .ok (.slice (some ⟨w.heap.size,0,none⟩) (n + 1) G) (w.drew.alloc (.cells r0.toArray 85)):=fun ty=>by
  have h:=Lib.run_append_grow_zeros (P:=Tryz.prog) w 22 3 ty 85 i0 _ .i64 .i64 Tryz.underlying22 Tryz.underlying3 hi0 hz0 (some ⟨g,0,none⟩) i cap (cs.take (i * 3)) hold (n + 1 - i) (by omega) (by omega) (by omega) (by omega) (by rw [hz2];omega) (by rw [hz2,hik];exact growslice_fits hroom (by omega))
  rw [hik,← hG] at h
  rw [show (n:Int) + (1:Int) - (i:Int) = ((n + 1 - i:Nat):Int) by omega,h,hr0,hzs]
  refine congrArg (fun r=>Result.ok _ (w.drew.alloc (.cells r 85))) ?_
  apply Array.ext'
  simp
 obtain ⟨W1,hW1⟩:∃ W1,w.drew.alloc (.cells r0.toArray 85) = W1:=⟨_,rfl⟩
 have hn1:W1.heap[w.heap.size]? = some (.cells r0.toArray 85 (0,0)):=by rw [← hW1];exact heap_alloc_new w.drew _
 have hg1:W1.heap[g]? = w.heap[g]?:=by rw [← hW1];exact heap_alloc_old w.drew _ hgw
 have hv1:W1.heap[vb]? = w.heap[vb]?:=by rw [← hW1];exact heap_alloc_old w.drew _ hvw
 have hb1:Below w.heap.size w W1:=by rw [← hW1];exact (Below.refl _ _).drew.alloc (nl_ _) _
 rw [hW1] at hrz
 have hcp1:∀ (W:World),W.heap = W1.heap→∀ ty dc,(Builtin.copy_ #[22,22] ty #[.slice (some ⟨w.heap.size,i * 3,none⟩) (n + 1 - i) dc, .slice (some ⟨vb,0,none⟩) 1 1]).run Tryz.prog W = .ok (goInt (1:Nat)) (W.setRow w.heap.size c1.toArray):=fun W hW ty dc=>by
  have:=run_copy_rowK (P:=Tryz.prog) W 22 22 ty 85 3 w.heap.size (i * 3) (n + 1 - i) dc 1 ⟨vb,0,none⟩ 1 1 r0.toArray 85 [x,y,z] Tryz.underlying22 hsz (by rw [hW];exact hn1) (by simp only [Nat.min_def];split <;> omega) rfl
   (fun j v hj=>World.news_of_block (w:=W) (cs:=#[x,y,z]) (t:=85) (fr:=(0,0)) (by rw [hW,hv1];exact hvb) j v hj) (by simp [hrl];omega) h1v
  rw [this,hc1]
 obtain ⟨W2,hW2⟩:∃ W2,W1.setRow w.heap.size c1.toArray = W2:=⟨_,rfl⟩
 have hn2:W2.heap[w.heap.size]? = some (.cells c1.toArray 85 (0,0)):=by rw [← hW2];exact setRow_at hn1
 have hg2:W2.heap[g]? = w.heap[g]?:=by rw [← hW2];exact (setRow_other W1 _ g _ (by omega)).trans hg1
 have hb2:Below w.heap.size w W2:=by rw [← hW2];exact setRow_below hb1 (nl_ _) _
 have hcp2:∀ ty dc sc,(Builtin.copy_ #[22,22] ty #[.slice (some ⟨w.heap.size,(i + 1) * 3,none⟩) (n - i) dc, .slice (some ⟨g,i * 3,none⟩) (n - i) sc]).run Tryz.prog W2.drew = .ok (goInt (n - i:Nat)) (W2.drew.setRow w.heap.size (c1.take ((i + 1) * 3) ++ cs.drop (i * 3) ++ c1.drop ((i + 1) * 3 + (cs.drop (i * 3)).length)).toArray):=fun ty dc sc=>by
  have:=run_copy_rowK (P:=Tryz.prog) W2.drew 22 22 ty 85 3 w.heap.size ((i + 1) * 3) (n - i) dc (n - i) ⟨g,i * 3,none⟩ (n - i) sc c1.toArray 85 (cs.drop (i * 3)) Tryz.underlying22 hsz hn2 (Nat.min_self _).symm hdl
   (fun j v hj=>by
     rw [Addr.add_lit]
     rw [List.getElem?_drop] at hj
     exact hcell _ v hj W2.drew hg2) (by simp [k3,hrl];omega) (fun v hv=>h1 v (List.mem_of_mem_drop hv))
  simpa using this
 obtain ⟨c2,hc2⟩:∃ c2,c1.take ((i + 1) * 3) ++ cs.drop (i * 3) ++ c1.drop ((i + 1) * 3 + (cs.drop (i * 3)).length) = c2:=⟨_,rfl⟩
 rw [hc2] at hcp2 k1 k2
 have hn3:(W2.drew.setRow w.heap.size c2.toArray).heap[w.heap.size]? = some (.cells c2.toArray 85 (0,0)):=setRow_at hn2
 have hb3:Below w.heap.size w (W2.drew.setRow w.heap.size c2.toArray):=setRow_below hb2.drew (nl_ _) _
 have hin:¬ ((i:Int) = (n:Int)):=by omega
 have hlt:(cap:Int) < (n:Int) + (1:Int):=by omega
 have hb1:(0:Int) ≤ (i:Int) + (1:Int):=by omega
 have hii:(i:Int) ≤ (n:Int):=by omega
 have hic:(i:Int) ≤ (cap:Int):=by omega
 have htn:((i:Int) + (1:Int)).toNat = i + 1:=by omega
 have hb2':¬ (G = i + 1):=by omega
 have hb3':(i:Int) ≤ (n:Int) + (1:Int):=by omega
 have hb4:¬ (cap = i):=by omega
 have hb5:¬ (i + 1 = G):=by omega
 have hb6:¬ (G = i):=by omega
 have mixed:Tryz.prog.follows Departure.mixedOrders = true:=by kernel_rfl
 have hw1:IntKind.i64.wrap ((i:Int) + (1:Int)) = (i:Int) + (1:Int):=by rw [IntKind.wrap_i64];omega
 have hE:∀ W:World,W.drew.heap = W.heap:=fun _=>rfl
 clear hcell hold hG hzs hr0 hc1 hc2
 go_enter Tryz.func205,Tryz.ntmps205
 go_wp2_with (first
  | (at_builtin;refine Lib.wpList_append_run _ rfl _ _ _ _ rfl _ _ rfl rfl _ _ (hrz _) ?_)
  | (at_builtin;refine wpList_copyRow rfl _ _ 22 22 rfl _ _ rfl rfl (hcp1 _ rfl _ _) ?_))
 go_region_law_o (refine step_copyRow rfl _ _ 22 22 rfl _ _ (by simp [Act.eval,Act.put]) (by simp [Act.eval,Act.put]) (hcp2 _ _ _) ?_)
 go_wp2
 go_ret
 exact ⟨some ⟨w.heap.size,0,none⟩,G,rfl,⟨by simp [hcl];omega, .inr ⟨w.heap.size,G,c2.toArray,rfl,hbg,hn3,hGn,by unfold maxLen;omega,by simpa [hrl] using k2,by simpa using k1⟩⟩,⟨hb3.os,hb3.tape,hb3.output,hb3.size,fun k hk _=>hb3.block k hk⟩,fun g' hg' => .inr (by simpa [Value.ownBlock] using hg'.symm)⟩
theorem ins_any (v:Value) (n i:Nat) (cs:List Value) (x y z:Value) (vb B:Nat) (w:World) (hown:w.ownsRow B 85 3 v n cs) (hi:i ≤ n) (hvb:w.heap[vb]? = some (.cells #[x,y,z] 85 (0,0))) (hne:v.ownBlock ≠ some vb)
 (h1:∀ u ∈ cs,u.oneCell' = true) (h1v:∀ u ∈ [x,y,z],u.oneCell' = true) (hn:n ≤ 1000) (hB:B ≤ w.heap.size) :
 Calls Tryz.prog 205 #[v, .int .i64 i, .slice (some ⟨vb,0,none⟩) 1 1] w (InsR v n i cs [x,y,z] B w):=by
 by_cases hin:i = n
 · subst hin
   exact ins_end v i cs x y z vb B w hown hvb h1v hn hB
 · rcases hown.2 with ⟨rfl,rfl⟩ | ⟨g,cap,cur,rfl,hbg,hg,hnc,hcap,hcs,htk⟩
   · omega
   · by_cases hroom:n + 1 ≤ cap
     · exact ins_room g n i cap cur cs x y z vb B w (by omega) hbg hg hroom hcap hcs htk hvb (fun e=>hne (by rw [e];rfl)) h1 h1v
     · exact ins_grow g n i cap cur cs x y z vb B w (by omega) hB hg hnc (by omega) hcs htk hn hvb h1 h1v
end Go.Proofs.LF
namespace Go.Proofs.LF
open Go.RowKit
set_option maxHeartbeats 1000000
set_option maxRecDepth 100000
attribute [local go_sem] bs_toList bs_size
theorem count_any (m:Nat):∀ (y:Fo) (d:Int) (a:Option Addr) (c:Nat) (S:Nat→Prop) (w:World),y.cnt < m→0 ≤ d→d ≤ 9→FSl S w (.slice a y.len c) y→(∀ b,S b→b < w.heap.size) →
 Calls Tryz.prog 84 #[.slice a y.len c, .int .i64 d] w fun e w'=>e = .returned (.int .i64 (cntG d 0 y))∧Below w.heap.size w w':=by
 induction m with
 | zero=>intro y _ _ _ _ _ h;omega
 | succ m ih=>
 intro y d a c S w hcnt h0 h9 hv hS
 obtain ⟨_,_,he,hc,hm,hat⟩:=hv.at
 cases he
 have IH:=hid ih
 clear ih
 unfold maxLen at hm
 go_enter Tryz.func84,Tryz.ntmps84
 go_wp2_with fail
 go_loopw [5,10] (fun v i wr=>∃ (k:Nat) (n:Int),k ≤ y.len∧i = .int .i64 k∧v = .int .i64 n∧0 ≤ n∧n ≤ 3000∧Hid (cntG d 0 y = cntG d n (y.drop k))∧Below w.heap.size w wr) (fun _ i _=>y.len - (intOf i).toNat)
 case atStart=>exact ⟨0,0,by omega,rfl,rfl,by omega,by omega,rfl,Below.refl _ _⟩
 case round=>
  obtain ⟨k,n,hk,rfl,rfl,hn0,hn1,H2,hB⟩:=hrel
  have HAT:=hid hat
  clear hat
  by_cases hlt:k < y.len
  · obtain ⟨g,o,nm,l,s,r,an,cn,ab,cb,rfl,hg1,hd,hc0,hc1,hc2,hI,hF⟩:=HAT.out k hlt
    have ha:Agree S w wr:=Ag_b hB hS
    have c0:=ha.cell hg1 hc0
    have c1:=ha.cell hg1 hc1
    have c2:=ha.cell hg1 hc2
    have s5:=Fo.cnt_at hd
    have HD:=hid hd
    have hsz:=hB.size
    have hcap:=(SlC.caps hI).1
    have hcap2:=(SlC.caps hI).2.1
    clear hc0 hc1 hc2 hd
    have H3:Hid (cntG d 0 y = if 8 < d ∨ 80 < n ∨ 8 < (l.length:Int) ∨ 20 < (nm.length:Int) then 1000 else cntG d (n + (1 + cntG (d + 1) 0 s)) (y.drop (k + 1))):=by
     rw [Hid,H2.out,HD.out,Fo.drop_succ HD.out];rfl
    by_cases h1:8 < d ∨ 80 < n ∨ 8 < (l.length:Int) ∨ 20 < (nm.length:Int)
    · have H4:=hid (H3.out.trans (if_pos h1))
      by_cases t1:8 < d
      · clear h1
        go_wp2_with fail
        go_ret
        exact ⟨ret_int H4.out.symm,hB.alloc hsz _⟩
      · by_cases t2:80 < n
        · clear h1
          go_wp2_with fail
          go_ret
          exact ⟨ret_int H4.out.symm,hB.alloc hsz _⟩
        · by_cases t3:8 < (l.length:Int)
          · clear h1
            go_wp2_with fail
            go_ret
            exact ⟨ret_int H4.out.symm,hB.alloc hsz _⟩
          · have t4:20 < (nm.length:Int):=by omega
            clear h1
            go_wp2_with fail
            go_ret
            exact ⟨ret_int H4.out.symm,hB.alloc hsz _⟩
    · have H4:=hid (H3.out.trans (if_neg h1))
      have t1:¬ 8 < d:=by omega
      have t2:¬ 80 < n:=by omega
      have t3:¬ 8 < (l.length:Int):=by omega
      have t4:¬ 20 < (nm.length:Int):=by omega
      clear h1
      have hcb:=cntG_sub s d h0 (by omega)
      obtain ⟨hcb1,hcb2⟩:=hcb
      go_wp2_with fail
      refine (IH.out s (d + 1) ab cb S _ (by omega) (by omega) (by omega) (hF.agree (Ag_b (B:=w.heap.size) (hB.alloc hsz _) hS)) ?_).mono ?_
      · intro b hb;have:=hS b hb;simp;omega
      · rintro e w1 ⟨rfl,hb1⟩
        go_wp2_with fail
        go_roundw
        case rel=>exact ⟨k + 1,n + (1 + cntG (d + 1) 0 s),by omega,by go_num,rfl,by omega,by omega,H4.out,(hB.alloc hsz _).trans (hb1.mono (by simp;omega))⟩
        case measure=>simp [intOf];omega
  · go_wp2_with fail
    go_ret
    obtain rfl:k = y.len:=by omega
    exact ⟨ret_int (by rw [H2.out,Fo.drop_len];rfl),hB⟩
theorem deep_any (y:Fo) (a:Option Addr) (c:Nat) (S:Nat→Prop) (w:World) (hv:FSl S w (.slice a y.len c) y) (hS:∀ b,S b→b < w.heap.size) :
 Calls Tryz.prog 17 #[.slice a y.len c, .int .i64 0] w fun e w'=>e = .returned (.bool (decide (80 < cntG 0 0 y)))∧Below w.heap.size w w':=by
 go_enter Tryz.func17,Tryz.ntmps17
 go_wp2_with fail
 refine (count_any (y.cnt + 1) y 0 a c S w (by omega) (by omega) (by omega) hv hS).mono ?_
 rintro e w1 ⟨rfl,hb1⟩
 go_wp2_with fail
 go_ret
 exact ⟨rfl,hb1⟩
theorem many_any (m:Nat):∀ (y:Fo) (most:Int) (a:Option Addr) (c:Nat) (S:Nat→Prop) (w:World),y.cnt < m→0 ≤ most→most ≤ 100→FSl S w (.slice a y.len c) y→(∀ b,S b→b < w.heap.size) →
 Calls Tryz.prog 86 #[.slice a y.len c, .int .i64 most] w fun e w'=>e = .returned (.int .i64 (many y most))∧w = w':=by
 induction m with
 | zero=>intro y _ _ _ _ _ h;omega
 | succ m ih=>
 intro y most a c S w hcnt h0 h9 hv hS
 obtain ⟨_,_,he,hc,hm,hat⟩:=hv.at
 cases he
 have IH:=hid ih
 clear ih
 unfold maxLen at hm
 go_enter Tryz.func86,Tryz.ntmps86
 go_wp2_with fail
 go_loop [5,6] (fun v i=>∃ (k:Nat) (n:Int),k ≤ y.len∧i = .int .i64 k∧v = .int .i64 n∧0 ≤ n∧n ≤ most + 2∧Hid (manyG most 0 y = manyG most n (y.drop k))) (fun _ i=>y.len - (intOf i).toNat)
 case atStart=>exact ⟨0,0,by omega,rfl,rfl,by omega,by omega,rfl⟩
 case round=>
  obtain ⟨k,n,hk,rfl,rfl,hn0,hn1,H2⟩:=hrel
  have HAT:=hid hat
  clear hat
  by_cases hlt:k < y.len
  · obtain ⟨g,o,nm,l,s,r,an,cn,ab,cb,rfl,hg1,hd,hc0,hc1,hc2,hI,hF⟩:=HAT.out k hlt
    have s5:=Fo.cnt_at hd
    have HD:=hid hd
    clear hd
    have H3:Hid (manyG most 0 y = if n ≤ most then manyG most (n + 1 + many s (most - n)) (y.drop (k + 1)) else n):=by
     rw [Hid,H2.out,HD.out,Fo.drop_succ HD.out];rfl
    by_cases h1:n ≤ most
    · have H4:=hid (H3.out.trans (if_pos h1))
      obtain ⟨hb1,hb2⟩:=many_bound s (most - n) (by omega)
      go_wp2_with fail
      refine (IH.out s (most - n) ab cb S _ (by omega) (by omega) (by omega) hF hS).mono ?_
      rintro e w1 ⟨rfl,rfl⟩
      go_wp2_with fail
      go_round
      case rel=>exact ⟨k + 1,n + 1 + many s (most - n),by omega,by go_num,rfl,by omega,by omega,H4.out⟩
      case measure=>simp [intOf];omega
    · have H4:=hid (H3.out.trans (if_neg h1))
      go_wp2_with fail
      all_goals
       go_ret
       exact ⟨ret_int (by unfold many;rw [H4.out] <;> omega),rfl⟩
  · go_wp2_with fail
    all_goals
     go_ret
     obtain rfl:k = y.len:=by omega
     exact ⟨ret_int (by unfold many;rw [H2.out,Fo.drop_len];simp only [manyG] <;> omega),rfl⟩
end Go.Proofs.LF
namespace Go.Proofs.LF
theorem toFo_app (g:Fl→Fo) (d:Nat):∀ (l m:List Fl),toFo g d (l ++ m) = (toFo g d l).app (toFo g d m)
 | [],_=>rfl
 | x :: l,m=>by simp only [List.cons_append,toFo,Fo.app,toFo_app g d l m]
theorem toFo_len (g:Fl→Fo) (d:Nat):∀ (l:List Fl),(toFo g d l).len = l.length
 | []=>rfl
 | x :: l=>by simp only [toFo,Fo.len,toFo_len g d l,List.length_cons]
theorem ch_take_yes {L:List Fl} {u:List Ky} {k:Nat} {x:Fl} (hk:k < L.length) (hx:L[k] = x) (h:isCh u x = true):(L.take (k + 1)).filter (isCh u) = (L.take k).filter (isCh u) ++ [x]:=by
 rw [List.take_succ_eq_append_getElem hk,hx,List.filter_append];simp [h]
theorem ch_take_no {L:List Fl} {u:List Ky} {k:Nat} {x:Fl} (hk:k < L.length) (hx:L[k] = x) (h:isCh u x = false):(L.take (k + 1)).filter (isCh u) = (L.take k).filter (isCh u):=by
 rw [List.take_succ_eq_append_getElem hk,hx,List.filter_append];simp [h]
theorem treR_zero {L:List Fl} {u:List Ky} (h:∀ x ∈ L,x.p.length ≤ u.length):toFo (fun x=>treR 0 L x.p) u.length (L.filter (isCh u)) = .nil:=by
 rw [filter_no fun x hx=>?_]
 · rfl
 · have:=h x hx
   unfold isCh
   rw [decide_eq_false (by omega)];rfl
end Go.Proofs.LF
