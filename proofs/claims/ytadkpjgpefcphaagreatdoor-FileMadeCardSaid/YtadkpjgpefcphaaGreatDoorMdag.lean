/- Parts of the proof of a law of layer 11 (file): LfIdx. The conditions stand in each theorem. -/
import Derived.BigQuiet
import Derived.Deep.AppendLies
import Derived.Deep.QuietTactic
import Derived.Deep.RegionHeld3
import Derived.Laws.ResultCell
import Derived.Outline
import Derived.Test.YtadkpjgpefcphaaGreatDoorProg
import Derived.WalkKit
import Derived.WalkLawsBesides
import Derived.WalkSpells
import Derived.Test.YtadkpjgpefcphaaGreatDoorMdaf
set_option linter.all false
set_option linter.unusedVariables false
set_option linter.unusedSimpArgs false
namespace Go.Proofs.LF
open Go.RowKit
set_option maxHeartbeats 1000000
set_option maxRecDepth 100000
attribute [local go_sem] bs_toList
def elemV (k : Nat) (cs : List Value) (i : Nat) : Value := if k = 1 then cs.getD i undef else .agg ((List.range k).map fun j => cs.getD (i * k + j) undef).toArray
def Enters (g : Nat) : Prop := ∀ (args : Array Value) (W : World), Sem.run Tryz.prog (callFunc g args) W = .ok (.enter g args) W
def PredC (g : Nat) (caps : List Value) (w : World) (args : List Value) (b : Bool) : Prop :=
  ∀ W, Below w.heap.size w W → Calls Tryz.prog g (args ++ caps).toArray W fun e w' => e = .returned (.bool b) ∧ Below W.heap.size W w'
theorem getD_of_lt {l : List Value} {i : Nat} (h : i < l.length) : l[i]? = some (l.getD i undef) := by
  rw [List.getD_eq_getElem?_getD, List.getElem?_eq_getElem h]; rfl
theorem idx_int (g : Nat) (hE : Enters g) (p : Nat → Bool) (caps : List Value) (n : Nat) (a : Option Addr) (c : Nat) (cs : List Value) (S : Nat → Prop) (w : World) (hl : SlC S w 1 (.slice a n c) n cs) (hS : ∀ b, S b → b < w.heap.size) (hlen : n ≤ 100000)
    (hp : ∀ i, i < n → PredC g caps w [elemV 1 cs i] (p i)) :
    Calls Tryz.prog 242 #[.slice a n c, .func (.func g) #[] caps.toArray] w fun e w' => e = .returned (.int .i64 (idxN p n)) ∧ Below w.heap.size w w' := by
  have hE' : ∀ (args : Array Value) (W : World), Sem.run Tryz.prog (callFunc g args) W = .ok (.enter g args) W := hE
  clear hE
  go_enter Tryz.func242, Tryz.ntmps242
  go_wp2_with fail
  go_loopw [8] (fun i wr => ∃ k : Nat, k ≤ n ∧ i = .int .i64 k ∧ Hid (∀ j, j < k → p j = false) ∧ Below w.heap.size w wr) (fun i _ => n - (intOf i).toNat)
  case atStart => exact ⟨0, by omega, rfl, by intro j hj; omega, Below.refl _ _⟩
  case round =>
    obtain ⟨k, hk, rfl, H2, hB⟩ := hrel
    have HP := hid hp
    clear hp
    by_cases hlt : k < n
    · obtain ⟨g', o, rfl, hg, _, _, hcell⟩ := SlC.cells hl (by omega)
      have hx0 := (Agree.of_below (S := S) hB hS).cell hg (hcell k _ (getD_of_lt (by have := hl.1; omega)))
      clear hcell
      go_wp2_with fail
      refine (HP.out k hlt _ hB).mono ?_
      rintro e w' ⟨rfl, hb'⟩
      cases hpx : p k with
      | true =>
        have HX := hid hpx
        clear hpx
        go_wp2_with fail
        go_ret
        exact ⟨ret_int (idxN_found H2.out hlt HX.out).symm, hB.trans (hb'.mono hB.size)⟩
      | false =>
        have HX := hid hpx
        clear hpx
        go_wp2_with fail
        go_roundw
        case rel => exact ⟨k + 1, by omega, by go_num, fun j hj => by rcases Nat.lt_succ_iff_lt_or_eq.1 hj with h | h; exact H2.out j h; rw [h]; exact HX.out, hB.trans (hb'.mono hB.size)⟩
        case measure => simp [intOf]; omega
    · go_wp2_with fail
      go_ret
      obtain rfl : k = n := by omega
      exact ⟨ret_int (idxN_none H2.out).symm, hB⟩
theorem cont_int (g : Nat) (hE : Enters g) (p : Nat → Bool) (caps : List Value) (n : Nat) (a : Option Addr) (c : Nat) (cs : List Value) (S : Nat → Prop) (w : World) (hl : SlC S w 1 (.slice a n c) n cs) (hS : ∀ b, S b → b < w.heap.size) (hlen : n ≤ 100000)
    (hp : ∀ i, i < n → PredC g caps w [elemV 1 cs i] (p i)) :
    Calls Tryz.prog 208 #[.slice a n c, .func (.func g) #[] caps.toArray] w fun e w' => e = .returned (.bool (anyN p n)) ∧ Below w.heap.size w w' := by
  have HP := hid hp
  clear hp
  go_enter Tryz.func208, Tryz.ntmps208
  go_wp2_with fail
  refine (idx_int g hE p caps n a c cs S w hl hS hlen HP.out).mono ?_
  rintro e w' ⟨rfl, hb⟩
  go_wp2_with fail
  go_ret
  exact ⟨ret_bool (idxN_any p n), hb⟩
theorem idx_flat (g : Nat) (hE : Enters g) (p : Nat → Bool) (caps : List Value) (n : Nat) (a : Option Addr) (c : Nat) (cs : List Value) (S : Nat → Prop) (w : World) (hl : SlC S w 2 (.slice a n c) n cs) (hS : ∀ b, S b → b < w.heap.size) (hlen : n ≤ 100000)
    (hp : ∀ i, i < n → PredC g caps w [elemV 2 cs i] (p i)) :
    Calls Tryz.prog 101 #[.slice a n c, .func (.func g) #[] caps.toArray] w fun e w' => e = .returned (.int .i64 (idxN p n)) ∧ Below w.heap.size w w' := by
  have hE' : ∀ (args : Array Value) (W : World), Sem.run Tryz.prog (callFunc g args) W = .ok (.enter g args) W := hE
  clear hE
  go_enter Tryz.func101, Tryz.ntmps101
  go_wp2_with fail
  go_loopw [8] (fun i wr => ∃ k : Nat, k ≤ n ∧ i = .int .i64 k ∧ Hid (∀ j, j < k → p j = false) ∧ Below w.heap.size w wr) (fun i _ => n - (intOf i).toNat)
  case atStart => exact ⟨0, by omega, rfl, by intro j hj; omega, Below.refl _ _⟩
  case round =>
    obtain ⟨k, hk, rfl, H2, hB⟩ := hrel
    have HP := hid hp
    clear hp
    by_cases hlt : k < n
    · obtain ⟨g', o, rfl, hg, _, _, hcell⟩ := SlC.cells hl (by omega)
      have hx0 := (Agree.of_below (S := S) hB hS).cell hg (hcell (k * 2) _ (getD_of_lt (by have := hl.1; omega)))
      have hx1 := (Agree.of_below (S := S) hB hS).cell hg (hcell (k * 2 + 1) _ (getD_of_lt (by have := hl.1; omega)))
      simp only [← Nat.add_assoc] at hx1
      clear hcell
      go_wp2_with fail
      refine (HP.out k hlt _ hB).mono ?_
      rintro e w' ⟨rfl, hb'⟩
      cases hpx : p k with
      | true =>
        have HX := hid hpx
        clear hpx
        go_wp2_with fail
        go_ret
        exact ⟨ret_int (idxN_found H2.out hlt HX.out).symm, hB.trans (hb'.mono hB.size)⟩
      | false =>
        have HX := hid hpx
        clear hpx
        go_wp2_with fail
        go_roundw
        case rel => exact ⟨k + 1, by omega, by go_num, fun j hj => by rcases Nat.lt_succ_iff_lt_or_eq.1 hj with h | h; exact H2.out j h; rw [h]; exact HX.out, hB.trans (hb'.mono hB.size)⟩
        case measure => simp [intOf]; omega
    · go_wp2_with fail
      go_ret
      obtain rfl : k = n := by omega
      exact ⟨ret_int (idxN_none H2.out).symm, hB⟩
theorem idx_node (g : Nat) (hE : Enters g) (p : Nat → Bool) (caps : List Value) (n : Nat) (a : Option Addr) (c : Nat) (cs : List Value) (S : Nat → Prop) (w : World) (hl : SlC S w 3 (.slice a n c) n cs) (hS : ∀ b, S b → b < w.heap.size) (hlen : n ≤ 100000)
    (hp : ∀ i, i < n → PredC g caps w [elemV 3 cs i] (p i)) :
    Calls Tryz.prog 134 #[.slice a n c, .func (.func g) #[] caps.toArray] w fun e w' => e = .returned (.int .i64 (idxN p n)) ∧ Below w.heap.size w w' := by
  have hE' : ∀ (args : Array Value) (W : World), Sem.run Tryz.prog (callFunc g args) W = .ok (.enter g args) W := hE
  clear hE
  go_enter Tryz.func134, Tryz.ntmps134
  go_wp2_with fail
  go_loopw [8] (fun i wr => ∃ k : Nat, k ≤ n ∧ i = .int .i64 k ∧ Hid (∀ j, j < k → p j = false) ∧ Below w.heap.size w wr) (fun i _ => n - (intOf i).toNat)
  case atStart => exact ⟨0, by omega, rfl, by intro j hj; omega, Below.refl _ _⟩
  case round =>
    obtain ⟨k, hk, rfl, H2, hB⟩ := hrel
    have HP := hid hp
    clear hp
    by_cases hlt : k < n
    · obtain ⟨g', o, rfl, hg, _, _, hcell⟩ := SlC.cells hl (by omega)
      have hx0 := (Agree.of_below (S := S) hB hS).cell hg (hcell (k * 3) _ (getD_of_lt (by have := hl.1; omega)))
      have hx1 := (Agree.of_below (S := S) hB hS).cell hg (hcell (k * 3 + 1) _ (getD_of_lt (by have := hl.1; omega)))
      have hx2 := (Agree.of_below (S := S) hB hS).cell hg (hcell (k * 3 + 2) _ (getD_of_lt (by have := hl.1; omega)))
      simp only [← Nat.add_assoc] at hx1 hx2
      clear hcell
      go_wp2_with fail
      refine (HP.out k hlt _ hB).mono ?_
      rintro e w' ⟨rfl, hb'⟩
      cases hpx : p k with
      | true =>
        have HX := hid hpx
        clear hpx
        go_wp2_with fail
        go_ret
        exact ⟨ret_int (idxN_found H2.out hlt HX.out).symm, hB.trans (hb'.mono hB.size)⟩
      | false =>
        have HX := hid hpx
        clear hpx
        go_wp2_with fail
        go_roundw
        case rel => exact ⟨k + 1, by omega, by go_num, fun j hj => by rcases Nat.lt_succ_iff_lt_or_eq.1 hj with h | h; exact H2.out j h; rw [h]; exact HX.out, hB.trans (hb'.mono hB.size)⟩
        case measure => simp [intOf]; omega
    · go_wp2_with fail
      go_ret
      obtain rfl : k = n := by omega
      exact ⟨ret_int (idxN_none H2.out).symm, hB⟩
theorem idx_path (g : Nat) (hE : Enters g) (p : Nat → Bool) (caps : List Value) (n : Nat) (a : Option Addr) (c : Nat) (cs : List Value) (S : Nat → Prop) (w : World) (hl : SlC S w 1 (.slice a n c) n cs) (hS : ∀ b, S b → b < w.heap.size) (hlen : n ≤ 100000)
    (hp : ∀ i, i < n → PredC g caps w [elemV 1 cs i] (p i)) :
    Calls Tryz.prog 128 #[.slice a n c, .func (.func g) #[] caps.toArray] w fun e w' => e = .returned (.int .i64 (idxN p n)) ∧ Below w.heap.size w w' := by
  have hE' : ∀ (args : Array Value) (W : World), Sem.run Tryz.prog (callFunc g args) W = .ok (.enter g args) W := hE
  clear hE
  go_enter Tryz.func128, Tryz.ntmps128
  go_wp2_with fail
  go_loopw [8] (fun i wr => ∃ k : Nat, k ≤ n ∧ i = .int .i64 k ∧ Hid (∀ j, j < k → p j = false) ∧ Below w.heap.size w wr) (fun i _ => n - (intOf i).toNat)
  case atStart => exact ⟨0, by omega, rfl, by intro j hj; omega, Below.refl _ _⟩
  case round =>
    obtain ⟨k, hk, rfl, H2, hB⟩ := hrel
    have HP := hid hp
    clear hp
    by_cases hlt : k < n
    · obtain ⟨g', o, rfl, hg, _, _, hcell⟩ := SlC.cells hl (by omega)
      have hx0 := (Agree.of_below (S := S) hB hS).cell hg (hcell k _ (getD_of_lt (by have := hl.1; omega)))
      clear hcell
      go_wp2_with fail
      refine (HP.out k hlt _ hB).mono ?_
      rintro e w' ⟨rfl, hb'⟩
      cases hpx : p k with
      | true =>
        have HX := hid hpx
        clear hpx
        go_wp2_with fail
        go_ret
        exact ⟨ret_int (idxN_found H2.out hlt HX.out).symm, hB.trans (hb'.mono hB.size)⟩
      | false =>
        have HX := hid hpx
        clear hpx
        go_wp2_with fail
        go_roundw
        case rel => exact ⟨k + 1, by omega, by go_num, fun j hj => by rcases Nat.lt_succ_iff_lt_or_eq.1 hj with h | h; exact H2.out j h; rw [h]; exact HX.out, hB.trans (hb'.mono hB.size)⟩
        case measure => simp [intOf]; omega
    · go_wp2_with fail
      go_ret
      obtain rfl : k = n := by omega
      exact ⟨ret_int (idxN_none H2.out).symm, hB⟩
theorem cont_path (g : Nat) (hE : Enters g) (p : Nat → Bool) (caps : List Value) (n : Nat) (a : Option Addr) (c : Nat) (cs : List Value) (S : Nat → Prop) (w : World) (hl : SlC S w 1 (.slice a n c) n cs) (hS : ∀ b, S b → b < w.heap.size) (hlen : n ≤ 100000)
    (hp : ∀ i, i < n → PredC g caps w [elemV 1 cs i] (p i)) :
    Calls Tryz.prog 45 #[.slice a n c, .func (.func g) #[] caps.toArray] w fun e w' => e = .returned (.bool (anyN p n)) ∧ Below w.heap.size w w' := by
  have HP := hid hp
  clear hp
  go_enter Tryz.func45, Tryz.ntmps45
  go_wp2_with fail
  refine (idx_path g hE p caps n a c cs S w hl hS hlen HP.out).mono ?_
  rintro e w' ⟨rfl, hb⟩
  go_wp2_with fail
  go_ret
  exact ⟨ret_bool (idxN_any p n), hb⟩
theorem idx_key (g : Nat) (hE : Enters g) (p : Nat → Bool) (caps : List Value) (n : Nat) (a : Option Addr) (c : Nat) (cs : List Value) (S : Nat → Prop) (w : World) (hl : SlC S w 3 (.slice a n c) n cs) (hS : ∀ b, S b → b < w.heap.size) (hlen : n ≤ 100000)
    (hp : ∀ i, i < n → PredC g caps w [elemV 3 cs i] (p i)) :
    Calls Tryz.prog 139 #[.slice a n c, .func (.func g) #[] caps.toArray] w fun e w' => e = .returned (.int .i64 (idxN p n)) ∧ Below w.heap.size w w' := by
  have hE' : ∀ (args : Array Value) (W : World), Sem.run Tryz.prog (callFunc g args) W = .ok (.enter g args) W := hE
  clear hE
  go_enter Tryz.func139, Tryz.ntmps139
  go_wp2_with fail
  go_loopw [8] (fun i wr => ∃ k : Nat, k ≤ n ∧ i = .int .i64 k ∧ Hid (∀ j, j < k → p j = false) ∧ Below w.heap.size w wr) (fun i _ => n - (intOf i).toNat)
  case atStart => exact ⟨0, by omega, rfl, by intro j hj; omega, Below.refl _ _⟩
  case round =>
    obtain ⟨k, hk, rfl, H2, hB⟩ := hrel
    have HP := hid hp
    clear hp
    by_cases hlt : k < n
    · obtain ⟨g', o, rfl, hg, _, _, hcell⟩ := SlC.cells hl (by omega)
      have hx0 := (Agree.of_below (S := S) hB hS).cell hg (hcell (k * 3) _ (getD_of_lt (by have := hl.1; omega)))
      have hx1 := (Agree.of_below (S := S) hB hS).cell hg (hcell (k * 3 + 1) _ (getD_of_lt (by have := hl.1; omega)))
      have hx2 := (Agree.of_below (S := S) hB hS).cell hg (hcell (k * 3 + 2) _ (getD_of_lt (by have := hl.1; omega)))
      simp only [← Nat.add_assoc] at hx1 hx2
      clear hcell
      go_wp2_with fail
      refine (HP.out k hlt _ hB).mono ?_
      rintro e w' ⟨rfl, hb'⟩
      cases hpx : p k with
      | true =>
        have HX := hid hpx
        clear hpx
        go_wp2_with fail
        go_ret
        exact ⟨ret_int (idxN_found H2.out hlt HX.out).symm, hB.trans (hb'.mono hB.size)⟩
      | false =>
        have HX := hid hpx
        clear hpx
        go_wp2_with fail
        go_roundw
        case rel => exact ⟨k + 1, by omega, by go_num, fun j hj => by rcases Nat.lt_succ_iff_lt_or_eq.1 hj with h | h; exact H2.out j h; rw [h]; exact HX.out, hB.trans (hb'.mono hB.size)⟩
        case measure => simp [intOf]; omega
    · go_wp2_with fail
      go_ret
      obtain rfl : k = n := by omega
      exact ⟨ret_int (idxN_none H2.out).symm, hB⟩
theorem cont_key (g : Nat) (hE : Enters g) (p : Nat → Bool) (caps : List Value) (n : Nat) (a : Option Addr) (c : Nat) (cs : List Value) (S : Nat → Prop) (w : World) (hl : SlC S w 3 (.slice a n c) n cs) (hS : ∀ b, S b → b < w.heap.size) (hlen : n ≤ 100000)
    (hp : ∀ i, i < n → PredC g caps w [elemV 3 cs i] (p i)) :
    Calls Tryz.prog 53 #[.slice a n c, .func (.func g) #[] caps.toArray] w fun e w' => e = .returned (.bool (anyN p n)) ∧ Below w.heap.size w w' := by
  have HP := hid hp
  clear hp
  go_enter Tryz.func53, Tryz.ntmps53
  go_wp2_with fail
  refine (idx_key g hE p caps n a c cs S w hl hS hlen HP.out).mono ?_
  rintro e w' ⟨rfl, hb⟩
  go_wp2_with fail
  go_ret
  exact ⟨ret_bool (idxN_any p n), hb⟩
theorem idx_chg (g : Nat) (hE : Enters g) (p : Nat → Bool) (caps : List Value) (n : Nat) (a : Option Addr) (c : Nat) (cs : List Value) (S : Nat → Prop) (w : World) (hl : SlC S w 5 (.slice a n c) n cs) (hS : ∀ b, S b → b < w.heap.size) (hlen : n ≤ 100000)
    (hp : ∀ i, i < n → PredC g caps w [elemV 5 cs i] (p i)) :
    Calls Tryz.prog 77 #[.slice a n c, .func (.func g) #[] caps.toArray] w fun e w' => e = .returned (.int .i64 (idxN p n)) ∧ Below w.heap.size w w' := by
  have hE' : ∀ (args : Array Value) (W : World), Sem.run Tryz.prog (callFunc g args) W = .ok (.enter g args) W := hE
  clear hE
  go_enter Tryz.func77, Tryz.ntmps77
  go_wp2_with fail
  go_loopw [8] (fun i wr => ∃ k : Nat, k ≤ n ∧ i = .int .i64 k ∧ Hid (∀ j, j < k → p j = false) ∧ Below w.heap.size w wr) (fun i _ => n - (intOf i).toNat)
  case atStart => exact ⟨0, by omega, rfl, by intro j hj; omega, Below.refl _ _⟩
  case round =>
    obtain ⟨k, hk, rfl, H2, hB⟩ := hrel
    have HP := hid hp
    clear hp
    by_cases hlt : k < n
    · obtain ⟨g', o, rfl, hg, _, _, hcell⟩ := SlC.cells hl (by omega)
      have hx0 := (Agree.of_below (S := S) hB hS).cell hg (hcell (k * 5) _ (getD_of_lt (by have := hl.1; omega)))
      have hx1 := (Agree.of_below (S := S) hB hS).cell hg (hcell (k * 5 + 1) _ (getD_of_lt (by have := hl.1; omega)))
      have hx2 := (Agree.of_below (S := S) hB hS).cell hg (hcell (k * 5 + 2) _ (getD_of_lt (by have := hl.1; omega)))
      have hx3 := (Agree.of_below (S := S) hB hS).cell hg (hcell (k * 5 + 3) _ (getD_of_lt (by have := hl.1; omega)))
      have hx4 := (Agree.of_below (S := S) hB hS).cell hg (hcell (k * 5 + 4) _ (getD_of_lt (by have := hl.1; omega)))
      simp only [← Nat.add_assoc] at hx1 hx2 hx3 hx4
      clear hcell
      go_wp2_with fail
      refine (HP.out k hlt _ hB).mono ?_
      rintro e w' ⟨rfl, hb'⟩
      cases hpx : p k with
      | true =>
        have HX := hid hpx
        clear hpx
        go_wp2_with fail
        go_ret
        exact ⟨ret_int (idxN_found H2.out hlt HX.out).symm, hB.trans (hb'.mono hB.size)⟩
      | false =>
        have HX := hid hpx
        clear hpx
        go_wp2_with fail
        go_roundw
        case rel => exact ⟨k + 1, by omega, by go_num, fun j hj => by rcases Nat.lt_succ_iff_lt_or_eq.1 hj with h | h; exact H2.out j h; rw [h]; exact HX.out, hB.trans (hb'.mono hB.size)⟩
        case measure => simp [intOf]; omega
    · go_wp2_with fail
      go_ret
      obtain rfl : k = n := by omega
      exact ⟨ret_int (idxN_none H2.out).symm, hB⟩
theorem cont_chg (g : Nat) (hE : Enters g) (p : Nat → Bool) (caps : List Value) (n : Nat) (a : Option Addr) (c : Nat) (cs : List Value) (S : Nat → Prop) (w : World) (hl : SlC S w 5 (.slice a n c) n cs) (hS : ∀ b, S b → b < w.heap.size) (hlen : n ≤ 100000)
    (hp : ∀ i, i < n → PredC g caps w [elemV 5 cs i] (p i)) :
    Calls Tryz.prog 142 #[.slice a n c, .func (.func g) #[] caps.toArray] w fun e w' => e = .returned (.bool (anyN p n)) ∧ Below w.heap.size w w' := by
  have HP := hid hp
  clear hp
  go_enter Tryz.func142, Tryz.ntmps142
  go_wp2_with fail
  refine (idx_chg g hE p caps n a c cs S w hl hS hlen HP.out).mono ?_
  rintro e w' ⟨rfl, hb⟩
  go_wp2_with fail
  go_ret
  exact ⟨ret_bool (idxN_any p n), hb⟩
end Go.Proofs.LF
