/- Parts of the proof of a law of layer 11 (file): LfW3. The conditions stand in each theorem. -/
import Derived.BigQuiet
import Derived.Deep.AppendLies
import Derived.Deep.QuietTactic
import Derived.Deep.RegionHeld3
import Derived.Laws.RangeAny
import Derived.Laws.ResultCell
import Derived.Outline
import Derived.Test.YtadkpjgpefcphaaGreatDoorProg
import Derived.WalkKit
import Derived.WalkLawsBesides
import Derived.WalkSpells
import Derived.Test.YtadkpjgpefcphaaGreatDoorYrai
set_option linter.all false
set_option linter.unusedVariables false
set_option linter.unusedSimpArgs false
namespace Go.Proofs.LF
open Go.RowKit
set_option maxHeartbeats 1000000
set_option maxRecDepth 100000
attribute [local go_sem] bs_toList
theorem bs_get (s : List UInt8) (k : Nat) (h : k < s.length) : (bs s)[k]'(by rw [bs_size]; exact h) = s[k] := by
  show (bs s).data[k]'_ = _
  simp [bs]
theorem named_any (s : List UInt8) (w : World) (hlen : s.length ≤ 1000000) :
    Calls Tryz.prog 154 #[.string (bs s)] w fun e w' => e = .returned (.bool (!badNm s)) ∧ Below w.heap.size w w' := by
  go_enter Tryz.func154, Tryz.ntmps154
  go_wp2_with fail
  go_loopw [4] (fun _ wr => ∃ k : Nat, k ≤ s.length ∧ wr = w.iter (bs s) k ∧ Hid (∀ j (h : j < s.length), j < k → ¬ ((s[j].toNat : Int) < 97 ∨ 122 < (s[j].toNat : Int)))) (fun _ wr => s.length - wr.iterPos w.heap.size)
  case atStart => exact ⟨0, by omega, rfl, fun j _ h => by omega⟩
  case round =>
    obtain ⟨k, hk, rfl, H2⟩ := hrel
    have hb1 : Below w.heap.size w (w.iter (bs s) k) := (Below.refl _ _).alloc (Nat.le_refl _) _
    by_cases hlt : k < s.length
    · have hg := bs_get s k hlt
      by_cases hok : (s[k].toNat : Int) < 97 ∨ 122 < (s[k].toNat : Int)
      · have hbad : badNm s = true := by
          simp only [badNm, Bool.or_eq_true, List.any_eq_true]
          exact .inl (.inl ⟨s[k]'hlt, List.getElem_mem hlt, by simpa using hok⟩)
        have HB := hid hbad
        clear hbad
        have hsz : k < (bs s).size := by rw [bs_size]; exact hlt
        by_cases ha : s[k].toNat < 128
        · have hn := fun ty => run_next_ascii (P := Tryz.prog) w (bs s) k ty hsz (by rw [hg]; exact ha)
          rw [hg] at hn
          clear hg
          by_cases h97 : (s[k].toNat : Int) < 97
          · clear hok
            go_wp2_with fail
            go_ret
            exact ⟨ret_bool (by rw [HB.out]; rfl), (Below.refl _ _).alloc (Nat.le_refl _) _⟩
          · have h122 : 122 < (s[k].toNat : Int) := by omega
            clear hok
            go_wp2_with fail
            go_ret
            exact ⟨ret_bool (by rw [HB.out]; rfl), (Below.refl _ _).alloc (Nat.le_refl _) _⟩
        · have hn := fun ty => run_next_any (P := Tryz.prog) w (bs s) k ty hsz
          have hd := (decode_high (bs s) k hsz (by rw [hg]; omega)).1
          generalize (Utf8.decode (bs s) k).1 = dc at hn hd
          have hd1 : (122 : Int) < (dc : Int) := by omega
          have hd2 : ¬ (dc : Int) < 97 := by omega
          clear hg hok hd
          go_wp2_with fail
          go_ret
          exact ⟨ret_bool (by rw [HB.out]; rfl), (Below.refl _ _).alloc (Nat.le_refl _) _⟩
      · have hn := fun ty => run_next_ascii (P := Tryz.prog) w (bs s) k ty (by rw [bs_size]; exact hlt) (by rw [hg]; omega)
        rw [hg] at hn
        have h1 : ¬ (s[k].toNat : Int) < 97 := by omega
        have h2 : ¬ 122 < (s[k].toNat : Int) := by omega
        have HO := hid hok
        clear hg hok
        go_wp2_with fail
        go_roundw
        case rel => exact ⟨k + 1, by omega, rfl, fun j hj h => by rcases Nat.lt_succ_iff_lt_or_eq.1 h with h' | h'; exact H2.out j hj h'; subst h'; exact HO.out⟩
        case measure => simp; omega
    · have hn := fun ty => run_next_end (P := Tryz.prog) w (bs s) k ty (by rw [bs_size]; exact hlt)
      go_wp2_with (go_at_call 151; refine (in_any _ _ _ _).mono ?_; rintro e w' ⟨rfl, rfl⟩)
      go_ret
      refine ⟨ret_bool ?_, hb1⟩
      have : s.any (fun c => decide ((c.toNat : Int) < 97) || decide (122 < (c.toNat : Int))) = false := by
        rw [List.any_eq_false]
        intro c hc
        obtain ⟨j, hj, rfl⟩ := List.getElem_of_mem hc
        have := H2.out j hj (by omega)
        simpa using this
      simp only [badNm, this, inB, Bool.false_or, bs_size]
      rw [Bool.eq_iff_iff]; simp
theorem every1_int (g : Nat) (hE : Enters g) (caps : List Value) (x : Value) (b : Bool) (bx : Nat) (W : World) (hbx : W.cell? ⟨bx, 0, none⟩ = some (.func (.func g) #[] caps.toArray))
    (h : Calls Tryz.prog g (x :: caps).toArray W fun e w' => e = .returned (.bool b) ∧ Below W.heap.size W w') :
    Calls Tryz.prog 209 #[x, .pointer (some ⟨bx, 0, none⟩)] W fun e w' => e = .returned (.bool (!b)) ∧ Below W.heap.size W w' := by
  have hE' : ∀ (args : Array Value) (W : World), Sem.run Tryz.prog (callFunc g args) W = .ok (.enter g args) W := hE
  have H := hid h
  clear hE h
  go_enter Tryz.func209, Tryz.ntmps209
  go_wp2_with fail
  refine H.out.mono ?_
  rintro e w' ⟨rfl, hb⟩
  go_wp2_with fail
  go_ret
  exact ⟨rfl, hb⟩
theorem enters209 : Enters 209 := by
  intro args W
  simp [go_sem]
theorem enters156 : Enters 156 := by
  intro args W
  simp [go_sem]
def allN (p : Nat → Bool) (n : Nat) : Bool := !anyN (fun i => !p i) n
theorem every_int (g : Nat) (hE : Enters g) (p : Nat → Bool) (caps : List Value) (n : Nat) (a : Option Addr) (c : Nat) (cs : List Value) (S : Nat → Prop) (w : World) (hl : SlC S w 1 (.slice a n c) n cs) (hS : ∀ b, S b → b < w.heap.size) (hlen : n ≤ 100000)
    (hp : ∀ i, i < n → PredC g caps w [elemV 1 cs i] (p i)) :
    Calls Tryz.prog 157 #[.slice a n c, .func (.func g) #[] caps.toArray] w fun e w' => e = .returned (.bool (allN p n)) ∧ Below w.heap.size w w' := by
  have HP := hid hp
  clear hp
  go_enter Tryz.func157, Tryz.ntmps157
  go_wp2_with fail
  refine (cont_int 209 enters209 (fun i => !p i) [.pointer (some ⟨w.heap.size, 0, none⟩)] n a c cs S _ (SlC.agree hl (Agree.of_below (B := w.heap.size) ((Below.refl _ _).alloc (Nat.le_refl _) _) hS)) ?_ hlen ?_).mono ?_
  · intro b hb; have := hS b hb; simp; omega
  · intro i hi W hW
    refine every1_int g hE caps _ (p i) w.heap.size W (below_cell hW (by simp) (by simp)) (HP.out i hi W ?_)
    exact ((Below.refl _ _).alloc (Nat.le_refl _) _).trans (hW.mono (by simp))
  · rintro e w' ⟨rfl, hb⟩
    go_wp2_with fail
    go_ret
    exact ⟨rfl, ((Below.refl _ _).alloc (Nat.le_refl _) _).trans (hb.mono (by simp))⟩
theorem numbers_any (l : List Int) (an : Option Addr) (cn : Nat) (S : Nat → Prop) (w : World) (hl : Ints S w (.slice an l.length cn) l) (hS : ∀ b, S b → b < w.heap.size) (hlen : l.length ≤ 1000) :
    Calls Tryz.prog 157 #[.slice an l.length cn, .func (.func 156) #[] #[]] w fun e w' => e = .returned (.bool (!badNs l)) ∧ Below w.heap.size w w' := by
  refine (every_int 156 enters156 (fun i => inB (l.getD i 0) 0 9999) [] l.length an cn _ S w hl hS (by omega) ?_).mono ?_
  · intro i hi W hW
    have : elemV 1 (l.map (Value.int .i64)) i = .int .i64 (l.getD i 0) := by simp [elemV, hi]
    rw [this]
    exact (number_any _ W).mono fun e w' ⟨he, hw⟩ => ⟨he, by rw [← hw]; exact Below.refl _ _⟩
  · rintro e w' ⟨rfl, hb⟩
    refine ⟨ret_bool ?_, hb⟩
    unfold allN badNs
    rw [anyN_list (fun x => offB x 9999) _ l (fun i hi => by simp [hi, inB, offB]; rw [Bool.eq_iff_iff]; simp)]
end Go.Proofs.LF
