/- Parts of the proof of a law of layer 11 (file): LfW74. The conditions stand in each theorem. -/
import Derived.BigQuiet
import Derived.Deep.AppendLies
import Derived.Deep.Cut
import Derived.Deep.CutBlock
import Derived.Deep.CutRange
import Derived.Deep.QuietTactic
import Derived.Deep.RegionHeld3
import Derived.Laws.ResultCell
import Derived.Outline
import Derived.Test.YtadkpjgpefcphaaGreatDoorProg
import Derived.WalkKit
import Derived.WalkLawsBesides
import Derived.WalkSpells
import Derived.Test.YtadkpjgpefcphaaGreatDoorPual
import Derived.Test.YtadkpjgpefcphaaGreatDoorPubi
set_option linter.all false
set_option linter.unusedVariables false
set_option linter.unusedSimpArgs false
namespace Go.Proofs.LF
open Go.RowKit Go.Sort
set_option maxHeartbeats 4000000
set_option maxRecDepth 100000
attribute [local go_sem] bs_toList bs_size bs_get
theorem okF_cntG : ∀ (y : Fo) (d : Nat) (n : Int), OkF d y → 0 ≤ n → n + y.cnt ≤ 80 → cntG (d : Int) n y = n + y.cnt
  | .nil, _, _, _, _, _ => by simp [cntG, Fo.cnt]
  | .cons nm l s r, d, n, ⟨h1, h2, h3, _, h5, _, h7⟩, h0, h => by
    simp only [Fo.cnt] at h ⊢
    have hn := (nmz_ok nm h2).2
    have e1 : cntG ((d : Int) + 1) 0 s = s.cnt := by
      have := okF_cntG s (d + 1) 0 h5 (by omega) (by omega)
      rw [show ((d + 1 : Nat) : Int) = (d : Int) + 1 by omega] at this
      omega
    rw [cntG, if_neg (by omega), e1, okF_cntG r d _ h7 (by omega) (by omega)]
    omega
theorem okF_many {y : Fo} (h : OkF 0 y) : decide (60 < cntG 0 0 y) = decide (60 < y.cnt) := by
  by_cases hc : y.cnt ≤ 80
  · have := okF_cntG y 0 0 h (by omega) (by omega)
    rw [show ((0 : Nat) : Int) = 0 from rfl] at this
    rw [this]; congr 1; apply propext; omega
  · rw [decide_eq_true (show 60 < y.cnt by omega)]
    apply decide_eq_true
    rcases Int.lt_or_le 80 (cntG 0 0 y) with h1 | h1
    · omega
    · have := (cntG_small y 0 0 (by omega) h1).1
      omega
theorem fewY_any (y : Fo) (a : Option Addr) (c : Nat) (S : Nat → Prop) (w : World) (hok : OkF 0 y) (hc : y.cnt ≤ 800) (hy : FSl S w (.slice a y.len c) y) (hS : ∀ q, S q → q < w.heap.size) :
    Calls Tryz.prog 40 #[.slice a y.len c] w fun e w' => e = .returned (.bool (decide (60 < y.cnt))) ∧ Below w.heap.size w w' := by
  have CN := hid (count_any (y.cnt + 1) y 0 a c S w (Nat.lt_succ_self _) (by omega) (by omega) hy hS)
  have hln := len_cnt y
  have hsm := okF_sm y 0 hok (by omega)
  have CK : ∀ w1, Below w.heap.size w w1 → Calls Tryz.prog 23 #[.slice a y.len c] w1 fun e w' => e = .returned (.int .i64 (chkY y)) ∧ Below w1.heap.size w1 w' := fun w1 h => Check_any y a c S w1 (hy.agree (Agree.of_below h hS)) (fun q hq => by have := hS q hq; have := h.size; omega) (by omega) hsm (by omega)
  have hch := okF_chk hok
  have hmy := okF_many hok
  obtain ⟨N, hN⟩ : ∃ N, cntG 0 0 y = N := ⟨_, rfl⟩
  rw [hN] at CN hmy
  by_cases h60 : 60 < y.cnt
  · rw [if_neg (by omega)] at hch
    rw [decide_eq_true h60] at hmy ⊢
    have hN60 : (60 : Int) < N := by simpa using hmy
    rw [hch] at CK
    have CK := hid CK
    clear hy hS hok hsm hch hmy hN h60
    go_enter Tryz.func40, Tryz.ntmps40
    go_wp2_with fail
    refine CN.out.mono ?_
    rintro e w1 ⟨rfl, hb1⟩
    have HB := hid hb1
    have CK1 := hid (CK.out w1 hb1)
    clear hb1
    go_wp2_with fail
    refine CK1.out.mono ?_
    rintro e w2 ⟨rfl, hb2⟩
    go_wp2_with fail
    go_ret
    exact ⟨rfl, HB.out.trans (hb2.mono HB.out.size)⟩
  · rw [decide_eq_false h60] at hmy ⊢
    have hN60 : ¬ (60 : Int) < N := by simpa using hmy
    clear hy hS hok hsm hch hmy hN h60 CK
    go_enter Tryz.func40, Tryz.ntmps40
    go_wp2_with fail
    refine CN.out.mono ?_
    rintro e w1 ⟨rfl, hb1⟩
    go_wp2_with fail
    go_ret
    exact ⟨rfl, hb1⟩
end Go.Proofs.LF
