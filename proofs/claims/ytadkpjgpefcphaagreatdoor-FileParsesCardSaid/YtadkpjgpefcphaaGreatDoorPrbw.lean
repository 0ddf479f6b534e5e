/- Parts of the proof of a law of layer 11 (file): LfW58. The conditions stand in each theorem. -/
import Derived.BigQuiet
import Derived.Deep.AppendLies
import Derived.Deep.Cut
import Derived.Deep.CutBlock
import Derived.Deep.CutRange
import Derived.Deep.QuietTactic
import Derived.Deep.RegionHeld3
import Derived.Laws.ResultCell
import Derived.Outline
import Derived.Test.YtadkpjgpefcphaaGreatDoorProg
import Derived.WalkKit
import Derived.WalkLawsBesides
import Derived.WalkSpells
import Derived.Test.YtadkpjgpefcphaaGreatDoorPrap
import Derived.Test.YtadkpjgpefcphaaGreatDoorPrbu
import Derived.Test.YtadkpjgpefcphaaGreatDoorPrbv
set_option linter.all false
set_option linter.unusedVariables false
set_option linter.unusedSimpArgs false
namespace Go.Proofs.LF
open Go.RowKit Go.Sort
set_option maxHeartbeats 4000000
set_option maxRecDepth 100000
attribute [local go_sem] bs_toList bs_size bs_get
theorem Tree_all (L : List Fl) (a : Option Addr) (c : Nat) (ll : L.length ≤ 1000) (lx : ∀ x ∈ L, x.p.length ≤ 900 ∧ x.l.length ≤ 900) : ∀ (f : Nat) (u : List Ky) (ua : Option Addr) (uc : Nat), u.length ≤ 900 → (∀ x ∈ L, x.p.length ≤ u.length + f) → TreeC L u a c ua uc (treR f L u)
  | 0, u, ua, uc, lu, h => by
    have h0 := Tree_step L u (fun x => treR 0 L x.p) a c ua uc ll lx lu fun x hx hch => by
      have := h x hx
      simp only [isCh, Bool.and_eq_true, decide_eq_true_eq] at hch
      omega
    rwa [treR_zero (fun x hx => by have := h x hx; omega)] at h0
  | f + 1, u, ua, uc, lu, h => by
    refine Tree_step L u (fun x => treR f L x.p) a c ua uc ll lx lu fun x hx hch ap cp => ?_
    simp only [isCh, Bool.and_eq_true, decide_eq_true_eq] at hch
    exact Tree_all L a c ll lx f x.p ap cp (lx x hx).1 fun z hz => by have := h z hz; omega
theorem FileParses_any (t : List UInt8) (w : World) (ht : Pow w) : Calls Tryz.prog 4 #[.string (bs t)] w fun e w' => e = .returned (.bool true) ∧ Below w.heap.size w w' := by
  have HT := hid ht
  clear ht
  by_cases hl : 1500 < t.length
  · have hl' : (1500 : Int) < (t.length : Int) := by omega
    have AW := hid (awake_any w HT.out)
    go_enter Tryz.func4, Tryz.ntmps4
    go_wp2_with fail
    refine AW.out.mono ?_
    rintro e w2 ⟨rfl, hb2⟩
    go_wp2_with fail
    go_ret
    exact ⟨rfl, hb2⟩
  · have hl' : ¬ (1500 : Int) < (t.length : Int) := by omega
    have P1 := Parse_any t w (by omega)
    have R1 := fun w1 => RefParse_any t w1 (by omega)
    obtain ⟨e1, hinv⟩ := prs_refP t
    obtain ⟨b1, b2⟩ := prs_bd t
    have htr := tree_prs t
    have hy : prsY t = if (prs t).2.2.2 = 0 then (treF 0 (prs t).1).1 else .nil := rfl
    rw [← e1] at R1
    obtain ⟨Y, hY⟩ : ∃ Y, prsY t = Y := ⟨_, rfl⟩
    obtain ⟨⟨L, ln, col, er⟩, hQ⟩ : ∃ Q, prs t = Q := ⟨_, rfl⟩
    simp only [hQ, hY] at P1 R1 hinv b1 b2 htr hy
    have hsm := treF_sm' b1 b2
    have hfour := hinv.four
    have TA := hid (fun (a : Option Addr) (c : Nat) => Tree_all L a c (by omega) (fun x hx => ⟨by have := (b2 x hx).1; omega, by have := (b2 x hx).2.2; omega⟩) 4 [] none 0 (by simp) (fun x hx => by have := hfour x hx; simpa using this))
    have TN := hid (Tree_all [] none 0 (by simp) (by simp) 0 [] none 0 (by simp) (by simp))
    have P1 := hid P1
    have R1 := hid R1
    have HTR := hid htr
    have HSM := hid hsm
    have HY := hid hy
    clear hinv e1 b1 b2 htr hy hsm hfour hY hQ
    have pnil : ∀ w : World, Pth (fun b => b < w.heap.size) w (.slice none ([] : List Ky).length 0) [] := fun w => ⟨rfl, none, 0, rfl, Nat.le_refl _, by simp [maxLen], fun _ => rfl, .inl rfl⟩
    have lnil : ∀ w : World, LSl rdFl (fun b => b < w.heap.size) w (.slice none ([] : List Fl).length 0) [] := fun w => ⟨[], ⟨rfl, none, 0, rfl, Nat.le_refl _, by simp [maxLen], fun _ => rfl, .inl rfl⟩, rfl⟩
    have PN := hid pnil
    have LN := hid lnil
    clear pnil lnil
    by_cases her : er = 0
    · have her' : (er : Int) = 0 := by omega
      have hb' : ((er : Int) != 0) = false := by rw [her']; rfl
      have hy := HY.out
      rw [if_pos her] at hy
      have hys : Y.Sm ∧ Y.len ≤ 1000 := by rw [hy]; exact ⟨HSM.out.1, by have := HSM.out.2; omega⟩
      have HYS := hid hys
      have htr := HTR.out
      rw [← hy] at htr
      have HTR2 := hid htr
      clear her her' hy hys htr
      go_enter Tryz.func4, Tryz.ntmps4
      go_wp2_with fail
      refine P1.out.mono ?_
      rintro e w1 ⟨a1, c1, rfl, hF1, hb1⟩
      have HB1 := hid hb1
      have HF1 := hid hF1
      clear hb1 hF1
      go_wp2_with fail
      refine (R1.out w1).mono ?_
      rintro e w2 ⟨a2, c2, rfl, hL2, hb2⟩
      have HB2 := hid hb2
      have HL2 := hid (hL2.wide (S' := fun b => b < w2.heap.size) (fun b hb => hb.2))
      clear hb2 hL2
      have T3 := TA.out a2 c2 _ w2 HL2.out (PN.out w2) (fun b hb => hb)
      rw [HTR2.out] at T3
      have T3 := hid T3
      go_wp2_with fail
      refine T3.out.mono ?_
      rintro e w3 ⟨a3, c3, rfl, hF3, hb3⟩
      have HB3 := hid hb3
      have hA : Below w1.heap.size w1 w3 := HB2.out.trans (hb3.mono HB2.out.size)
      have HA := hid hA
      have S4 := hid ((sameNodes_any (Y.cnt + 1)).2 Y Y a1 c1 a3 c3 (fun b => b < w3.heap.size) w3 (Nat.lt_succ_self _) ((HF1.out.agree (Agree.of_below hA (fun b hb => hb.2))).wide (fun b hb => by have := hb.2; have := hA.size; omega)) (hF3.wide (fun b hb => hb.2)) (fun b hb => hb) HYS.out.2 HYS.out.2 HYS.out.1 HYS.out.1)
      rw [decide_eq_true rfl] at S4
      clear hb3 hF3 hA
      go_wp2_with fail
      refine S4.out.mono ?_
      rintro e w4 ⟨rfl, hb4⟩
      have hB4 : Below w.heap.size w w4 := (HB1.out.trans (HA.out.mono HB1.out.size)).trans (hb4.mono (by have := HB1.out.size; have := HA.out.size; omega))
      have AW := hid (awake_any w4 (HT.out.below hB4))
      have HB4 := hid hB4
      clear hb4 hB4
      go_wp2_with fail
      refine AW.out.mono ?_
      rintro e w5 ⟨rfl, hb5⟩
      go_wp2_with fail
      go_ret
      exact ⟨rfl, HB4.out.trans (hb5.mono HB4.out.size)⟩
    · have hb' : ((er : Int) != 0) = true := by simpa using her
      have hy := HY.out
      rw [if_neg her] at hy
      subst hy
      clear her
      go_enter Tryz.func4, Tryz.ntmps4
      go_wp2_with fail
      refine P1.out.mono ?_
      rintro e w1 ⟨a1, c1, rfl, hF1, hb1⟩
      have HB1 := hid hb1
      have HF1 := hid hF1
      clear hb1 hF1
      go_wp2_with fail
      refine (R1.out w1).mono ?_
      rintro e w2 ⟨a2, c2, rfl, hL2, hb2⟩
      have HB2 := hid hb2
      clear hb2 hL2
      have T3 := hid (TN.out _ w2 (LN.out w2) (PN.out w2) (fun b hb => hb))
      go_wp2_with fail
      refine T3.out.mono ?_
      rintro e w3 ⟨a3, c3, rfl, hF3, hb3⟩
      have HB3 := hid hb3
      have hA : Below w1.heap.size w1 w3 := HB2.out.trans (hb3.mono HB2.out.size)
      have HA := hid hA
      have S4 := hid ((sameNodes_any 1).2 .nil .nil a1 c1 a3 c3 (fun b => b < w3.heap.size) w3 (by decide) ((HF1.out.agree (Agree.of_below hA (fun b hb => hb.2))).wide (fun b hb => by have := hb.2; have := hA.size; omega)) (hF3.wide (fun b hb => hb.2)) (fun b hb => hb) (by decide) (by decide) trivial trivial)
      rw [decide_eq_true rfl] at S4
      clear hb3 hF3 hA
      go_wp2_with fail
      refine S4.out.mono ?_
      rintro e w4 ⟨rfl, hb4⟩
      have hB4 : Below w.heap.size w w4 := (HB1.out.trans (HA.out.mono HB1.out.size)).trans (hb4.mono (by have := HB1.out.size; have := HA.out.size; omega))
      have AW := hid (awake_any w4 (HT.out.below hB4))
      have HB4 := hid hB4
      clear hb4 hB4
      go_wp2_with fail
      refine AW.out.mono ?_
      rintro e w5 ⟨rfl, hb5⟩
      go_wp2_with fail
      go_ret
      exact ⟨rfl, HB4.out.trans (hb5.mono HB4.out.size)⟩
end Go.Proofs.LF
