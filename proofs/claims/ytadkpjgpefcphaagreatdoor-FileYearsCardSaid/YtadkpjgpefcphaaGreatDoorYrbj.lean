/- Parts of the proof of a law of layer 11 (file): LfW28, LfW21. The conditions stand in each theorem. -/
import Derived.BigQuiet
import Derived.Deep.AppendLies
import Derived.Deep.QuietTactic
import Derived.Deep.RegionHeld3
import Derived.Laws.ResultCell
import Derived.Outline
import Derived.Test.YtadkpjgpefcphaaGreatDoorProg
import Derived.WalkKit
import Derived.WalkLawsBesides
import Derived.WalkSpells
import Derived.Test.YtadkpjgpefcphaaGreatDoorYraj
import Derived.Test.YtadkpjgpefcphaaGreatDoorYrau
import Derived.Test.YtadkpjgpefcphaaGreatDoorYrba
import Derived.Test.YtadkpjgpefcphaaGreatDoorYrbg
set_option linter.all false
set_option linter.unusedVariables false
set_option linter.unusedSimpArgs false
namespace Go.Proofs.LF
open Go.RowKit Go.Sort
set_option maxHeartbeats 4000000
set_option maxRecDepth 100000
attribute [local go_sem] bs_toList bs_size bs_get
theorem cmpFl_any (p q : List Ky) (ap aq al : Option Addr) (cp cq nl cl : Nat) (S : Nat → Prop) (w : World) (hp : Pth S w (.slice ap p.length cp) p) (hq : Pth S w (.slice aq q.length cq) q) (hS : ∀ b, S b → b < w.heap.size) (lp : p.length ≤ 1000) (lq : q.length ≤ 1000) :
    Calls Tryz.prog 197 #[.agg #[.slice ap p.length cp, .slice al nl cl], .slice aq q.length cq] w fun e w' => e = .returned (.int .i64 (cmpP p q)) ∧ Below w.heap.size w w' := by
  have hb : Below w.heap.size w (w.alloc (.cells #[.slice ap p.length cp, .slice al nl cl] 171)) := (Below.refl _ _).alloc (Nat.le_refl _) _
  have ha := Agree.of_below hb hS
  have H := hid (byPath_any p q ap aq cp cq S _ (hp.agree ha) (hq.agree ha) (fun b h => by have := hS b h; simp; omega) lp lq)
  have HB := hid hb
  clear hb ha hp hq
  go_enter Tryz.func197, Tryz.ntmps197
  go_wp2_with fail
  refine H.out.mono ?_
  rintro e w1 ⟨rfl, hb1⟩
  have HB1 := hid (HB.out.trans (hb1.mono HB.out.size))
  go_wp2_with fail
  go_ret
  exact ⟨rfl, HB1.out⟩
theorem bsearch_any (l : List Fl) (p : List Ky) (al ap : Option Addr) (cl cp : Nat) (S T : Nat → Prop) (w : World) (hv : FlSl S w (.slice al l.length cl) l) (hS : ∀ b, S b → b < w.heap.size) (hp : Pth T w (.slice ap p.length cp) p) (hT : ∀ b, T b → b < w.heap.size)
    (hl : l.length ≤ 1000) (hsm : SmF l) (lp : p.length ≤ 1000) :
    Calls Tryz.prog 196 #[.slice al l.length cl, .slice ap p.length cp, .func (.func 197) #[] #[]] w fun e w' => e = .returned (.tuple #[.int .i64 (fndI l p), .bool (decide (fndI l p < l.length) && decide (cmpP (l.getD (fndI l p) fl0).p p = 0))]) ∧ Below w.heap.size w w' := by
  obtain ⟨a', c', he, hc, hcm, hat⟩ := hv.at
  obtain ⟨rfl, rfl⟩ : al = a' ∧ cl = c' := by cases he; exact ⟨rfl, rfl⟩
  have HAT := hid hat
  have HS := hid hS
  have HT := hid hT
  have HP := hid hp
  have HSM := hid hsm
  clear hat hS hT hp hsm he hv
  unfold maxLen at hcm
  have hcall : ∀ (i : Nat) (hi : i < l.length) (W : World), Below w.heap.size w W → ∃ g o ap2 cp2 an cn, al = some ⟨g, o, none⟩ ∧ W.cell? ⟨g, o + i * 2, none⟩ = some (.slice ap2 l[i].p.length cp2) ∧ W.cell? ⟨g, o + i * 2 + 1, none⟩ = some (.slice an l[i].l.length cn) ∧
      Hid (Calls Tryz.prog 197 #[.agg #[.slice ap2 l[i].p.length cp2, .slice an l[i].l.length cn], .slice ap p.length cp] W fun e w' => e = .returned (.int .i64 (cmpP l[i].p p)) ∧ Below W.heap.size W w') := by
    intro i hi W hB
    obtain ⟨g, o, cs1, rfl, hg, ⟨ap2, cp2, an, cn, rfl, hP, hI⟩, hcell⟩ := HAT.out i hi
    have ha : Agree S w W := Agree.of_below hB HS.out
    have c0 := ha.cell hg (hcell 0 _ rfl)
    have c1 := ha.cell hg (hcell 1 _ rfl)
    rw [Nat.add_zero] at c0
    rw [← Nat.add_assoc] at c1
    exact ⟨g, o, ap2, cp2, an, cn, rfl, c0, c1, cmpFl_any l[i].p p ap2 ap an cp2 cp _ cn (fun b => S b ∨ T b) W ((hP.agree ha).wide fun b hb => .inl hb) ((HP.out.agree (Agree.of_below hB HT.out)).wide fun b hb => .inr hb)
      (fun b hb => by have := hB.size; rcases hb with hb | hb; have := HS.out b hb; omega; have := HT.out b hb; omega) (HSM.out _ (List.getElem_mem hi)).1 lp⟩
  have HC := hid hcall
  clear hcall
  go_enter Tryz.func196, Tryz.ntmps196
  go_wp2_with fail
  go_loopw [9, 10] (fun vi vj wr => ∃ i j : Nat, vi = .int .i64 i ∧ vj = .int .i64 j ∧ i ≤ j ∧ j ≤ l.length ∧ Hid (fndI l p = bsF (fun h => decide (cmpP (l.getD h fl0).p p < 0)) i j) ∧ Below w.heap.size w wr) (fun vi vj _ => (intOf vj).toNat - (intOf vi).toNat)
  case atStart => exact ⟨0, l.length, rfl, rfl, Nat.zero_le _, Nat.le_refl _, rfl, Below.refl _ _⟩
  case round =>
    obtain ⟨i, j, rfl, rfl, hij, hjl, hF, hB⟩ := hrel
    have hsz := hB.size
    by_cases hlt : i < j
    · have hlt' : (i : Int) < (j : Int) := by omega
      obtain ⟨h, hh⟩ : ∃ h, (i + j) / 2 = h := ⟨_, rfl⟩
      have hhi : ((i : Int) + (j : Int)) / 2 = (h : Int) := by omega
      have hhl : h < l.length := by omega
      have hb1 : i ≤ h := by omega
      have hb2 : h < j := by omega
      have hhl' : (h : Int) < (l.length : Int) := by omega
      have hh0 : (0 : Int) ≤ (h : Int) := by omega
      obtain ⟨g, o, ap2, cp2, an, cn, rfl, c0, c1, H⟩ := HC.out h hhl wr hB
      have hF2 := hF.out
      rw [bsF_go hlt, hh] at hF2
      have hg : l.getD h fl0 = l[h] := by simp [List.getD_eq_getElem?_getD, hhl]
      simp only [hg, decide_eq_true_eq] at hF2
      have HF := hid hF2
      clear hF2 hg hh
      go_wp2_with fail
      refine H.out.mono ?_
      rintro e w2 ⟨rfl, hb3⟩
      have HB := hid (hB.trans (hb3.mono hsz))
      clear hb3
      by_cases hneg : cmpP l[h].p p < 0
      · have hF3 := HF.out
        rw [if_pos hneg] at hF3
        have HF3 := hid hF3
        clear hF3
        go_wp2_with fail
        go_roundw
        case rel => exact ⟨h + 1, j, by go_num, rfl, by omega, hjl, HF3.out, HB.out⟩
        case measure => simp [intOf]; omega
      · have hF3 := HF.out
        rw [if_neg hneg] at hF3
        have HF3 := hid hF3
        clear hF3
        go_wp2_with fail
        go_roundw
        case rel => exact ⟨i, h, rfl, rfl, hb1, by omega, HF3.out, HB.out⟩
        case measure => simp [intOf]; omega
    · obtain rfl : i = j := by omega
      have hlt' : ¬ (i : Int) < (i : Int) := by omega
      by_cases hil : i < l.length
      · have hil' : (i : Int) < (l.length : Int) := by omega
        obtain ⟨g, o, ap2, cp2, an, cn, rfl, c0, c1, H⟩ := HC.out i hil wr hB
        have hF2 := hF.out
        rw [bsF_stop (by omega)] at hF2
        have HF := hid hF2
        clear hF2
        go_wp2_with fail
        refine H.out.mono ?_
        rintro e w2 ⟨rfl, hb3⟩
        have HB := hid (hB.trans (hb3.mono hsz))
        clear hb3
        have hfin : (decide (fndI l p < l.length) && decide (cmpP (l.getD (fndI l p) fl0).p p = 0)) = decide (cmpP l[i].p p = 0) := by
          rw [HF.out]; simp [hil, List.getD_eq_getElem?_getD]
        have HFI := hid hfin
        clear hfin
        by_cases hz : cmpP l[i].p p = 0
        · have hz' : (cmpP l[i].p p == 0) = true := by simp [hz]
          have hzd : decide (cmpP l[i].p p = 0) = true := by simp [hz]
          have HZ := hid hzd
          clear hz hzd
          go_wp2_with fail
          go_ret2
          exact ⟨by rw [HFI.out, HZ.out, HF.out]; simp, HB.out⟩
        · have hz' : (cmpP l[i].p p == 0) = false := by simp [hz]
          have hzd : decide (cmpP l[i].p p = 0) = false := by simp [hz]
          have HZ := hid hzd
          clear hz hzd
          go_wp2_with fail
          go_ret2
          exact ⟨by rw [HFI.out, HZ.out, HF.out]; simp, HB.out⟩
      · have hil' : ¬ (i : Int) < (l.length : Int) := by omega
        have hF2 := hF.out
        rw [bsF_stop (by omega)] at hF2
        have HF := hid hF2
        clear hF2
        have hfin : (decide (fndI l p < l.length) && decide (cmpP (l.getD (fndI l p) fl0).p p = 0)) = false := by
          rw [HF.out]; simp [hil]
        have HFI := hid hfin
        clear hfin
        go_wp2_with fail
        go_ret2
        exact ⟨by have h1 := HF.out; have h2 := HFI.out; rw [h1] at h2 ⊢; simp [hil], hB⟩
end Go.Proofs.LF
namespace Go.Proofs.LF
open Go.RowKit Go.Sort
set_option maxHeartbeats 4000000
set_option maxRecDepth 100000
attribute [local go_sem] bs_toList bs_size bs_get
def RunR (p : UInt8 → Bool) (R : Nat) (t : List UInt8) (i most : Nat) (vs : List Value) (w : World) (e : Ending) (w' : World) : Prop :=
  ∃ s : List UInt8, e = .returned (.string (bs s)) ∧ Hid (s = (t.drop i).take (runN p most (t.drop i))) ∧ Hid (s.length = runN p most (t.drop i)) ∧ Hid (s.length ≤ most ∧ i + s.length ≤ t.length) ∧ Hid (Rdr R t (i + s.length) vs w') ∧ Hid (Keep (· = R) w w')
theorem RunR.of {p : UInt8 → Bool} {R : Nat} {t : List UInt8} {i most : Nat} {vs : List Value} {w : World} {e : Ending} {w' : World} (hi : i ≤ t.length)
    (h : e = .returned (.string (bs ((t.drop i).take (runN p most (t.drop i))))) ∧ Rdr R t (i + runN p most (t.drop i)) vs w' ∧ Keep (· = R) w w') : RunR p R t i most vs w e w' := by
  have hl := runN_le (p := p) (m := most) (l := t.drop i)
  have hs : ((t.drop i).take (runN p most (t.drop i))).length = runN p most (t.drop i) := by rw [List.length_take]; omega
  rw [List.length_drop] at hl
  exact ⟨_, h.1, rfl, hs, by rw [Hid, hs]; omega, by rw [Hid, hs]; exact h.2.1, h.2.2⟩
theorem blank_runs (R : Nat) (t : List UInt8) (i most : Nat) (vs : List Value) (w : World) (hr : Rdr R t i vs w) (ht : t.length ≤ 100000) (hi : i ≤ t.length) (hm : most ≤ 1000) :
    Calls Tryz.prog 184 #[.pointer (some ⟨R, 0, none⟩), .func (.func 225) #[] #[], .int .i64 most] w (RunR blankB R t i most vs w) :=
  (runA_any 225 enters225 blankB R t i most vs w hr ht hi hm fun c W => isBlank_any c W).mono fun _ _ h => RunR.of hi h
theorem small_runs (R : Nat) (t : List UInt8) (i most : Nat) (vs : List Value) (w : World) (hr : Rdr R t i vs w) (ht : t.length ≤ 100000) (hi : i ≤ t.length) (hm : most ≤ 1000) :
    Calls Tryz.prog 184 #[.pointer (some ⟨R, 0, none⟩), .func (.func 187) #[.agg #[.int .u8 97, .int .u8 122]] #[], .int .i64 most] w (RunR smallB R t i most vs w) :=
  (runB_any 97 122 smallB R t i most vs w hr ht hi hm fun c W => has_any 97 122 c.toNat W).mono fun _ _ h => RunR.of hi h
theorem digit_runs (R : Nat) (t : List UInt8) (i most : Nat) (vs : List Value) (w : World) (hr : Rdr R t i vs w) (ht : t.length ≤ 100000) (hi : i ≤ t.length) (hm : most ≤ 1000) :
    Calls Tryz.prog 184 #[.pointer (some ⟨R, 0, none⟩), .func (.func 187) #[.agg #[.int .u8 48, .int .u8 57]] #[], .int .i64 most] w (RunR digitB R t i most vs w) :=
  (runB_any 48 57 digitB R t i most vs w hr ht hi hm fun c W => has_any 48 57 c.toNat W).mono fun _ _ h => RunR.of hi h
end Go.Proofs.LF
