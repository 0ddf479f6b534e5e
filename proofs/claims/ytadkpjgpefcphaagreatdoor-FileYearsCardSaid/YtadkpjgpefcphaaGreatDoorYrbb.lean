/- Parts of the proof of a law of layer 11 (file): LfW39. The conditions stand in each theorem. -/
import Derived.BigQuiet
import Derived.Deep.AppendLies
import Derived.Deep.QuietTactic
import Derived.Deep.RegionHeld3
import Derived.Laws.ResultCell
import Derived.Outline
import Derived.Test.YtadkpjgpefcphaaGreatDoorProg
import Derived.WalkKit
import Derived.WalkLawsBesides
import Derived.WalkSpells
import Derived.Test.YtadkpjgpefcphaaGreatDoorYraj
import Derived.Test.YtadkpjgpefcphaaGreatDoorYrax
import Derived.Test.YtadkpjgpefcphaaGreatDoorYrba
set_option linter.all false
set_option linter.unusedVariables false
set_option linter.unusedSimpArgs false
namespace Go.Proofs.LF
open Go.RowKit Go.Sort
set_option maxHeartbeats 4000000
set_option maxRecDepth 100000
attribute [local go_sem] bs_toList bs_size bs_get
theorem cmpKN_any (n : List UInt8) (l : List Int) (an ab : Option Addr) (cn sl cb : Nat) (k : Ky) (S : Nat → Prop) (w : World) (hl : Ints S w (.slice an l.length cn) l) (hS : ∀ b, S b → b < w.heap.size) :
    Calls Tryz.prog 204 #[.agg #[.string (bs n), .slice an l.length cn, .slice ab sl cb], .agg #[.string (bs k.n), .bool k.h, .int .i64 k.x]] w fun e w' => e = .returned (.int .i64 (byK (kyOf n l) k)) ∧ Below w.heap.size w w' := by
  obtain ⟨W, hW⟩ : ∃ W, W = (w.alloc (.cells #[.string (bs n), .slice an l.length cn, .slice ab sl cb] 85)).alloc (.cells #[.string (bs k.n), .bool k.h, .int .i64 k.x] 71) := ⟨_, rfl⟩
  have hb : Below w.heap.size w W := by rw [hW]; exact ((Below.refl _ _).alloc (Nat.le_refl _) _).alloc (by simp) _
  have hWs : W.heap.size = w.heap.size + 1 + 1 := by rw [hW]; simp
  have HB := hid hb
  have HWS := hid hWs
  have HL := hid (hl.agree (Agree.of_below hb hS))
  have HS := hid hS
  clear hl hS hb hWs
  obtain ⟨kk, hkk⟩ : ∃ kk, kyOf n l = kk := ⟨_, rfl⟩
  have HKK := hid hkk
  rw [hkk]
  clear hkk
  subst hW
  go_enter Tryz.func204, Tryz.ntmps204
  go_wp2_with fail
  go_region_held3 (fun w' => w'.cell? ⟨w.heap.size, 0, none⟩ = some (.string (bs n)) ∧ w'.cell? ⟨w.heap.size, 1, none⟩ = some (.slice an l.length cn) ∧ w'.cell? ⟨w.heap.size, 2, none⟩ = some (.slice ab sl cb) ∧ w'.cell? ⟨w.heap.size + 1, 0, none⟩ = some (.string (bs k.n)) ∧ w'.cell? ⟨w.heap.size + 1, 1, none⟩ = some (.bool k.h) ∧ w'.cell? ⟨w.heap.size + 1, 2, none⟩ = some (.int .i64 k.x))
    (first
      | (go_split_ands
         with_reducible refine ⟨below_cell hb1 ?_ ?_, below_cell hb1 ?_ ?_, below_cell hb1 ?_ ?_, below_cell hb1 ?_ ?_, below_cell hb1 ?_ ?_, below_cell hb1 ?_ ?_⟩
         all_goals (first | (with_reducible assumption) | (simp; done) | (simp; omega)))
      | (go_split_ands
         with_reducible refine ⟨below_cell hb2 ?_ ?_, below_cell hb2 ?_ ?_, below_cell hb2 ?_ ?_, below_cell hb2 ?_ ?_, below_cell hb2 ?_ ?_, below_cell hb2 ?_ ?_⟩
         all_goals (first | (with_reducible assumption) | (have := hb1.size; simp at this ⊢; omega)))
      | go_keep)
    (first
      | (go_at_call 136; refine (key_any n l an cn (.slice ab sl cb) S _ (HL.out.agree (Agree.of_below (Below.refl _ _).drew (fun b hb => by have := HS.out b hb; have := HWS.out; omega))) (fun b hb => by have := HS.out b hb; simp; omega) ab sl cb rfl).mono ?_
         rintro e w1 ⟨rfl, hb1⟩
         rw [HKK.out])
      | (go_at_call 183; refine (byKey_any kk k _).mono ?_
         rintro e w2 ⟨rfl, hb2⟩))
  go_wp2_with fail
  go_ret
  exact ⟨rfl, HB.out.drew.trans ((hb1.mono (show w.heap.size ≤ _ by simp; omega)).trans (hb2.mono (show w.heap.size ≤ _ by have := hb1.size; simp at this; omega)))⟩
def keyD (y : Fo) (i : Nat) : Ky := (keyAt y i).getD ky0
def fndN (y : Fo) (k : Ky) : Nat := bsF (fun h => decide (byK (keyD y h) k < 0)) 0 y.len
theorem bsearchN_any (y : Fo) (k : Ky) (al : Option Addr) (cl : Nat) (S : Nat → Prop) (w : World) (hv : FSl S w (.slice al y.len cl) y) (hS : ∀ b, S b → b < w.heap.size) (hl : y.len ≤ 1000) :
    Calls Tryz.prog 203 #[.slice al y.len cl, .agg #[.string (bs k.n), .bool k.h, .int .i64 k.x], .func (.func 204) #[] #[]] w fun e w' => e = .returned (.tuple #[.int .i64 (fndN y k), .bool (decide (fndN y k < y.len) && decide (byK (keyD y (fndN y k)) k = 0))]) ∧ Below w.heap.size w w' := by
  obtain ⟨a', c', he, hc, hcm, hat⟩ := hv.at
  obtain ⟨rfl, rfl⟩ : al = a' ∧ cl = c' := by cases he; exact ⟨rfl, rfl⟩
  have HAT := hid hat
  have HS := hid hS
  clear hat hS he hv
  unfold maxLen at hcm
  have hcall : ∀ (i : Nat) (hi : i < y.len), ∃ g o n l s an cn ab cb, al = some ⟨g, o, none⟩ ∧ keyD y i = kyOf n l ∧ g < w.heap.size ∧ ∀ W, Below w.heap.size w W → W.cell? ⟨g, o + i * 3, none⟩ = some (.string (bs n)) ∧ W.cell? ⟨g, o + i * 3 + 1, none⟩ = some (.slice an l.length cn) ∧ W.cell? ⟨g, o + i * 3 + 2, none⟩ = some (.slice ab (Fo.len s) cb) ∧
      Hid (Calls Tryz.prog 204 #[.agg #[.string (bs n), .slice an l.length cn, .slice ab (Fo.len s) cb], .agg #[.string (bs k.n), .bool k.h, .int .i64 k.x]] W fun e w' => e = .returned (.int .i64 (byK (kyOf n l) k)) ∧ Below W.heap.size W w') := by
    intro i hi
    obtain ⟨g, o, n, l, s, r, an, cn, ab, cb, rfl, hg, hd, m0, m1, m2, hI, hF⟩ := HAT.out i hi
    refine ⟨g, o, n, l, s, an, cn, ab, cb, rfl, by simp [keyD, keyAt, hd], HS.out g hg, fun W hB => ?_⟩
    have ha : Agree S w W := Agree.of_below hB HS.out
    refine ⟨ha.cell hg m0, ha.cell hg m1, ha.cell hg m2, cmpKN_any n l an ab cn s.len cb k S W (hI.agree ha) (fun b hb => by have := hB.size; have := HS.out b hb; omega)⟩
  have HC := hid hcall
  clear hcall HAT
  have hb0 : Below w.heap.size w (w.alloc (.cells #[.string (bs k.n), .bool k.h, .int .i64 k.x] 71)) := (Below.refl _ _).alloc (Nat.le_refl _) _
  have HB0 := hid hb0
  have HN0 := hid (heap_alloc_new w (.cells #[.string (bs k.n), .bool k.h, .int .i64 k.x] 71))
  clear hb0
  go_enter Tryz.func203, Tryz.ntmps203
  go_wp2_with fail
  go_loopw [9, 10] (fun vi vj wr => ∃ i j : Nat, vi = .int .i64 i ∧ vj = .int .i64 j ∧ i ≤ j ∧ j ≤ y.len ∧ Hid (fndN y k = bsF (fun h => decide (byK (keyD y h) k < 0)) i j) ∧ Hid (wr.heap[w.heap.size]? = some (.cells #[.string (bs k.n), .bool k.h, .int .i64 k.x] 71 (0, 0))) ∧ Below w.heap.size w wr) (fun vi vj _ => (intOf vj).toNat - (intOf vi).toNat)
  case atStart => exact ⟨0, y.len, rfl, rfl, Nat.zero_le _, Nat.le_refl _, rfl, HN0.out, HB0.out⟩
  case round =>
    obtain ⟨i, j, rfl, rfl, hij, hjl, hF, hK, hB⟩ := hrel
    have hsz := hB.size
    have hszK : w.heap.size < wr.heap.size := (Array.getElem?_eq_some_iff.1 hK.out).1
    have e0 := cells_get hK.out (k := 0) rfl
    have e1 := cells_get hK.out (k := 1) rfl
    have e2 := cells_get hK.out (k := 2) rfl
    by_cases hlt : i < j
    · have hlt' : (i : Int) < (j : Int) := by omega
      obtain ⟨h, hh⟩ : ∃ h, (i + j) / 2 = h := ⟨_, rfl⟩
      have hhi : ((i : Int) + (j : Int)) / 2 = (h : Int) := by omega
      have hhl : h < y.len := by omega
      have hbi : i ≤ h := by omega
      have hbj : h < j := by omega
      have hhl' : (h : Int) < (y.len : Int) := by omega
      have hh0 : (0 : Int) ≤ (h : Int) := by omega
      obtain ⟨g, o, n, l, s, an, cn, ab, cb, rfl, hkd, hgl, H9⟩ := HC.out h hhl
      obtain ⟨c0, c1, c2, _⟩ := H9 wr hB
      have H := hid ((H9 wr.drew hB.drew).2.2.2.out)
      clear H9
      have hF2 := hF.out
      rw [bsF_go hlt, hh] at hF2
      simp only [hkd, decide_eq_true_eq] at hF2
      have HF := hid hF2
      clear hF2 hh hkd
      go_wp2_with fail
      go_region_held3 (fun w' => w'.cell? ⟨g, o + h * 3, none⟩ = some (.string (bs n)) ∧ w'.cell? ⟨g, o + h * 3 + 1, none⟩ = some (.slice an l.length cn) ∧ w'.cell? ⟨g, o + h * 3 + 2, none⟩ = some (.slice ab s.len cb) ∧ w'.cell? ⟨w.heap.size, 0, none⟩ = some (.string (bs k.n)) ∧ w'.cell? ⟨w.heap.size, 1, none⟩ = some (.bool k.h) ∧ w'.cell? ⟨w.heap.size, 2, none⟩ = some (.int .i64 k.x))
        (first
          | (go_split_ands
             with_reducible refine ⟨below_cell hb3 ?_ ?_, below_cell hb3 ?_ ?_, below_cell hb3 ?_ ?_, below_cell hb3 ?_ ?_, below_cell hb3 ?_ ?_, below_cell hb3 ?_ ?_⟩
             all_goals (first | (with_reducible assumption) | (simp; done) | (simp; omega)))
          | go_keep)
        (first
          | (go_at_call 204; refine H.out.mono ?_
             rintro e w2 ⟨rfl, hb3⟩))
      have HB := hid (hB.drew.trans (hb3.mono (show w.heap.size ≤ _ by simpa using hsz)))
      have HK2 := hid ((hb3.block w.heap.size hszK).trans hK.out)
      clear hb3
      by_cases hneg : byK (kyOf n l) k < 0
      · have hF3 := HF.out
        rw [if_pos hneg] at hF3
        have HF3 := hid hF3
        clear hF3
        go_wp2_with fail
        go_roundw
        case rel => exact ⟨h + 1, j, by go_num, rfl, by omega, hjl, HF3.out, HK2.out, HB.out⟩
        case measure => simp [intOf]; omega
      · have hF3 := HF.out
        rw [if_neg hneg] at hF3
        have HF3 := hid hF3
        clear hF3
        go_wp2_with fail
        go_roundw
        case rel => exact ⟨i, h, rfl, rfl, hbi, by omega, HF3.out, HK2.out, HB.out⟩
        case measure => simp [intOf]; omega
    · obtain rfl : i = j := by omega
      have hlt' : ¬ (i : Int) < (i : Int) := by omega
      have hF2 := hF.out
      clear hF2
      by_cases hil : i < y.len
      · have hil' : (i : Int) < (y.len : Int) := by omega
        obtain ⟨g, o, n, l, s, an, cn, ab, cb, rfl, hkd, hgl, H9⟩ := HC.out i hil
        obtain ⟨c0, c1, c2, _⟩ := H9 wr hB
        have H := hid ((H9 wr.drew hB.drew).2.2.2.out)
        clear H9
        go_wp2_with fail
        go_region_held3 (fun w' => w'.cell? ⟨g, o + i * 3, none⟩ = some (.string (bs n)) ∧ w'.cell? ⟨g, o + i * 3 + 1, none⟩ = some (.slice an l.length cn) ∧ w'.cell? ⟨g, o + i * 3 + 2, none⟩ = some (.slice ab s.len cb) ∧ w'.cell? ⟨w.heap.size, 0, none⟩ = some (.string (bs k.n)) ∧ w'.cell? ⟨w.heap.size, 1, none⟩ = some (.bool k.h) ∧ w'.cell? ⟨w.heap.size, 2, none⟩ = some (.int .i64 k.x))
          (first
            | (go_split_ands
               with_reducible refine ⟨below_cell hb3 ?_ ?_, below_cell hb3 ?_ ?_, below_cell hb3 ?_ ?_, below_cell hb3 ?_ ?_, below_cell hb3 ?_ ?_, below_cell hb3 ?_ ?_⟩
               all_goals (first | (with_reducible assumption) | (simp; done) | (simp; omega)))
            | go_keep)
          (first
            | (go_at_call 204; refine H.out.mono ?_
               rintro e w2 ⟨rfl, hb3⟩))
        have HB := hid (hB.drew.trans (hb3.mono (show w.heap.size ≤ _ by simpa using hsz)))
        clear hb3
        go_wp2_with fail
        go_ret2
        have hF2 := hF.out
        rw [bsF_stop (by omega)] at hF2
        exact ⟨by rw [hF2, hkd]; simp [hil]; rfl, HB.out⟩
      · obtain rfl : i = y.len := by omega
        go_wp2_with fail
        go_quiet (fail)
        have HB3 := hid (below_drewN hB nq)
        go_wp2_with fail
        go_ret2
        have hF2 := hF.out
        rw [bsF_stop (by omega)] at hF2
        exact ⟨by rw [hF2]; simp, HB3.out⟩
end Go.Proofs.LF
