/- Parts of the proof of a law of layer 11 (file): LfW19, LfW39, LfW27, LfGrw, LfW20, LfW37. The conditions stand in each theorem. -/
import Derived.BigQuiet
import Derived.Deep.AppendLies
import Derived.Deep.QuietTactic
import Derived.Deep.RegionHeld3
import Derived.Laws.ResultCell
import Derived.Outline
import Derived.Shelf.SlSortCmp.Whole1
import Derived.Test.YtadkpjgpefcphaaGreatDoorProg
import Derived.WalkKit
import Derived.WalkLawsBesides
import Derived.WalkSpells
import Derived.Test.YtadkpjgpefcphaaGreatDoorMdah
import Derived.Test.YtadkpjgpefcphaaGreatDoorMdap
import Derived.Test.YtadkpjgpefcphaaGreatDoorMdar
import Derived.Test.YtadkpjgpefcphaaGreatDoorMdas
import Derived.Test.YtadkpjgpefcphaaGreatDoorMdau
set_option linter.all false
set_option linter.unusedVariables false
set_option linter.unusedSimpArgs false
namespace Go.Proofs.LF
open Go.RowKit Go.Sort
set_option maxHeartbeats 4000000
set_option maxRecDepth 100000
attribute [local go_sem] bs_toList bs_size bs_get
theorem key_cells {p : List Ky} {k : Nat} (h : k < p.length) : (p.flatMap Ky.cells)[k * 3]? = some (.string (bs p[k].n)) ∧ (p.flatMap Ky.cells)[k * 3 + 1]? = some (.bool p[k].h) ∧ (p.flatMap Ky.cells)[k * 3 + 2]? = some (.int .i64 p[k].x) := by
  have e : p.flatMap Ky.cells = (p.take k).flatMap Ky.cells ++ (Ky.cells p[k] ++ (p.drop (k + 1)).flatMap Ky.cells) := by
    conv => lhs; rw [← List.take_append_drop k p, List.drop_eq_getElem_cons h]
    rw [List.flatMap_append, List.flatMap_cons]
  have hl : ((p.take k).flatMap Ky.cells).length = k * 3 := by rw [len_keys, List.length_take]; congr 1; omega
  rw [e]
  refine ⟨?_, ?_, ?_⟩ <;> rw [List.getElem?_append_right (by omega), hl] <;> simp [Ky.cells]
theorem cmpPaths_any (p q : List Ky) (ap aq : Option Addr) (cp cq : Nat) (S : Nat → Prop) (w : World) (hp : Pth S w (.slice ap p.length cp) p) (hq : Pth S w (.slice aq q.length cq) q) (hS : ∀ b, S b → b < w.heap.size) (lp : p.length ≤ 1000) (lq : q.length ≤ 1000) :
    Calls Tryz.prog 191 #[.slice ap p.length cp, .slice aq q.length cq, .func (.func 183) #[] #[]] w fun e w' => e = .returned (.int .i64 (cmpP p q)) ∧ Below w.heap.size w w' := by
  go_enter Tryz.func191, Tryz.ntmps191
  go_wp2_with fail
  go_loopw [13] (fun i wr => ∃ k : Nat, k ≤ p.length ∧ k ≤ q.length ∧ i = .int .i64 k ∧ Hid (cmpP p q = cmpP (p.drop k) (q.drop k)) ∧ Below w.heap.size w wr) (fun i _ => p.length - (intOf i).toNat)
  case atStart => exact ⟨0, by omega, by omega, rfl, by simp [Hid], Below.refl _ _⟩
  case round =>
    obtain ⟨k, hk, hk2, rfl, hN, hB⟩ := hrel
    have hsz := hB.size
    by_cases hA : k < p.length
    · obtain ⟨g, o, rfl, hg, _, _, hcell⟩ := SlC.cells hp (by omega)
      obtain ⟨k0, k1, k2⟩ := key_cells hA
      have ha := Agree.of_below hB hS
      have c0 := ha.cell hg (hcell _ _ k0)
      have c1 := ha.cell hg (hcell _ _ k1)
      have c2 := ha.cell hg (hcell _ _ k2)
      rw [← Nat.add_assoc] at c1 c2
      by_cases hB2 : k < q.length
      · have a2 : ¬ (q.length : Int) ≤ (k : Int) := by omega
        have a3 : (k : Int) < (q.length : Int) := by omega
        obtain ⟨g', o', rfl, hg', _, _, hcell'⟩ := SlC.cells hq (by omega)
        obtain ⟨k0', k1', k2'⟩ := key_cells hB2
        have hbx : Below w.heap.size w (wr.alloc (.cells #[.string (bs p[k].n), .bool p[k].h, .int .i64 p[k].x] 71)) := hB.alloc hsz _
        have hax := Agree.of_below hbx hS
        have d0 := hax.cell hg' (hcell' _ _ k0')
        have d1 := hax.cell hg' (hcell' _ _ k1')
        have d2 := hax.cell hg' (hcell' _ _ k2')
        rw [← Nat.add_assoc] at d1 d2
        have hd : cmpP (p.drop k) (q.drop k) = if byK p[k] q[k] ≠ 0 then byK p[k] q[k] else cmpP (p.drop (k + 1)) (q.drop (k + 1)) := by
          rw [List.drop_eq_getElem_cons hA, List.drop_eq_getElem_cons hB2]; rfl
        have HD := hid hd
        have HBX := hid hbx
        clear hcell k0 k1 k2 hcell' k0' k1' k2' hd hbx hax
        go_wp2_with fail
        refine (byKey_any p[k] q[k] _).mono ?_
        rintro e w2 ⟨rfl, hb2⟩
        have hz2 := HBX.out.size
        have HB2 := hid (HBX.out.trans ((((Below.refl _ _).alloc (Nat.le_refl _) _).trans (hb2.mono (by simp))).mono hz2))
        clear hz2 hb2
        by_cases he : byK p[k] q[k] = 0
        · have he' : (byK p[k] q[k] != 0) = false := by simpa using he
          have HE := hid he
          clear he
          go_wp2_with fail
          go_roundw
          case rel => exact ⟨k + 1, by omega, by omega, by go_num, by rw [Hid, hN.out, HD.out, if_neg (by simpa using HE.out)], HB2.out⟩
          case measure => simp [intOf]; omega
        · have he' : (byK p[k] q[k] != 0) = true := by simpa using he
          have HE := hid he
          clear he
          go_wp2_with fail
          go_ret
          exact ⟨ret_int (by rw [hN.out, HD.out, if_pos (by simpa using HE.out)]), HB2.out⟩
      · have a2 : (q.length : Int) ≤ (k : Int) := by omega
        have hd : cmpP (p.drop k) (q.drop k) = 1 := by
          rw [List.drop_eq_getElem_cons hA, List.drop_eq_nil_of_le (by omega : q.length ≤ k)]; rfl
        clear hcell k0 k1 k2
        go_wp2_with fail
        go_ret
        exact ⟨ret_int (by rw [hN.out, hd]), hB.alloc hsz _⟩
    · have hA' : ¬ (k : Int) < (p.length : Int) := by omega
      obtain rfl : k = p.length := by omega
      by_cases hB2 : p.length < q.length
      · have a2 : (p.length : Int) < (q.length : Int) := by omega
        have hd : cmpP (p.drop p.length) (q.drop p.length) = -1 := by
          rw [List.drop_eq_getElem_cons hB2, List.drop_length]; rfl
        go_wp2_with fail
        go_ret
        exact ⟨ret_int (by rw [hN.out, hd]), hB⟩
      · have a2 : ¬ (p.length : Int) < (q.length : Int) := by omega
        have hd : cmpP (p.drop p.length) (q.drop p.length) = 0 := by
          rw [List.drop_length, List.drop_eq_nil_of_le (by omega)]; rfl
        go_wp2_with fail
        go_ret
        exact ⟨ret_int (by rw [hN.out, hd]), hB⟩
theorem byPath_any (p q : List Ky) (ap aq : Option Addr) (cp cq : Nat) (S : Nat → Prop) (w : World) (hp : Pth S w (.slice ap p.length cp) p) (hq : Pth S w (.slice aq q.length cq) q) (hS : ∀ b, S b → b < w.heap.size) (lp : p.length ≤ 1000) (lq : q.length ≤ 1000) :
    Calls Tryz.prog 103 #[.slice ap p.length cp, .slice aq q.length cq] w fun e w' => e = .returned (.int .i64 (cmpP p q)) ∧ Below w.heap.size w w' := by
  have H := hid (cmpPaths_any p q ap aq cp cq S w hp hq hS lp lq)
  go_enter Tryz.func103, Tryz.ntmps103
  go_wp2_with fail
  refine H.out.mono ?_
  rintro e w1 ⟨rfl, hb1⟩
  go_wp2_with fail
  go_ret
  exact ⟨rfl, hb1⟩
end Go.Proofs.LF
namespace Go.Proofs.LF
open Go.RowKit Go.Sort
set_option maxHeartbeats 4000000
set_option maxRecDepth 100000
attribute [local go_sem] bs_toList bs_size bs_get
theorem cmpKN_any (n : List UInt8) (l : List Int) (an ab : Option Addr) (cn sl cb : Nat) (k : Ky) (S : Nat → Prop) (w : World) (hl : Ints S w (.slice an l.length cn) l) (hS : ∀ b, S b → b < w.heap.size) :
    Calls Tryz.prog 204 #[.agg #[.string (bs n), .slice an l.length cn, .slice ab sl cb], .agg #[.string (bs k.n), .bool k.h, .int .i64 k.x]] w fun e w' => e = .returned (.int .i64 (byK (kyOf n l) k)) ∧ Below w.heap.size w w' := by
  obtain ⟨W, hW⟩ : ∃ W, W = (w.alloc (.cells #[.string (bs n), .slice an l.length cn, .slice ab sl cb] 85)).alloc (.cells #[.string (bs k.n), .bool k.h, .int .i64 k.x] 71) := ⟨_, rfl⟩
  have hb : Below w.heap.size w W := by rw [hW]; exact ((Below.refl _ _).alloc (Nat.le_refl _) _).alloc (by simp) _
  have hWs : W.heap.size = w.heap.size + 1 + 1 := by rw [hW]; simp
  have HB := hid hb
  have HWS := hid hWs
  have HL := hid (hl.agree (Agree.of_below hb hS))
  have HS := hid hS
  clear hl hS hb hWs
  obtain ⟨kk, hkk⟩ : ∃ kk, kyOf n l = kk := ⟨_, rfl⟩
  have HKK := hid hkk
  rw [hkk]
  clear hkk
  subst hW
  go_enter Tryz.func204, Tryz.ntmps204
  go_wp2_with fail
  go_region_held3 (fun w' => w'.cell? ⟨w.heap.size, 0, none⟩ = some (.string (bs n)) ∧ w'.cell? ⟨w.heap.size, 1, none⟩ = some (.slice an l.length cn) ∧ w'.cell? ⟨w.heap.size, 2, none⟩ = some (.slice ab sl cb) ∧ w'.cell? ⟨w.heap.size + 1, 0, none⟩ = some (.string (bs k.n)) ∧ w'.cell? ⟨w.heap.size + 1, 1, none⟩ = some (.bool k.h) ∧ w'.cell? ⟨w.heap.size + 1, 2, none⟩ = some (.int .i64 k.x))
    (first
      | (go_split_ands
         with_reducible refine ⟨below_cell hb1 ?_ ?_, below_cell hb1 ?_ ?_, below_cell hb1 ?_ ?_, below_cell hb1 ?_ ?_, below_cell hb1 ?_ ?_, below_cell hb1 ?_ ?_⟩
         all_goals (first | (with_reducible assumption) | (simp; done) | (simp; omega)))
      | (go_split_ands
         with_reducible refine ⟨below_cell hb2 ?_ ?_, below_cell hb2 ?_ ?_, below_cell hb2 ?_ ?_, below_cell hb2 ?_ ?_, below_cell hb2 ?_ ?_, below_cell hb2 ?_ ?_⟩
         all_goals (first | (with_reducible assumption) | (have := hb1.size; simp at this ⊢; omega)))
      | go_keep)
    (first
      | (go_at_call 136; refine (key_any n l an cn (.slice ab sl cb) S _ (HL.out.agree (Agree.of_below (Below.refl _ _).drew (fun b hb => by have := HS.out b hb; have := HWS.out; omega))) (fun b hb => by have := HS.out b hb; simp; omega) ab sl cb rfl).mono ?_
         rintro e w1 ⟨rfl, hb1⟩
         rw [HKK.out])
      | (go_at_call 183; refine (byKey_any kk k _).mono ?_
         rintro e w2 ⟨rfl, hb2⟩))
  go_wp2_with fail
  go_ret
  exact ⟨rfl, HB.out.drew.trans ((hb1.mono (show w.heap.size ≤ _ by simp; omega)).trans (hb2.mono (show w.heap.size ≤ _ by have := hb1.size; simp at this; omega)))⟩
def keyD (y : Fo) (i : Nat) : Ky := (keyAt y i).getD ky0
def fndN (y : Fo) (k : Ky) : Nat := bsF (fun h => decide (byK (keyD y h) k < 0)) 0 y.len
theorem bsearchN_any (y : Fo) (k : Ky) (al : Option Addr) (cl : Nat) (S : Nat → Prop) (w : World) (hv : FSl S w (.slice al y.len cl) y) (hS : ∀ b, S b → b < w.heap.size) (hl : y.len ≤ 1000) :
    Calls Tryz.prog 203 #[.slice al y.len cl, .agg #[.string (bs k.n), .bool k.h, .int .i64 k.x], .func (.func 204) #[] #[]] w fun e w' => e = .returned (.tuple #[.int .i64 (fndN y k), .bool (decide (fndN y k < y.len) && decide (byK (keyD y (fndN y k)) k = 0))]) ∧ Below w.heap.size w w' := by
  obtain ⟨a', c', he, hc, hcm, hat⟩ := hv.at
  obtain ⟨rfl, rfl⟩ : al = a' ∧ cl = c' := by cases he; exact ⟨rfl, rfl⟩
  have HAT := hid hat
  have HS := hid hS
  clear hat hS he hv
  unfold maxLen at hcm
  have hcall : ∀ (i : Nat) (hi : i < y.len), ∃ g o n l s an cn ab cb, al = some ⟨g, o, none⟩ ∧ keyD y i = kyOf n l ∧ g < w.heap.size ∧ ∀ W, Below w.heap.size w W → W.cell? ⟨g, o + i * 3, none⟩ = some (.string (bs n)) ∧ W.cell? ⟨g, o + i * 3 + 1, none⟩ = some (.slice an l.length cn) ∧ W.cell? ⟨g, o + i * 3 + 2, none⟩ = some (.slice ab (Fo.len s) cb) ∧
      Hid (Calls Tryz.prog 204 #[.agg #[.string (bs n), .slice an l.length cn, .slice ab (Fo.len s) cb], .agg #[.string (bs k.n), .bool k.h, .int .i64 k.x]] W fun e w' => e = .returned (.int .i64 (byK (kyOf n l) k)) ∧ Below W.heap.size W w') := by
    intro i hi
    obtain ⟨g, o, n, l, s, r, an, cn, ab, cb, rfl, hg, hd, m0, m1, m2, hI, hF⟩ := HAT.out i hi
    refine ⟨g, o, n, l, s, an, cn, ab, cb, rfl, by simp [keyD, keyAt, hd], HS.out g hg, fun W hB => ?_⟩
    have ha : Agree S w W := Agree.of_below hB HS.out
    refine ⟨ha.cell hg m0, ha.cell hg m1, ha.cell hg m2, cmpKN_any n l an ab cn s.len cb k S W (hI.agree ha) (fun b hb => by have := hB.size; have := HS.out b hb; omega)⟩
  have HC := hid hcall
  clear hcall HAT
  have hb0 : Below w.heap.size w (w.alloc (.cells #[.string (bs k.n), .bool k.h, .int .i64 k.x] 71)) := (Below.refl _ _).alloc (Nat.le_refl _) _
  have HB0 := hid hb0
  have HN0 := hid (heap_alloc_new w (.cells #[.string (bs k.n), .bool k.h, .int .i64 k.x] 71))
  clear hb0
  go_enter Tryz.func203, Tryz.ntmps203
  go_wp2_with fail
  go_loopw [9, 10] (fun vi vj wr => ∃ i j : Nat, vi = .int .i64 i ∧ vj = .int .i64 j ∧ i ≤ j ∧ j ≤ y.len ∧ Hid (fndN y k = bsF (fun h => decide (byK (keyD y h) k < 0)) i j) ∧ Hid (wr.heap[w.heap.size]? = some (.cells #[.string (bs k.n), .bool k.h, .int .i64 k.x] 71 (0, 0))) ∧ Below w.heap.size w wr) (fun vi vj _ => (intOf vj).toNat - (intOf vi).toNat)
  case atStart => exact ⟨0, y.len, rfl, rfl, Nat.zero_le _, Nat.le_refl _, rfl, HN0.out, HB0.out⟩
  case round =>
    obtain ⟨i, j, rfl, rfl, hij, hjl, hF, hK, hB⟩ := hrel
    have hsz := hB.size
    have hszK : w.heap.size < wr.heap.size := (Array.getElem?_eq_some_iff.1 hK.out).1
    have e0 := cells_get hK.out (k := 0) rfl
    have e1 := cells_get hK.out (k := 1) rfl
    have e2 := cells_get hK.out (k := 2) rfl
    by_cases hlt : i < j
    · have hlt' : (i : Int) < (j : Int) := by omega
      obtain ⟨h, hh⟩ : ∃ h, (i + j) / 2 = h := ⟨_, rfl⟩
      have hhi : ((i : Int) + (j : Int)) / 2 = (h : Int) := by omega
      have hhl : h < y.len := by omega
      have hbi : i ≤ h := by omega
      have hbj : h < j := by omega
      have hhl' : (h : Int) < (y.len : Int) := by omega
      have hh0 : (0 : Int) ≤ (h : Int) := by omega
      obtain ⟨g, o, n, l, s, an, cn, ab, cb, rfl, hkd, hgl, H9⟩ := HC.out h hhl
      obtain ⟨c0, c1, c2, _⟩ := H9 wr hB
      have H := hid ((H9 wr.drew hB.drew).2.2.2.out)
      clear H9
      have hF2 := hF.out
      rw [bsF_go hlt, hh] at hF2
      simp only [hkd, decide_eq_true_eq] at hF2
      have HF := hid hF2
      clear hF2 hh hkd
      go_wp2_with fail
      go_region_held3 (fun w' => w'.cell? ⟨g, o + h * 3, none⟩ = some (.string (bs n)) ∧ w'.cell? ⟨g, o + h * 3 + 1, none⟩ = some (.slice an l.length cn) ∧ w'.cell? ⟨g, o + h * 3 + 2, none⟩ = some (.slice ab s.len cb) ∧ w'.cell? ⟨w.heap.size, 0, none⟩ = some (.string (bs k.n)) ∧ w'.cell? ⟨w.heap.size, 1, none⟩ = some (.bool k.h) ∧ w'.cell? ⟨w.heap.size, 2, none⟩ = some (.int .i64 k.x))
        (first
          | (go_split_ands
             with_reducible refine ⟨below_cell hb3 ?_ ?_, below_cell hb3 ?_ ?_, below_cell hb3 ?_ ?_, below_cell hb3 ?_ ?_, below_cell hb3 ?_ ?_, below_cell hb3 ?_ ?_⟩
             all_goals (first | (with_reducible assumption) | (simp; done) | (simp; omega)))
          | go_keep)
        (first
          | (go_at_call 204; refine H.out.mono ?_
             rintro e w2 ⟨rfl, hb3⟩))
      have HB := hid (hB.drew.trans (hb3.mono (show w.heap.size ≤ _ by simpa using hsz)))
      have HK2 := hid ((hb3.block w.heap.size hszK).trans hK.out)
      clear hb3
      by_cases hneg : byK (kyOf n l) k < 0
      · have hF3 := HF.out
        rw [if_pos hneg] at hF3
        have HF3 := hid hF3
        clear hF3
        go_wp2_with fail
        go_roundw
        case rel => exact ⟨h + 1, j, by go_num, rfl, by omega, hjl, HF3.out, HK2.out, HB.out⟩
        case measure => simp [intOf]; omega
      · have hF3 := HF.out
        rw [if_neg hneg] at hF3
        have HF3 := hid hF3
        clear hF3
        go_wp2_with fail
        go_roundw
        case rel => exact ⟨i, h, rfl, rfl, hbi, by omega, HF3.out, HK2.out, HB.out⟩
        case measure => simp [intOf]; omega
    · obtain rfl : i = j := by omega
      have hlt' : ¬ (i : Int) < (i : Int) := by omega
      have hF2 := hF.out
      clear hF2
      by_cases hil : i < y.len
      · have hil' : (i : Int) < (y.len : Int) := by omega
        obtain ⟨g, o, n, l, s, an, cn, ab, cb, rfl, hkd, hgl, H9⟩ := HC.out i hil
        obtain ⟨c0, c1, c2, _⟩ := H9 wr hB
        have H := hid ((H9 wr.drew hB.drew).2.2.2.out)
        clear H9
        go_wp2_with fail
        go_region_held3 (fun w' => w'.cell? ⟨g, o + i * 3, none⟩ = some (.string (bs n)) ∧ w'.cell? ⟨g, o + i * 3 + 1, none⟩ = some (.slice an l.length cn) ∧ w'.cell? ⟨g, o + i * 3 + 2, none⟩ = some (.slice ab s.len cb) ∧ w'.cell? ⟨w.heap.size, 0, none⟩ = some (.string (bs k.n)) ∧ w'.cell? ⟨w.heap.size, 1, none⟩ = some (.bool k.h) ∧ w'.cell? ⟨w.heap.size, 2, none⟩ = some (.int .i64 k.x))
          (first
            | (go_split_ands
               with_reducible refine ⟨below_cell hb3 ?_ ?_, below_cell hb3 ?_ ?_, below_cell hb3 ?_ ?_, below_cell hb3 ?_ ?_, below_cell hb3 ?_ ?_, below_cell hb3 ?_ ?_⟩
               all_goals (first | (with_reducible assumption) | (simp; done) | (simp; omega)))
            | go_keep)
          (first
            | (go_at_call 204; refine H.out.mono ?_
               rintro e w2 ⟨rfl, hb3⟩))
        have HB := hid (hB.drew.trans (hb3.mono (show w.heap.size ≤ _ by simpa using hsz)))
        clear hb3
        go_wp2_with fail
        go_ret2
        have hF2 := hF.out
        rw [bsF_stop (by omega)] at hF2
        exact ⟨by rw [hF2, hkd]; simp [hil]; rfl, HB.out⟩
      · obtain rfl : i = y.len := by omega
        go_wp2_with fail
        go_quiet (fail)
        have HB3 := hid (below_drewN hB nq)
        go_wp2_with fail
        go_ret2
        have hF2 := hF.out
        rw [bsF_stop (by omega)] at hF2
        exact ⟨by rw [hF2]; simp, HB3.out⟩
end Go.Proofs.LF
namespace Go.Proofs.LF
open Go.RowKit Go.Sort
set_option maxHeartbeats 4000000
set_option maxRecDepth 100000
attribute [local go_sem] bs_toList bs_size bs_get
theorem bs_sl (c : UInt8) (a : List UInt8) : (⟨#[c]⟩ : ByteArray) ++ bs a = bs (c :: a) := bs_add [c] a
attribute [local go_sem] bs_sl
theorem bs_47 (a : List UInt8) : ({ data := #[47] } : ByteArray) ++ bs a = bs (47 :: a) := bs_add [47] a
attribute [local go_sem] bs_47
theorem bs_58 (a : List UInt8) : ({ data := #[58] } : ByteArray) ++ bs a = bs (58 :: a) := bs_add [58] a
theorem bs_63 (a : List UInt8) : ({ data := #[63] } : ByteArray) ++ bs a = bs (63 :: a) := bs_add [63] a
attribute [local go_sem] bs_58 bs_63
def OkK (k : Ky) : Prop := k.n.length ≤ 1000 ∧ 0 ≤ k.x ∧ k.x ≤ 9999
theorem sptK_len {k : Ky} (h : OkK k) : (sptK k).length ≤ 1006 := by
  have h1 := itoa_len h.2.1 h.2.2
  simp only [sptK, List.length_append, List.length_cons]
  have := h.1
  split
  · simp; omega
  · split
    · simp; omega
    · simp; omega
theorem sptL_len {p : List Ky} : (∀ k ∈ p, OkK k) → (sptL p).length ≤ 1006 * p.length := by
  induction p with
  | nil => intro _; simp [sptL]
  | cons k p ih =>
    intro h
    have h1 := sptK_len (h k (by simp))
    have h2 := ih fun z hz => h z (by simp [hz])
    simp only [sptL, List.map_cons, List.flatten_cons, List.length_append, List.length_cons] at *
    omega
theorem sptL_take {p : List Ky} {k : Nat} (h : k < p.length) : sptL (p.take (k + 1)) = sptL (p.take k) ++ sptK p[k] := by
  unfold sptL
  rw [List.take_succ_eq_append_getElem h, List.map_append, List.flatten_append]; simp only [List.map_cons, List.map_nil, List.flatten_cons, List.flatten_nil, List.append_nil]
theorem spelt_any (p : List Ky) (a : Option Addr) (c : Nat) (S : Nat → Prop) (w : World) (hv : Pth S w (.slice a p.length c) p) (hS : ∀ b, S b → b < w.heap.size) (hlen : p.length ≤ 1000) (hok : ∀ k ∈ p, OkK k) (ht : Pow w) :
    Calls Tryz.prog 167 #[.slice a p.length c] w fun e w' => e = .returned (.string (bs (sptL p))) ∧ Below w.heap.size w w' := by
  have HV := hid hv
  have HOK := hid hok
  have HT := hid ht
  have HS := hid hS
  have hb0 : Bld w.heap.size (.slice none 0 0) [] (w.alloc (.cells #[.pointer none, .slice none 0 0] 144)) := ⟨_, .inl rfl, heap_alloc_new _ _, World.ownsRow_nil _ _ _ _, by simp [Value.ownBlock]⟩
  have HB0 := hid hb0
  clear hv hok ht hS hb0
  go_enter Tryz.func167, Tryz.ntmps167
  go_wp2_with fail
  go_loopw [8] (fun i wr => ∃ (k : Nat) (v : Value), k ≤ p.length ∧ i = .int .i64 k ∧ Hid (Bld w.heap.size v (sptL (p.take k)) wr) ∧ Hid (Below w.heap.size w wr)) (fun i _ => p.length - (intOf i).toNat)
  case atStart => exact ⟨0, .slice none 0 0, by omega, rfl, by simpa [Hid, sptL] using HB0.out, (Below.refl _ _).alloc (Nat.le_refl _) _⟩
  case round =>
    obtain ⟨k, v, hk, rfl, hb, hB⟩ := hrel
    have hsz := hB.out.size
    by_cases hlt : k < p.length
    · have hlt' : (k : Int) < (p.length : Int) := by omega
      obtain ⟨g, o, rfl, hg, _, _, hcell⟩ := SlC.cells HV.out (by omega)
      obtain ⟨k0, k1, k2⟩ := key_cells hlt
      have ha := Agree.of_below hB.out HS.out
      have c0 := ha.cell hg (hcell _ _ k0)
      have c1 := ha.cell hg (hcell _ _ k1)
      have c2 := ha.cell hg (hcell _ _ k2)
      rw [← Nat.add_assoc] at c1 c2
      have hkk := HOK.out p[k] (List.getElem_mem hlt)
      have hspl : (sptL (p.take k)).length ≤ 1006 * 1000 := by
        have h1 := sptL_len (p := p.take k) fun z hz => HOK.out z (List.mem_of_mem_take hz)
        rw [List.length_take] at h1
        have : min k p.length ≤ 1000 := by omega
        omega
      have hgen := sptL_take hlt
      have hK := hid (show sptK p[k] = 47 :: p[k].n ++ (if p[k].h then 58 :: Lib.itoa p[k].x else if p[k].x ≠ 0 then 63 :: Lib.itoa p[k].x else []) from rfl)
      obtain ⟨ky, hky⟩ : ∃ ky, p[k] = ky := ⟨_, rfl⟩
      rw [hky] at c0 c1 c2 hkk hgen hK
      have HG := hid hgen
      have HKK := hid hkk
      have HSP := hid hspl
      have hng : ¬ 9223372036854775807 < 1 + ky.n.length := by have := hkk.1; omega
      have hbw : Bld w.heap.size v (sptL (p.take k)) (wr.alloc (.cells #[.string (bs ky.n), .bool ky.h, .int .i64 ky.x] 71)) := hb.out.below ((Below.refl _ _).alloc (Nat.le_refl _) _)
      have HBW := hid hbw
      clear hcell k0 k1 k2 hky hgen hkk hspl hbw ha
      go_wp2_with fail
      refine (WriteString_any w.heap.size v _ (47 :: ky.n) _ HBW.out (by have := HSP.out; omega) (by have := HKK.out.1; simp; omega)).mono ?_
      rintro e w2 ⟨rfl, v2, hb2, hk2, hj2⟩
      have hBlo : ∀ b, BldO w.heap.size v b → b < wr.heap.size := fun b hb' => BldO.lt hb.out b hb'
      have hblk : w2.heap[wr.heap.size]? = some (.cells #[.string (bs ky.n), .bool ky.h, .int .i64 ky.x] 71 (0, 0)) := (hk2.block _ (by simp) (fun h => by have := hBlo _ h; omega)).trans (heap_alloc_new _ _)
      have e1 := cells_get hblk (k := 1) rfl
      have e2 := cells_get hblk (k := 2) rfl
      have HBL := hid hblk
      have hbel2 : Below w.heap.size w w2 := (hB.out.alloc hsz _).trans (hk2.below (by simp; omega) (fun b hb' ho => by
        rcases ho with rfl | ho
        · omega
        · have := (BldO.ge hb.out b (.inr ho)); omega))
      have HB2 := hid hbel2
      have HBD := hid hb2
      have hz2 := hk2.size
      simp only [World.size_alloc] at hz2
      have HKK2 := hid (show (47 :: ky.n).length ≤ 1001 by have := HKK.out.1; simp; omega)
      clear hbel2 hb2 hblk hk2 hj2
      by_cases hh : ky.h = true
      · have hlast : sptK ky = 47 :: ky.n ++ 58 :: Lib.itoa ky.x := by rw [hK.out, if_pos hh]
        have HL := hid hlast
        clear hlast
        go_wp2_with fail
        refine (Itoa_any ky.x (by have := HKK.out.2.1; omega) (by have := HKK.out.2.2; omega) _ (HT.out.below HB2.out)).mono ?_
        rintro e w3 ⟨rfl, hb3⟩
        have hil := itoa_len HKK.out.2.1 HKK.out.2.2
        have hng2 : ¬ 9223372036854775807 < 1 + (Lib.itoa ky.x).length := by omega
        have HBD3 := hid (HBD.out.below hb3)
        have HB3 := hid (HB2.out.trans (hb3.mono (by omega)))
        go_wp2_with fail
        refine (WriteString_any w.heap.size v2 _ (58 :: Lib.itoa ky.x) _ HBD3.out (by have h1 := HSP.out; have h2 := HKK2.out; simp only [List.length_append]; omega) (by simp; omega)).mono ?_
        rintro e w4 ⟨rfl, v4, hb4, hk4, hj4⟩
        have hbel4 : Below w.heap.size w w4 := HB3.out.trans (hk4.below (by have := HB3.out.size; omega) (fun b hb' ho => by
          have := BldO.ge HBD3.out b ho; omega))
        go_wp2_with fail
        go_roundw
        case rel => exact ⟨k + 1, v4, by omega, by go_num, by rw [Hid, HG.out, HL.out]; simpa using hb4, hbel4⟩
        case measure => simp [intOf]; omega
      · have hh' : ky.h = false := by simpa using hh
        by_cases hx : ky.x = 0
        · have hlast : sptK ky = 47 :: ky.n := by rw [hK.out, if_neg hh, if_neg (by simpa using hx), List.append_nil]
          have HL := hid hlast
          have hx' : (ky.x != 0) = false := by simpa using hx
          have HX := hid hx
          clear hlast hx
          go_wp2_with fail
          go_roundw
          case rel => exact ⟨k + 1, v2, by omega, by go_num, by rw [Hid, HG.out, HL.out]; exact HBD.out, HB2.out⟩
          case measure => simp [intOf]; omega
        · have hlast : sptK ky = 47 :: ky.n ++ 63 :: Lib.itoa ky.x := by rw [hK.out, if_neg hh, if_pos hx]
          have HL := hid hlast
          have hx' : (ky.x != 0) = true := by simpa using hx
          have HX := hid hx
          clear hlast hx
          go_wp2_with fail
          refine (Itoa_any ky.x (by have := HKK.out.2.1; omega) (by have := HKK.out.2.2; omega) _ (HT.out.below HB2.out)).mono ?_
          rintro e w3 ⟨rfl, hb3⟩
          have hil := itoa_len HKK.out.2.1 HKK.out.2.2
          have hng2 : ¬ 9223372036854775807 < 1 + (Lib.itoa ky.x).length := by omega
          have HBD3 := hid (HBD.out.below hb3)
          have HB3 := hid (HB2.out.trans (hb3.mono (by omega)))
          go_wp2_with fail
          refine (WriteString_any w.heap.size v2 _ (63 :: Lib.itoa ky.x) _ HBD3.out (by have h1 := HSP.out; have h2 := HKK2.out; simp only [List.length_append]; omega) (by simp; omega)).mono ?_
          rintro e w4 ⟨rfl, v4, hb4, hk4, hj4⟩
          have hbel4 : Below w.heap.size w w4 := HB3.out.trans (hk4.below (by have := HB3.out.size; omega) (fun b hb' ho => by
            have := BldO.ge HBD3.out b ho; omega))
          go_wp2_with fail
          go_roundw
          case rel => exact ⟨k + 1, v4, by omega, by go_num, by rw [Hid, HG.out, HL.out]; simpa using hb4, hbel4⟩
          case measure => simp [intOf]; omega
    · obtain rfl : k = p.length := by omega
      have hlt' : ¬ (p.length : Int) < (p.length : Int) := by omega
      go_wp2_with fail
      refine (Tryz.Builder_String_any_k _ _ _ _ (Lib.IsBuilderF.of hb.out.is) (Nat.le_of_lt hb.out.lt)).mono ?_
      rintro e W2 ⟨rfl, _, hbw, _⟩
      have HBW := hid hbw
      clear hbw
      go_wp2_with fail
      go_ret
      exact ⟨rfl, hB.out.trans HBW.out⟩
end Go.Proofs.LF
namespace Go.Proofs.LF
open Go.RowKit Go.Sort
set_option maxHeartbeats 4000000
set_option maxRecDepth 100000
attribute [local go_sem] bs_toList bs_size bs_get
def Grw (w w' : World) : Prop := ∃ q os, w' = grow (w.drewN q) os
theorem Grw.refl (w : World) : Grw w w := ⟨0, #[], by simp [World.drewN]⟩
theorem Grw.alloc {w w' : World} (h : Grw w w') (o : Obj) : Grw w (w'.alloc o) := by
  obtain ⟨q, os, rfl⟩ := h
  exact ⟨q, os ++ #[o], by rw [alloc_eq_grow, grow_grow]⟩
theorem Grw.trans {a b c : World} (h : Grw a b) (k : Grw b c) : Grw a c := by
  obtain ⟨q, os, rfl⟩ := h
  obtain ⟨r, os', rfl⟩ := k
  refine ⟨q + r, os ++ os', ?_⟩
  show grow (grow ((a.drewN q).drewN r) os) os' = _
  rw [grow_grow]
  congr 1
  simp [World.drewN, Nat.add_assoc]
theorem Grw.below {w w' : World} (h : Grw w w') : Below w.heap.size w w' := by
  obtain ⟨q, os, rfl⟩ := h
  exact ⟨rfl, rfl, rfl, by simp [grow, World.drewN], fun b hb => by
    show (w.heap ++ os)[b]? = _
    rw [Array.getElem?_append_left hb]⟩
theorem byKey_g (a b : Ky) (w : World) :
    Calls Tryz.prog 183 #[.agg #[.string (bs a.n), .bool a.h, .int .i64 a.x], .agg #[.string (bs b.n), .bool b.h, .int .i64 b.x]] w fun e w' => e = .returned (.int .i64 (byK a b)) ∧ Grw w w' := by
  obtain ⟨an, ah, ax⟩ := a
  obtain ⟨bn, bh, bx⟩ := b
  by_cases h : an = bn
  · have h' : (an == bn) = true := by simp [h]
    cases ah <;> cases bh
    all_goals
      go_enter Tryz.func183, Tryz.ntmps183
      go_wp2_with (first | (go_at_call 223; refine (cmps_any _ _ _).mono ?_; rintro e w' ⟨rfl, rfl⟩) | (go_at_call 224; refine (cmpi_any _ _ _).mono ?_; rintro e w' ⟨rfl, rfl⟩))
      go_ret
      exact ⟨ret_int (by simp [byK, h]), ((Grw.refl _).alloc _).alloc _⟩
  · have h' : (an == bn) = false := by simp [h]
    go_enter Tryz.func183, Tryz.ntmps183
    go_wp2_with (first | (go_at_call 223; refine (cmps_any _ _ _).mono ?_; rintro e w' ⟨rfl, rfl⟩) | (go_at_call 224; refine (cmpi_any _ _ _).mono ?_; rintro e w' ⟨rfl, rfl⟩))
    go_ret
    exact ⟨ret_int (by simp [byK, h]), ((Grw.refl _).alloc _).alloc _⟩
theorem cmpPaths_g (p q : List Ky) (ap aq : Option Addr) (cp cq : Nat) (S : Nat → Prop) (w : World) (hp : Pth S w (.slice ap p.length cp) p) (hq : Pth S w (.slice aq q.length cq) q) (hS : ∀ b, S b → b < w.heap.size) (lp : p.length ≤ 1000) (lq : q.length ≤ 1000) :
    Calls Tryz.prog 191 #[.slice ap p.length cp, .slice aq q.length cq, .func (.func 183) #[] #[]] w fun e w' => e = .returned (.int .i64 (cmpP p q)) ∧ Grw w w' := by
  go_enter Tryz.func191, Tryz.ntmps191
  go_wp2_with fail
  go_loopw [13] (fun i wr => ∃ k : Nat, k ≤ p.length ∧ k ≤ q.length ∧ i = .int .i64 k ∧ Hid (cmpP p q = cmpP (p.drop k) (q.drop k)) ∧ Grw w wr) (fun i _ => p.length - (intOf i).toNat)
  case atStart => exact ⟨0, by omega, by omega, rfl, by simp [Hid], Grw.refl _⟩
  case round =>
    obtain ⟨k, hk, hk2, rfl, hN, hB⟩ := hrel
    have hBG := hB
    replace hB := hB.below
    have hsz := hB.size
    by_cases hA : k < p.length
    · obtain ⟨g, o, rfl, hg, _, _, hcell⟩ := SlC.cells hp (by omega)
      obtain ⟨k0, k1, k2⟩ := key_cells hA
      have ha := Agree.of_below hB hS
      have c0 := ha.cell hg (hcell _ _ k0)
      have c1 := ha.cell hg (hcell _ _ k1)
      have c2 := ha.cell hg (hcell _ _ k2)
      rw [← Nat.add_assoc] at c1 c2
      by_cases hB2 : k < q.length
      · have a2 : ¬ (q.length : Int) ≤ (k : Int) := by omega
        have a3 : (k : Int) < (q.length : Int) := by omega
        obtain ⟨g', o', rfl, hg', _, _, hcell'⟩ := SlC.cells hq (by omega)
        obtain ⟨k0', k1', k2'⟩ := key_cells hB2
        have hbx : Below w.heap.size w (wr.alloc (.cells #[.string (bs p[k].n), .bool p[k].h, .int .i64 p[k].x] 71)) := hB.alloc hsz _
        have hax := Agree.of_below hbx hS
        have d0 := hax.cell hg' (hcell' _ _ k0')
        have d1 := hax.cell hg' (hcell' _ _ k1')
        have d2 := hax.cell hg' (hcell' _ _ k2')
        rw [← Nat.add_assoc] at d1 d2
        have hd : cmpP (p.drop k) (q.drop k) = if byK p[k] q[k] ≠ 0 then byK p[k] q[k] else cmpP (p.drop (k + 1)) (q.drop (k + 1)) := by
          rw [List.drop_eq_getElem_cons hA, List.drop_eq_getElem_cons hB2]; rfl
        have HD := hid hd
        have HBX := hid hbx
        clear hcell k0 k1 k2 hcell' k0' k1' k2' hd hbx hax
        go_wp2_with fail
        refine (byKey_g p[k] q[k] _).mono ?_
        rintro e w2 ⟨rfl, hb2⟩
        have HB2 := hid (((hBG.alloc _).alloc _).trans hb2)
        clear hb2
        by_cases he : byK p[k] q[k] = 0
        · have he' : (byK p[k] q[k] != 0) = false := by simpa using he
          have HE := hid he
          clear he
          go_wp2_with fail
          go_roundw
          case rel => exact ⟨k + 1, by omega, by omega, by go_num, by rw [Hid, hN.out, HD.out, if_neg (by simpa using HE.out)], HB2.out⟩
          case measure => simp [intOf]; omega
        · have he' : (byK p[k] q[k] != 0) = true := by simpa using he
          have HE := hid he
          clear he
          go_wp2_with fail
          go_ret
          exact ⟨ret_int (by rw [hN.out, HD.out, if_pos (by simpa using HE.out)]), HB2.out⟩
      · have a2 : (q.length : Int) ≤ (k : Int) := by omega
        have hd : cmpP (p.drop k) (q.drop k) = 1 := by
          rw [List.drop_eq_getElem_cons hA, List.drop_eq_nil_of_le (by omega : q.length ≤ k)]; rfl
        clear hcell k0 k1 k2
        go_wp2_with fail
        go_ret
        exact ⟨ret_int (by rw [hN.out, hd]), hBG.alloc _⟩
    · have hA' : ¬ (k : Int) < (p.length : Int) := by omega
      obtain rfl : k = p.length := by omega
      by_cases hB2 : p.length < q.length
      · have a2 : (p.length : Int) < (q.length : Int) := by omega
        have hd : cmpP (p.drop p.length) (q.drop p.length) = -1 := by
          rw [List.drop_eq_getElem_cons hB2, List.drop_length]; rfl
        go_wp2_with fail
        go_ret
        exact ⟨ret_int (by rw [hN.out, hd]), hBG⟩
      · have a2 : ¬ (p.length : Int) < (q.length : Int) := by omega
        have hd : cmpP (p.drop p.length) (q.drop p.length) = 0 := by
          rw [List.drop_length, List.drop_eq_nil_of_le (by omega)]; rfl
        go_wp2_with fail
        go_ret
        exact ⟨ret_int (by rw [hN.out, hd]), hBG⟩
theorem byPath_g (p q : List Ky) (ap aq : Option Addr) (cp cq : Nat) (S : Nat → Prop) (w : World) (hp : Pth S w (.slice ap p.length cp) p) (hq : Pth S w (.slice aq q.length cq) q) (hS : ∀ b, S b → b < w.heap.size) (lp : p.length ≤ 1000) (lq : q.length ≤ 1000) :
    Calls Tryz.prog 103 #[.slice ap p.length cp, .slice aq q.length cq] w fun e w' => e = .returned (.int .i64 (cmpP p q)) ∧ Grw w w' := by
  have H := hid (cmpPaths_g p q ap aq cp cq S w hp hq hS lp lq)
  go_enter Tryz.func103, Tryz.ntmps103
  go_wp2_with fail
  refine H.out.mono ?_
  rintro e w1 ⟨rfl, hb1⟩
  go_wp2_with fail
  go_ret
  exact ⟨rfl, hb1⟩
end Go.Proofs.LF
namespace Go.Proofs.LF
open Go.RowKit Go.Sort
set_option maxHeartbeats 4000000
set_option maxRecDepth 100000
attribute [local go_sem] bs_toList bs_size bs_get
theorem late_any (p q : List Ky) (ap aq al : Option Addr) (cp cq nl cl F : Nat) (S : Nat → Prop) (w : World) (hp : Pth S w (.slice ap p.length cp) p) (hq : Pth S w (.slice aq q.length cq) q) (hS : ∀ b, S b → b < w.heap.size) (lp : p.length ≤ 1000) (lq : q.length ≤ 1000)
    (hF : F < w.heap.size) (hc : w.cell? ⟨F, 0, none⟩ = some (.slice aq q.length cq)) :
    Calls Tryz.prog 102 #[.agg #[.slice ap p.length cp, .slice al nl cl], .pointer (some ⟨F, 0, none⟩)] w fun e w' => e = .returned (.bool (decide (0 ≤ cmpP p q))) ∧ Below w.heap.size w w' := by
  have hb : Below w.heap.size w (w.alloc (.cells #[.slice ap p.length cp, .slice al nl cl] 171)) := (Below.refl _ _).alloc (Nat.le_refl _) _
  have hc' := below_cell hb hF hc
  have ha := Agree.of_below hb hS
  have H := hid (byPath_any p q ap aq cp cq S _ (hp.agree ha) (hq.agree ha) (fun b h => by have := hS b h; simp; omega) lp lq)
  have HB := hid hb
  clear hb ha hp hq
  go_enter Tryz.func102, Tryz.ntmps102
  go_wp2_with fail
  refine H.out.mono ?_
  rintro e w1 ⟨rfl, hb1⟩
  have HB1 := hid (HB.out.trans (hb1.mono HB.out.size))
  clear hb1
  by_cases h : 0 ≤ cmpP p q
  · go_wp2_with fail
    go_ret
    exact ⟨ret_bool (by simp [h]), HB1.out⟩
  · go_wp2_with fail
    go_ret
    exact ⟨ret_bool (by simp [h]), HB1.out⟩
end Go.Proofs.LF
namespace Go.Proofs.LF
open Go.RowKit Go.Sort
set_option maxHeartbeats 4000000
set_option maxRecDepth 100000
attribute [local go_sem] bs_toList bs_size bs_get
theorem idxN_cases (p : Nat → Bool) (n : Nat) : (idxN p n = -1 ∧ ∀ i, i < n → p i = false) ∨ ∃ i, i < n ∧ idxN p n = (i : Int) ∧ p i = true ∧ ∀ j, j < i → p j = false := by
  unfold idxN
  cases h : (List.range n).find? p with
  | none =>
    left
    rw [List.find?_eq_none] at h
    exact ⟨rfl, fun i hi => by have := h i (by simpa using hi); simpa using this⟩
  | some k =>
    right
    rw [List.find?_range_eq_some] at h
    exact ⟨k, by simpa using h.2.1, rfl, h.1, fun j hj => by have := h.2.2 j hj; simpa using this⟩
theorem fstK_none {k : Ky} {y : Fo} (h : ∀ j, j < y.len → keyAt y j ≠ some k) : fstK k y = none := by
  rw [fstK_drop (i := y.len) h, Fo.drop_len]; rfl
theorem ret132 {tmps : Array Value} {W : World} {b : Nat} {x y z t5 : Value} (h : W.heap[b]? = some (.cells #[x, y, z] 85 (0, 0))) (h2 : tmps.getD 4 undef = .pointer (some ⟨b, 0, none⟩)) (h3 : tmps.getD 5 undef = t5) :
    (results Tryz.f132 tmps).run Tryz.prog W = .ok (.tuple #[.agg #[x, y, z], t5]) W := by
  have h0 := cells_get h (k := 0) rfl
  have h1 := cells_get h (k := 1) rfl
  have h4 := cells_get h (k := 2) rfl
  rw [results_cell_tmp rfl, h2, h3]
  simp [go_sem, h0, h1, h4]
theorem node_set {W : World} {b : Nat} {x y z x' y' z' : Value} (h : W.heap[b]? = some (.cells #[x, y, z] 85 (0, 0))) : (((W.setCell ⟨b, 0, none⟩ x').setCell ⟨b, 1, none⟩ y').setCell ⟨b, 2, none⟩ z').heap[b]? = some (.cells #[x', y', z'] 85 (0, 0)) := by
  simp [World.setCell, Array.getElem?_modify, h]
def AtR (y : Fo) (p : List Ky) (S : Nat → Prop) (w : World) (e : Ending) (w' : World) : Prop :=
  ∃ n l s an cn ab cb, (atF y p).getD ([], [], .nil) = (n, l, s) ∧ e = .returned (.tuple #[.agg #[.string (bs n), .slice an l.length cn, .slice ab s.len cb], .bool (atF y p).isSome]) ∧
    Ints S w' (.slice an l.length cn) l ∧ FSl S w' (.slice ab s.len cb) s ∧ Below w.heap.size w w'
theorem at_any (y : Fo) (p : List Ky) (ay ap : Option Addr) (cy cp : Nat) (S T : Nat → Prop) (w : World) (hv : FSl S w (.slice ay y.len cy) y) (hS : ∀ b, S b → b < w.heap.size) (hp : Pth T w (.slice ap p.length cp) p) (hT : ∀ b, T b → b < w.heap.size)
    (hlen : y.len ≤ 1000) (hsm : y.Sm) (lp : p.length ≤ 1000) :
    Calls Tryz.prog 132 #[.slice ay y.len cy, .slice ap p.length cp] w (AtR y p S w) := by
  have hb0 : Below w.heap.size w (w.alloc (.cells #[.string { data := #[] }, .slice none 0 0, .slice none 0 0] 85)) := (Below.refl _ _).alloc (Nat.le_refl _) _
  have HB0 := hid hb0
  have HV := hid hv
  have HP := hid hp
  have HS := hid hS
  have HT := hid hT
  have HSM := hid hsm
  clear hb0 hv hp hS hT hsm
  go_enter Tryz.func132, Tryz.ntmps132
  go_wp2_with fail
  go_loopw [0, 11] (fun v i wr => ∃ (k : Nat) (yk : Fo) (ak : Option Addr) (ck : Nat), k ≤ p.length ∧ i = .int .i64 k ∧ v = .slice ak yk.len ck ∧ Hid (FSl S w (.slice ak yk.len ck) yk) ∧ yk.len ≤ 1000 ∧ Hid yk.Sm ∧ Hid ((k < p.length ∨ k = 0) ∧ atF y p = atF yk (p.drop k)) ∧ Hid (wr.heap[w.heap.size]? = some (.cells #[.string { data := #[] }, .slice none 0 0, .slice none 0 0] 85 (0, 0))) ∧ Below w.heap.size w wr) (fun _ i _ => p.length - (intOf i).toNat)
  case atStart => exact ⟨0, y, ay, cy, Nat.zero_le _, rfl, rfl, HV.out, hlen, HSM.out, ⟨.inr rfl, rfl⟩, heap_alloc_new _ _, HB0.out⟩
  case round =>
    obtain ⟨k, yk, ak, ck, hk, rfl, rfl, hF, hl, hsm, hA, hres, hB⟩ := hrel
    have hsz := hB.size
    have r0 := cells_get hres.out (k := 0) rfl
    have r1 := cells_get hres.out (k := 1) rfl
    have r2 := cells_get hres.out (k := 2) rfl
    have f0 := cells_frz hres.out (k := 0)
    have f1 := cells_frz hres.out (k := 1)
    have f2 := cells_frz hres.out (k := 2)
    by_cases hlt : k < p.length
    · have hlt' : (k : Int) < (p.length : Int) := by omega
      obtain ⟨g, o, rfl, hg, _, _, hcell⟩ := SlC.cells HP.out (by omega)
      obtain ⟨k0, k1, k2⟩ := key_cells hlt
      have ha := Agree.of_below hB HT.out
      have c0 := ha.cell hg (hcell _ _ k0)
      have c1 := ha.cell hg (hcell _ _ k1)
      have c2 := ha.cell hg (hcell _ _ k2)
      rw [← Nat.add_assoc] at c1 c2
      have hdr : p.drop k = p[k] :: p.drop (k + 1) := List.drop_eq_getElem_cons hlt
      obtain ⟨ky, hky⟩ : ∃ ky, p[k] = ky := ⟨_, rfl⟩
      rw [hky] at c0 c1 c2 hdr
      have hBa : Below w.heap.size w (wr.alloc (.cells #[.string (bs ky.n), .bool ky.h, .int .i64 ky.x] 71)) := hB.alloc hsz _
      obtain ⟨cs, hcs1, hcs2⟩ := hF.out
      have hagA := Agree.of_below hBa HS.out
      have hnew := heap_alloc_new wr (.cells #[.string (bs ky.n), .bool ky.h, .int .i64 ky.x] 71)
      have HI := hid (idx_node 202 enters202 (fun i => decide (keyAt yk i = some ky)) [.pointer (some ⟨wr.heap.size, 0, none⟩)] yk.len ak ck cs S _ (hcs1.agree hagA) (fun b hb => by have := HS.out b hb; simp; omega) (by omega)
        (isK_node (hcs1.agree hagA) (hcs2.agree hagA) (fun b hb => by have := HS.out b hb; simp; omega) (by simp) (cells_get hnew (k := 0) rfl) (cells_get hnew (k := 1) rfl) (cells_get hnew (k := 2) rfl)))
      have HBA := hid hBa
      have HDR := hid hdr
      clear hcell k0 k1 k2 hky hdr hBa hcs1 hcs2 hagA hnew ha
      go_wp2_with fail
      refine HI.out.mono ?_
      rintro e w2 ⟨rfl, hb2⟩
      have hB2 := HBA.out.trans (hb2.mono (by simp; omega))
      have hwl : w.heap.size < wr.heap.size := (Array.getElem?_eq_some_iff.1 hres.out).1
      have hres2 : Hid (w2.heap[w.heap.size]? = some (.cells #[.string { data := #[] }, .slice none 0 0, .slice none 0 0] 85 (0, 0))) := (hb2.block _ (by simp; omega)).trans ((heap_alloc_old _ _ (by omega)).trans hres.out)
      have e0 := cells_get hres2.out (k := 0) rfl
      have e1 := cells_get hres2.out (k := 1) rfl
      have e2 := cells_get hres2.out (k := 2) rfl
      have q0 := cells_frz hres2.out (k := 0)
      have q1 := cells_frz hres2.out (k := 1)
      have q2 := cells_frz hres2.out (k := 2)
      have HB2 := hid hB2
      have hA2 := hA.out.2
      rw [HDR.out] at hA2
      clear hb2 hB2
      rcases idxN_cases (fun i => decide (keyAt yk i = some ky)) yk.len with ⟨hi, hall⟩ | ⟨i, hil, hi, hki, hbef⟩
      · rw [hi]
        have hfn : fstK ky yk = none := fstK_none fun j hj => by have := hall j hj; simpa using this
        have hnone : atF y p = none := by
          rw [hA2]
          simp only [atF, hfn]
        have HN := hid hnone
        clear hnone hall hi hfn hA2
        go_wp2_with fail
        refine bodyPost_ret (v := .tuple #[.agg #[.string { data := #[] }, .slice none 0 0, .slice none 0 0], .bool false]) (ret132 (node_set hres2.out) rfl rfl) rfl ?_
        refine ⟨[], [], .nil, none, 0, none, 0, by rw [HN.out]; rfl, by rw [HN.out]; rfl, ⟨rfl, none, 0, rfl, Nat.le_refl _, by simp [maxLen], fun _ => rfl, .inl rfl⟩, ⟨[], ⟨rfl, none, 0, rfl, Nat.le_refl _, by simp [maxLen], fun _ => rfl, .inl rfl⟩, rfl⟩, ?_⟩
        exact Below.setCell (Below.setCell (Below.setCell HB2.out (p := ⟨w.heap.size, 0, none⟩) (Nat.le_refl _) _) (p := ⟨w.heap.size, 1, none⟩) (Nat.le_refl _) _) (p := ⟨w.heap.size, 2, none⟩) (Nat.le_refl _) _
      · rw [hi]
        obtain ⟨a9, c9, he9, hc9, hm9, hat9⟩ := hF.out.at
        obtain ⟨rfl, rfl⟩ : ak = a9 ∧ ck = c9 := by cases he9; exact ⟨rfl, rfl⟩
        obtain ⟨g2, o2, n, l, s, r, an, cn, ab, cb, rfl, hg2, hd, m0, m1, m2, hI, hFs⟩ := hat9 i hil
        have hag2 : Agree S w w2 := Agree.of_below HB2.out HS.out
        have n0 := hag2.cell hg2 m0
        have n1 := hag2.cell hg2 m1
        have n2 := hag2.cell hg2 m2
        have hkn : kyOf n l = ky := by
          have : decide (keyAt yk i = some ky) = true := hki
          simp [keyAt, hd] at this
          exact this
        have hfn : fstK ky yk = some (n, l, s) := by
          rw [fstK_drop (i := i) (fun j hj => by have := hbef j hj; simpa using this), hd]
          simp [fstK, hkn]
        obtain ⟨s1, s2, s3, s4, _⟩ : n.length ≤ 1000 ∧ l.length ≤ 1000 ∧ s.len ≤ 1000 ∧ s.Sm ∧ r.Sm := by have := hsm.out.drop (i := i); rwa [hd] at this
        have hil' : (i : Int) < (yk.len : Int) := by omega
        have hi0 : (0 : Int) ≤ (i : Int) := by omega
        have HI2 := hid hI
        have HF2 := hid hFs
        have HAG := hid hag2
        unfold maxLen at hm9
        clear hi he9 hat9 m0 m1 m2 hd hki hbef hI hFs hag2 hkn
        by_cases hlast : k + 1 = p.length
        · have hl' : ((k : Int) == (p.length : Int) - 1) = true := by simp; omega
          have hat' : atF y p = some (n, l, s) := by
            rw [hA2, List.drop_eq_nil_of_le (by omega)]
            simp only [atF, hfn, if_true]
          have HAT := hid hat'
          clear hat' hA2 hfn
          have hfar := HI2.out.agree HAG.out
          have hff := HF2.out.agree HAG.out
          have hst : ∀ x y z, Agree S w2 (((w2.setCell ⟨w.heap.size, 0, none⟩ x).setCell ⟨w.heap.size, 1, none⟩ y).setCell ⟨w.heap.size, 2, none⟩ z) := fun x y z b hb => by
            have hlt := HS.out b hb
            have hB3 := Below.setCell (Below.setCell (Below.setCell (Below.refl w.heap.size w2) (p := ⟨w.heap.size, 0, none⟩) (Nat.le_refl _) x) (p := ⟨w.heap.size, 1, none⟩) (Nat.le_refl _) y) (p := ⟨w.heap.size, 2, none⟩) (Nat.le_refl _) z
            exact hB3.block b hlt
          have HIF := hid (hfar.agree (hst (.string (bs n)) (.slice an l.length cn) (.slice ab s.len cb)))
          have HFF := hid (hff.agree (hst (.string (bs n)) (.slice an l.length cn) (.slice ab s.len cb)))
          clear hfar hff hst
          go_wp2_with fail
          refine bodyPost_ret (v := .tuple #[.agg #[.string (bs n), .slice an l.length cn, .slice ab s.len cb], .bool true]) (ret132 (node_set hres2.out) rfl rfl) rfl ?_
          refine ⟨n, l, s, an, cn, ab, cb, by rw [HAT.out]; rfl, by rw [HAT.out]; rfl, HIF.out, HFF.out, ?_⟩
          exact Below.setCell (Below.setCell (Below.setCell HB2.out (p := ⟨w.heap.size, 0, none⟩) (Nat.le_refl _) _) (p := ⟨w.heap.size, 1, none⟩) (Nat.le_refl _) _) (p := ⟨w.heap.size, 2, none⟩) (Nat.le_refl _) _
        · have hl' : ((k : Int) == (p.length : Int) - 1) = false := by simp; omega
          have hne : p.drop (k + 1) ≠ [] := fun e => by have := congrArg List.length e; rw [List.length_drop] at this; simp at this; omega
          have hat' : atF y p = atF s (p.drop (k + 1)) := by
            rw [hA2]
            simp only [atF, hfn, hne, if_false]
          have HAT := hid hat'
          clear hat' hA2 hfn hne
          go_wp2_with fail
          go_roundw
          case rel => exact ⟨k + 1, s, ab, cb, by omega, by go_num, rfl, HF2.out, s3, hid s4, ⟨.inl (by omega), HAT.out⟩, hres2, HB2.out⟩
          case measure => simp [intOf]; omega
    · have hlt' : ¬ (k : Int) < (p.length : Int) := by omega
      obtain rfl : k = p.length := by omega
      have hnone : atF y p = none := by
        rcases hA.out.1 with h | h
        · omega
        · have : p = [] := List.eq_nil_of_length_eq_zero h
          rw [this]; cases y <;> rfl
      have HN := hid hnone
      clear hnone
      go_wp2_with fail
      refine bodyPost_ret (v := .tuple #[.agg #[.string { data := #[] }, .slice none 0 0, .slice none 0 0], .bool false]) (ret132 (node_set hres.out) rfl rfl) rfl ?_
      refine ⟨[], [], .nil, none, 0, none, 0, by rw [HN.out]; rfl, by rw [HN.out]; rfl, ⟨rfl, none, 0, rfl, Nat.le_refl _, by simp [maxLen], fun _ => rfl, .inl rfl⟩, ⟨[], ⟨rfl, none, 0, rfl, Nat.le_refl _, by simp [maxLen], fun _ => rfl, .inl rfl⟩, rfl⟩, ?_⟩
      exact Below.setCell (Below.setCell (Below.setCell hB (p := ⟨w.heap.size, 0, none⟩) (Nat.le_refl _) _) (p := ⟨w.heap.size, 1, none⟩) (Nat.le_refl _) _) (p := ⟨w.heap.size, 2, none⟩) (Nat.le_refl _) _
end Go.Proofs.LF
