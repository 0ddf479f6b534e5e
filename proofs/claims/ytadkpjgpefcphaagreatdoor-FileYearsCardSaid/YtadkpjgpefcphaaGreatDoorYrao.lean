/- Parts of the proof of a law of layer 11 (file): LfW4, LfW5, LfW6, LfW7. The conditions stand in each theorem. -/
import Derived.BigQuiet
import Derived.Deep.AppendLies
import Derived.Deep.QuietTactic
import Derived.Deep.RegionHeld3
import Derived.Laws.ResultCell
import Derived.Outline
import Derived.Test.YtadkpjgpefcphaaGreatDoorProg
import Derived.WalkKit
import Derived.WalkLawsBesides
import Derived.WalkSpells
import Derived.Test.YtadkpjgpefcphaaGreatDoorYraf
import Derived.Test.YtadkpjgpefcphaaGreatDoorYran
set_option linter.all false
set_option linter.unusedVariables false
set_option linter.unusedSimpArgs false
namespace Go.Proofs.LF
open Go.RowKit
set_option maxHeartbeats 1000000
set_option maxRecDepth 100000
attribute [local go_sem] bs_toList bs_size
theorem count_any (m : Nat) : ∀ (y : Fo) (d : Int) (a : Option Addr) (c : Nat) (S : Nat → Prop) (w : World), y.cnt < m → 0 ≤ d → d ≤ 9 → FSl S w (.slice a y.len c) y → (∀ b, S b → b < w.heap.size) →
    Calls Tryz.prog 84 #[.slice a y.len c, .int .i64 d] w fun e w' => e = .returned (.int .i64 (cntG d 0 y)) ∧ Below w.heap.size w w' := by
  induction m with
  | zero => intro y _ _ _ _ _ h; omega
  | succ m ih =>
  intro y d a c S w hcnt h0 h9 hv hS
  obtain ⟨_, _, he, hc, hm, hat⟩ := hv.at
  cases he
  have IH := hid ih
  clear ih
  unfold maxLen at hm
  go_enter Tryz.func84, Tryz.ntmps84
  go_wp2_with fail
  go_loopw [5, 10] (fun v i wr => ∃ (k : Nat) (n : Int), k ≤ y.len ∧ i = .int .i64 k ∧ v = .int .i64 n ∧ 0 ≤ n ∧ n ≤ 3000 ∧ Hid (cntG d 0 y = cntG d n (y.drop k)) ∧ Below w.heap.size w wr) (fun _ i _ => y.len - (intOf i).toNat)
  case atStart => exact ⟨0, 0, by omega, rfl, rfl, by omega, by omega, rfl, Below.refl _ _⟩
  case round =>
    obtain ⟨k, n, hk, rfl, rfl, hn0, hn1, H2, hB⟩ := hrel
    have HAT := hid hat
    clear hat
    by_cases hlt : k < y.len
    · obtain ⟨g, o, nm, l, s, r, an, cn, ab, cb, rfl, hg1, hd, hc0, hc1, hc2, hI, hF⟩ := HAT.out k hlt
      have ha : Agree S w wr := Agree.of_below hB hS
      have c0 := ha.cell hg1 hc0
      have c1 := ha.cell hg1 hc1
      have c2 := ha.cell hg1 hc2
      have s5 := Fo.cnt_at hd
      have HD := hid hd
      have hsz := hB.size
      have hcap := (SlC.caps hI).1
      have hcap2 := (SlC.caps hI).2.1
      clear hc0 hc1 hc2 hd
      have H3 : Hid (cntG d 0 y = if 8 < d ∨ 80 < n ∨ 8 < (l.length : Int) ∨ 20 < (nm.length : Int) then 1000 else cntG d (n + (1 + cntG (d + 1) 0 s)) (y.drop (k + 1))) := by
        rw [Hid, H2.out, HD.out, Fo.drop_succ HD.out]; rfl
      by_cases h1 : 8 < d ∨ 80 < n ∨ 8 < (l.length : Int) ∨ 20 < (nm.length : Int)
      · have H4 := hid (H3.out.trans (if_pos h1))
        by_cases t1 : 8 < d
        · clear h1
          go_wp2_with fail
          go_ret
          exact ⟨ret_int H4.out.symm, hB.alloc hsz _⟩
        · by_cases t2 : 80 < n
          · clear h1
            go_wp2_with fail
            go_ret
            exact ⟨ret_int H4.out.symm, hB.alloc hsz _⟩
          · by_cases t3 : 8 < (l.length : Int)
            · clear h1
              go_wp2_with fail
              go_ret
              exact ⟨ret_int H4.out.symm, hB.alloc hsz _⟩
            · have t4 : 20 < (nm.length : Int) := by omega
              clear h1
              go_wp2_with fail
              go_ret
              exact ⟨ret_int H4.out.symm, hB.alloc hsz _⟩
      · have H4 := hid (H3.out.trans (if_neg h1))
        have t1 : ¬ 8 < d := by omega
        have t2 : ¬ 80 < n := by omega
        have t3 : ¬ 8 < (l.length : Int) := by omega
        have t4 : ¬ 20 < (nm.length : Int) := by omega
        clear h1
        have hcb := cntG_sub s d h0 (by omega)
        obtain ⟨hcb1, hcb2⟩ := hcb
        go_wp2_with fail
        refine (IH.out s (d + 1) ab cb S _ (by omega) (by omega) (by omega) (hF.agree (Agree.of_below (B := w.heap.size) (hB.alloc hsz _) hS)) ?_).mono ?_
        · intro b hb; have := hS b hb; simp; omega
        · rintro e w1 ⟨rfl, hb1⟩
          go_wp2_with fail
          go_roundw
          case rel => exact ⟨k + 1, n + (1 + cntG (d + 1) 0 s), by omega, by go_num, rfl, by omega, by omega, H4.out, (hB.alloc hsz _).trans (hb1.mono (by simp; omega))⟩
          case measure => simp [intOf]; omega
    · go_wp2_with fail
      go_ret
      obtain rfl : k = y.len := by omega
      exact ⟨ret_int (by rw [H2.out, Fo.drop_len]; rfl), hB⟩
theorem deep_any (y : Fo) (a : Option Addr) (c : Nat) (S : Nat → Prop) (w : World) (hv : FSl S w (.slice a y.len c) y) (hS : ∀ b, S b → b < w.heap.size) :
    Calls Tryz.prog 17 #[.slice a y.len c, .int .i64 0] w fun e w' => e = .returned (.bool (decide (80 < cntG 0 0 y))) ∧ Below w.heap.size w w' := by
  go_enter Tryz.func17, Tryz.ntmps17
  go_wp2_with fail
  refine (count_any (y.cnt + 1) y 0 a c S w (by omega) (by omega) (by omega) hv hS).mono ?_
  rintro e w1 ⟨rfl, hb1⟩
  go_wp2_with fail
  go_ret
  exact ⟨rfl, hb1⟩
theorem many_any (m : Nat) : ∀ (y : Fo) (most : Int) (a : Option Addr) (c : Nat) (S : Nat → Prop) (w : World), y.cnt < m → 0 ≤ most → most ≤ 100 → FSl S w (.slice a y.len c) y → (∀ b, S b → b < w.heap.size) →
    Calls Tryz.prog 86 #[.slice a y.len c, .int .i64 most] w fun e w' => e = .returned (.int .i64 (many y most)) ∧ w = w' := by
  induction m with
  | zero => intro y _ _ _ _ _ h; omega
  | succ m ih =>
  intro y most a c S w hcnt h0 h9 hv hS
  obtain ⟨_, _, he, hc, hm, hat⟩ := hv.at
  cases he
  have IH := hid ih
  clear ih
  unfold maxLen at hm
  go_enter Tryz.func86, Tryz.ntmps86
  go_wp2_with fail
  go_loop [5, 6] (fun v i => ∃ (k : Nat) (n : Int), k ≤ y.len ∧ i = .int .i64 k ∧ v = .int .i64 n ∧ 0 ≤ n ∧ n ≤ most + 2 ∧ Hid (manyG most 0 y = manyG most n (y.drop k))) (fun _ i => y.len - (intOf i).toNat)
  case atStart => exact ⟨0, 0, by omega, rfl, rfl, by omega, by omega, rfl⟩
  case round =>
    obtain ⟨k, n, hk, rfl, rfl, hn0, hn1, H2⟩ := hrel
    have HAT := hid hat
    clear hat
    by_cases hlt : k < y.len
    · obtain ⟨g, o, nm, l, s, r, an, cn, ab, cb, rfl, hg1, hd, hc0, hc1, hc2, hI, hF⟩ := HAT.out k hlt
      have s5 := Fo.cnt_at hd
      have HD := hid hd
      clear hd
      have H3 : Hid (manyG most 0 y = if n ≤ most then manyG most (n + 1 + many s (most - n)) (y.drop (k + 1)) else n) := by
        rw [Hid, H2.out, HD.out, Fo.drop_succ HD.out]; rfl
      by_cases h1 : n ≤ most
      · have H4 := hid (H3.out.trans (if_pos h1))
        obtain ⟨hb1, hb2⟩ := many_bound s (most - n) (by omega)
        go_wp2_with fail
        refine (IH.out s (most - n) ab cb S _ (by omega) (by omega) (by omega) hF hS).mono ?_
        rintro e w1 ⟨rfl, rfl⟩
        go_wp2_with fail
        go_round
        case rel => exact ⟨k + 1, n + 1 + many s (most - n), by omega, by go_num, rfl, by omega, by omega, H4.out⟩
        case measure => simp [intOf]; omega
      · have H4 := hid (H3.out.trans (if_neg h1))
        go_wp2_with fail
        all_goals
          go_ret
          exact ⟨ret_int (by unfold many; rw [H4.out] <;> omega), rfl⟩
    · go_wp2_with fail
      all_goals
        go_ret
        obtain rfl : k = y.len := by omega
        exact ⟨ret_int (by unfold many; rw [H2.out, Fo.drop_len]; simp only [manyG] <;> omega), rfl⟩
end Go.Proofs.LF
namespace Go.Proofs.LF
open Go.RowKit
set_option maxHeartbeats 2000000
set_option maxRecDepth 100000
attribute [local go_sem] bs_toList bs_size bs_get
theorem badName_any (s : List UInt8) (w : World) (hlen : s.length ≤ 1000000) :
    Calls Tryz.prog 145 #[.string (bs s)] w fun e w' => e = .returned (.bool (badNm s)) ∧ w = w' := by
  go_enter Tryz.func145, Tryz.ntmps145
  go_wp2_with fail
  go_loop [3] (fun i => ∃ k : Nat, k ≤ s.length ∧ i = .int .i64 k ∧ Hid (∀ j (h : j < s.length), j < k → ¬ ((s[j].toNat : Int) < 97 ∨ 122 < (s[j].toNat : Int)))) (fun i => s.length - (intOf i).toNat)
  case atStart => exact ⟨0, by omega, rfl, fun j _ h => by omega⟩
  case round =>
    obtain ⟨k, hk, rfl, H2⟩ := hrel
    by_cases hlt : k < s.length
    · by_cases hok : (s[k].toNat : Int) < 97 ∨ 122 < (s[k].toNat : Int)
      · have HB : Hid (badNm s = true) := by
          simp only [Hid, badNm, Bool.or_eq_true, List.any_eq_true]
          exact .inl (.inl ⟨s[k]'hlt, List.getElem_mem hlt, by simpa using hok⟩)
        by_cases h97 : (s[k].toNat : Int) < 97
        · clear hok
          go_wp2_with fail
          go_ret
          exact ⟨ret_bool HB.out.symm, rfl⟩
        · have h122 : 122 < (s[k].toNat : Int) := by omega
          clear hok
          go_wp2_with fail
          go_ret
          exact ⟨ret_bool HB.out.symm, rfl⟩
      · have h1 : ¬ (s[k].toNat : Int) < 97 := by omega
        have h2 : ¬ 122 < (s[k].toNat : Int) := by omega
        have HO := hid hok
        clear hok
        go_wp2_with fail
        go_round
        case rel => exact ⟨k + 1, by omega, by go_num, fun j hj h => by rcases Nat.lt_succ_iff_lt_or_eq.1 h with h' | h'; exact H2.out j hj h'; subst h'; exact HO.out⟩
        case measure => simp [intOf]; omega
    · have hs0 : s.any (fun c => decide ((c.toNat : Int) < 97) || decide (122 < (c.toNat : Int))) = false := by
        rw [List.any_eq_false]
        intro c hc
        obtain ⟨j, hj, rfl⟩ := List.getElem_of_mem hc
        have := H2.out j hj (by omega)
        simpa using this
      have HS := hid hs0
      clear hs0
      by_cases h1 : (s.length : Int) < 1
      · go_wp2_with fail
        go_ret
        exact ⟨ret_bool (by simp only [badNm, HS.out]; simp [h1]), rfl⟩
      · go_wp2_with fail
        go_ret
        exact ⟨ret_bool (by simp only [badNm, HS.out]; simp; omega), rfl⟩
theorem check_any (m : Nat) : ∀ (y : Fo) (d : Int) (a : Option Addr) (c : Nat) (S : Nat → Prop) (w : World), y.cnt < m → 0 ≤ d → d ≤ 4 → FSl S w (.slice a y.len c) y → (∀ b, S b → b < w.heap.size) → y.len ≤ 1000 → y.Sm →
    Calls Tryz.prog 87 #[.slice a y.len c, .int .i64 d] w fun e w' => e = .returned (.int .i64 (chkF d y)) ∧ Below w.heap.size w w' := by
  induction m with
  | zero => intro y _ _ _ _ _ h; omega
  | succ m ih =>
  intro y d a c S w hcnt h0 h9 hv hS hlen hsm
  obtain ⟨_, _, he, hc, hm, hat⟩ := hv.at
  cases he
  have IH := hid ih
  clear ih
  unfold maxLen at hm
  go_enter Tryz.func87, Tryz.ntmps87
  go_wp2_with fail
  go_loopw [5] (fun i wr => ∃ (k : Nat) (p : Option Ky), k ≤ y.len ∧ i = .int .i64 k ∧ Hid (chkF d y = ordG nbefK d p (y.drop k)) ∧ Hid ((k = 0 ∧ p = none) ∨ 0 < k ∧ ∃ n l s r, y.drop (k - 1) = .cons n l s r ∧ p = some (kyOf n l)) ∧ Below w.heap.size w wr) (fun i _ => y.len - (intOf i).toNat)
  case atStart => exact ⟨0, none, by omega, rfl, rfl, .inl ⟨rfl, rfl⟩, Below.refl _ _⟩
  case round =>
    obtain ⟨k, p, hk, rfl, H2, HP, hB⟩ := hrel
    have HAT := hid hat
    clear hat
    by_cases hlt : k < y.len
    · obtain ⟨g, o, nm, l, s, r, an, cn, ab, cb, rfl, hg1, hd, hc0, hc1, hc2, hI, hF⟩ := HAT.out k hlt
      have ha : Agree S w wr := Agree.of_below hB hS
      have c0 := ha.cell hg1 hc0
      have c1 := ha.cell hg1 hc1
      have c2 := ha.cell hg1 hc2
      obtain ⟨s1, s2, s3, s4, _⟩ : nm.length ≤ 1000 ∧ l.length ≤ 1000 ∧ s.len ≤ 1000 ∧ s.Sm ∧ r.Sm := by have := hsm.drop (i := k); rwa [hd] at this
      have s5 := Fo.cnt_at hd
      have HD := hid hd
      have hsz := hB.size
      have hcap := (SlC.caps hI).1
      have hcap2 := (SlC.caps hI).2.1
      clear hc0 hc1 hc2 hd
      have H3 : Hid (chkF d y = ordG nbefK d p (.cons nm l s (y.drop (k + 1)))) := by
        rw [Hid, H2.out, HD.out, Fo.drop_succ HD.out]
      simp only [ordG] at H3
      have hBx := hid (hB.alloc hsz (.cells #[.string (bs nm), .slice an l.length cn, .slice ab s.len cb] 97))
      by_cases t1 : 3 < d
      · have H4 := hid (H3.out.trans (if_pos t1))
        go_wp2_with fail
        go_ret
        exact ⟨ret_int H4.out.symm, hBx.out⟩
      · have H4 := hid (H3.out.trans (if_neg t1))
        clear H3
        cases t2 : badNm nm with
        | true =>
          have H5 := hid (H4.out.trans (if_pos t2))
          have T2 := hid t2
          clear t2
          go_wp2_with (go_at_call 145; refine (badName_any _ _ (by omega)).mono ?_; rintro e w1 ⟨rfl, rfl⟩; rw [T2.out])
          go_ret
          exact ⟨ret_int H5.out.symm, hBx.out⟩
        | false =>
        have H5 := hid (H4.out.trans (if_neg (by rw [t2]; simp)))
        have T2 := hid t2
        clear t2 H4
        by_cases t3 : 4 < (l.length : Int)
        · have H6 := hid (H5.out.trans (if_pos t3))
          go_wp2_with (go_at_call 145; refine (badName_any _ _ (by omega)).mono ?_; rintro e w1 ⟨rfl, rfl⟩; rw [T2.out])
          go_ret
          exact ⟨ret_int H6.out.symm, hBx.out⟩
        · have H6 := hid (H5.out.trans (if_neg t3))
          clear H5
          cases t4 : badNs l with
          | true =>
            have H7 := hid (H6.out.trans (if_pos t4))
            have T4 := hid t4
            clear t4
            go_wp2_with (first | (go_at_call 145; refine (badName_any _ _ (by omega)).mono ?_; rintro e w1 ⟨rfl, rfl⟩; rw [T2.out]) | (go_at_call 147; refine (badNumbers_any l an cn S _ (hI.agree (Agree.of_below (B := w.heap.size) hBx.out hS)) (by omega)).mono ?_; rintro e w1 ⟨rfl, rfl⟩; rw [T4.out]))
            go_ret
            exact ⟨ret_int H7.out.symm, hBx.out⟩
          | false =>
          have H7 := hid (H6.out.trans (if_neg (by rw [t4]; simp)))
          have T4 := hid t4
          clear t4 H6
          go_wp2_with (first | (go_at_call 145; refine (badName_any _ _ (by omega)).mono ?_; rintro e w1 ⟨rfl, rfl⟩; rw [T2.out]) | (go_at_call 147; refine (badNumbers_any l an cn S _ (hI.agree (Agree.of_below (B := w.heap.size) hBx.out hS)) (by omega)).mono ?_; rintro e w1 ⟨rfl, rfl⟩; rw [T4.out]))
          have hb0 : ∀ b, S b → b < (wr.alloc (.cells #[.string (bs nm), .slice an l.length cn, .slice ab s.len cb] 97)).heap.size := fun b hb => by have := hS b hb; simp; omega
          have HS0 := hid hb0
          clear hb0
          by_cases t5 : 0 < (k : Int)
          · obtain ⟨g', o', nm', l', s', r', an', cn', ab', cb', he', hg1', hd', hc0', hc1', hc2', hI', hF'⟩ := HAT.out (k - 1) (by omega)
            cases he'
            have hp : p = some (kyOf nm' l') := by
              rcases HP.out with ⟨h0, _⟩ | ⟨_, n2, l2, s2, r2, e1, e2⟩
              · omega
              · rw [hd'] at e1; cases e1; exact e2
            subst hp
            obtain ⟨p1, p2, _⟩ : nm'.length ≤ 1000 ∧ l'.length ≤ 1000 ∧ s'.len ≤ 1000 ∧ s'.Sm ∧ r'.Sm := by have := hsm.drop (i := k - 1); rwa [hd'] at this
            have d0 := ha.cell hg1' hc0'
            have d1 := ha.cell hg1' hc1'
            have hgw := hS _ hg1'
            clear hc0' hc1' hc2' hF' hd'
            simp only at H7
            have d2 : wr.cell? ⟨wr.heap.size, 2, none⟩ = none := by simp [World.cell?]
            clear d2
            have tok1 : True := trivial
            have t5a : decide (0 < (k : Int)) = true := decide_eq_true t5
            have t5b : decide (0 < k) = true := decide_eq_true (by omega)
            have t5c : 0 < k := by omega
            have b1 : (0 : Int) ≤ (k : Int) - 1 := by omega
            have b2 : (k : Int) - 1 < (y.len : Int) := by omega
            have b3 : ((k : Int) - 1).toNat = k - 1 := by omega
            have b5 : (1 : Int) ≤ (k : Int) := by omega
            have b6 : (k : Int) ≤ (y.len : Int) := by omega
            have b7 : 1 ≤ k := by omega
            have b4 : IntKind.i64.wrap ((k : Int) - 1) = (k : Int) - 1 := IntWalk.i64_in _ (by omega)
            go_region_held3 (fun w' => w'.cell? ⟨wr.heap.size, 0, none⟩ = some (.string (bs nm)) ∧ w'.cell? ⟨wr.heap.size, 1, none⟩ = some (.slice an l.length cn) ∧ w'.cell? ⟨wr.heap.size, 2, none⟩ = some (.slice ab s.len cb) ∧ w'.cell? ⟨g, o + (k - 1) * 3, none⟩ = some (.string (bs nm')) ∧ w'.cell? ⟨g, o + (k - 1) * 3 + 1, none⟩ = some (.slice an' l'.length cn'))
              (first | go_keep | (go_split_ands; exact ⟨below_cell hb1 (by simp) (by assumption), below_cell hb1 (by simp) (by assumption), below_cell hb1 (by simp) (by assumption), below_cell hb1 (by simp; omega) (by assumption), below_cell hb1 (by simp; omega) (by assumption)⟩) | (go_split_ands; have hlt2 := hb1.size; exact ⟨below_cell hb2 (by simp at hlt2; omega) (by assumption), below_cell hb2 (by simp at hlt2; omega) (by assumption), below_cell hb2 (by simp at hlt2; omega) (by assumption), below_cell hb2 (by simp at hlt2; omega) (by assumption), below_cell hb2 (by simp at hlt2; omega) (by assumption)⟩) | (go_split_ands; have hlt2 := hb1.size; have hlt3 := hb2.size; exact ⟨below_cell hb3 (by simp at hlt2; omega) (by assumption), below_cell hb3 (by simp at hlt2; omega) (by assumption), below_cell hb3 (by simp at hlt2; omega) (by assumption), below_cell hb3 (by simp at hlt2; omega) (by assumption), below_cell hb3 (by simp at hlt2; omega) (by assumption)⟩))
              (first
                | (go_at_call 107; have _t := tok1; refine (KeyOf_any nm' l' an' cn' S _ (hI'.agree (Agree.of_below (B := w.heap.size) hBx.out.drew hS)) ?_).mono ?_; (exact HS0.out); clear tok1; rintro e w1 ⟨rfl, hb1⟩)
                | (go_at_call 107; refine (KeyOf_any nm l an cn S _ (hI.agree (Agree.of_below (B := w.heap.size) (hBx.out.drew.trans (hb1.mono (by simp; omega))) hS)) ?_).mono ?_; (intro b hb; have := hS b hb; have := hb1.size; simp at this; omega); rintro e w2 ⟨rfl, hb2⟩)
                | (go_at_call 108; refine (before_any (kyOf nm' l') (kyOf nm l) _).mono ?_; rintro e w3 ⟨rfl, hb3⟩))
            have HB3 : Hid (Below w.heap.size w w3) := ((hBx.out.drew.trans (hb1.mono (by simp; omega))).trans (hb2.mono (by have := hb1.size; simp at this; omega))).trans (hb3.mono (by have := hb1.size; have := hb2.size; simp at *; omega))
            clear b1 b2 b3 b4 b5 b6 b7
            go_split_ands
            cases t6 : befK (kyOf nm' l') (kyOf nm l) with
            | false =>
              have H8 := hid (H7.out.trans (if_pos (by unfold nbefK; rw [t6]; rfl)))
              go_wp2_with fail
              go_ret
              exact ⟨ret_int H8.out.symm, HB3.out⟩
            | true =>
              have H8 := hid (H7.out.trans (if_neg (by unfold nbefK; rw [t6]; simp)))
              by_cases t7 : chkF (d + 1) s = 0
              · have H9 := hid (H8.out.trans (if_neg (show ¬ (ordG nbefK (d + 1) none s ≠ 0) from fun h => h t7)))
                go_wp2_with fail
                refine (IH.out s (d + 1) ab cb S _ (by omega) (by omega) (by omega) (hF.agree (Agree.of_below (B := w.heap.size) HB3.out hS)) ?_ s3 s4).mono ?_
                · intro b hb; have := hS b hb; have := HB3.out.size; (try simp at this ⊢); omega
                · rintro e w4 ⟨rfl, hb4⟩
                  rw [t7]
                  go_wp2_with fail
                  go_roundw
                  case rel => exact ⟨k + 1, some (kyOf nm l), by omega, by go_num, H9.out, .inr ⟨by omega, nm, l, s, r, HD.out, rfl⟩, HB3.out.trans (hb4.mono HB3.out.size)⟩
                  case measure => simp [intOf]; omega
              · have H9 := hid (H8.out.trans (if_pos (show (ordG nbefK (d + 1) none s ≠ 0) from t7)))
                have t8 : (chkF (d + 1) s != 0) = true := by simpa using t7
                clear t7
                go_wp2_with fail
                refine (IH.out s (d + 1) ab cb S _ (by omega) (by omega) (by omega) (hF.agree (Agree.of_below (B := w.heap.size) HB3.out hS)) ?_ s3 s4).mono ?_
                · intro b hb; have := hS b hb; have := HB3.out.size; (try simp at this ⊢); omega
                · rintro e w4 ⟨rfl, hb4⟩
                  go_wp2_with fail
                  go_ret
                  exact ⟨ret_int H9.out.symm, HB3.out.trans (hb4.mono HB3.out.size)⟩
          · have hp : p = none := by
              rcases HP.out with ⟨_, h0⟩ | ⟨h0, _⟩
              · exact h0
              · omega
            subst hp
            simp only at H7
            have t5a : decide (0 < (k : Int)) = false := decide_eq_false t5
            have t5b : decide (0 < k) = false := decide_eq_false (by omega)
            have H8 := hid (H7.out.trans (if_neg (by simp)))
            go_quiet (fail)
            have HB3 := hid (below_drewN hBx.out nq)
            by_cases t7 : chkF (d + 1) s = 0
            · have H9 := hid (H8.out.trans (if_neg (show ¬ (ordG nbefK (d + 1) none s ≠ 0) from fun h => h t7)))
              go_wp2_with fail
              refine (IH.out s (d + 1) ab cb S _ (by omega) (by omega) (by omega) (hF.agree (Agree.of_below (B := w.heap.size) HB3.out hS)) ?_ s3 s4).mono ?_
              · intro b hb; have := hS b hb; have := HB3.out.size; (try simp at this ⊢); omega
              · rintro e w4 ⟨rfl, hb4⟩
                rw [t7]
                go_wp2_with fail
                go_roundw
                case rel => exact ⟨k + 1, some (kyOf nm l), by omega, by go_num, H9.out, .inr ⟨by omega, nm, l, s, r, HD.out, rfl⟩, HB3.out.trans (hb4.mono HB3.out.size)⟩
                case measure => simp [intOf]; omega
            · have H9 := hid (H8.out.trans (if_pos (show (ordG nbefK (d + 1) none s ≠ 0) from t7)))
              have t8 : (chkF (d + 1) s != 0) = true := by simpa using t7
              clear t7
              go_wp2_with fail
              refine (IH.out s (d + 1) ab cb S _ (by omega) (by omega) (by omega) (hF.agree (Agree.of_below (B := w.heap.size) HB3.out hS)) ?_ s3 s4).mono ?_
              · intro b hb; have := hS b hb; have := HB3.out.size; (try simp at this ⊢); omega
              · rintro e w4 ⟨rfl, hb4⟩
                go_wp2_with fail
                go_ret
                exact ⟨ret_int H9.out.symm, HB3.out.trans (hb4.mono HB3.out.size)⟩
    · go_wp2_with fail
      go_ret
      obtain rfl : k = y.len := by omega
      exact ⟨ret_int (by rw [H2.out, Fo.drop_len]; rfl), hB⟩
end Go.Proofs.LF
namespace Go.Proofs.LF
open Go.RowKit
set_option maxHeartbeats 2000000
set_option maxRecDepth 100000
attribute [local go_sem] bs_toList bs_size bs_get
theorem ordered_any (m : Nat) : ∀ (y : Fo) (d : Int) (a : Option Addr) (c : Nat) (S : Nat → Prop) (w : World), y.cnt < m → 0 ≤ d → d ≤ 4 → FSl S w (.slice a y.len c) y → (∀ b, S b → b < w.heap.size) → y.len ≤ 1000 → y.Sm →
    Calls Tryz.prog 95 #[.int .i64 d, .slice a y.len c] w fun e w' => e = .returned (.int .i64 (ordF d y)) ∧ Below w.heap.size w w' := by
  induction m with
  | zero => intro y _ _ _ _ _ h; omega
  | succ m ih =>
  intro y d a c S w hcnt h0 h9 hv hS hlen hsm
  obtain ⟨_, _, he, hc, hm, hat⟩ := hv.at
  cases he
  have IH := hid ih
  clear ih
  unfold maxLen at hm
  go_enter Tryz.func95, Tryz.ntmps95
  go_wp2_with fail
  go_loopw [10] (fun i wr => ∃ (k : Nat) (p : Option Ky), k ≤ y.len ∧ i = .int .i64 k ∧ Hid (ordF d y = ordG geK d p (y.drop k)) ∧ Hid ((k = 0 ∧ p = none) ∨ 0 < k ∧ ∃ n l s r, y.drop (k - 1) = .cons n l s r ∧ p = some (kyOf n l)) ∧ Below w.heap.size w wr) (fun i _ => y.len - (intOf i).toNat)
  case atStart => exact ⟨0, none, by omega, rfl, rfl, .inl ⟨rfl, rfl⟩, Below.refl _ _⟩
  case round =>
    obtain ⟨k, p, hk, rfl, H2, HP, hB⟩ := hrel
    have HAT := hid hat
    clear hat
    by_cases hlt : k < y.len
    · obtain ⟨g, o, nm, l, s, r, an, cn, ab, cb, rfl, hg1, hd, hc0, hc1, hc2, hI, hF⟩ := HAT.out k hlt
      have ha : Agree S w wr := Agree.of_below hB hS
      have c0 := ha.cell hg1 hc0
      have c1 := ha.cell hg1 hc1
      have c2 := ha.cell hg1 hc2
      obtain ⟨s1, s2, s3, s4, _⟩ : nm.length ≤ 1000 ∧ l.length ≤ 1000 ∧ s.len ≤ 1000 ∧ s.Sm ∧ r.Sm := by have := hsm.drop (i := k); rwa [hd] at this
      have s5 := Fo.cnt_at hd
      have HD := hid hd
      have hsz := hB.size
      have hcap := (SlC.caps hI).1
      have hcap2 := (SlC.caps hI).2.1
      clear hc0 hc1 hc2 hd
      have H3 : Hid (ordF d y = ordG geK d p (.cons nm l s (y.drop (k + 1)))) := by
        rw [Hid, H2.out, HD.out, Fo.drop_succ HD.out]
      simp only [ordG] at H3
      have hBx := hid (hB.alloc hsz (.cells #[.string (bs nm), .slice an l.length cn, .slice ab s.len cb] 85))
      by_cases t1 : 3 < d
      · have H4 := hid (H3.out.trans (if_pos t1))
        go_wp2_with fail
        go_ret
        exact ⟨ret_int H4.out.symm, hBx.out⟩
      · have H4 := hid (H3.out.trans (if_neg t1))
        clear H3
        go_wp2_with fail
        refine (named_any nm _ (by omega)).mono ?_
        rintro e w1 ⟨rfl, hb1⟩
        have hlt1 := hb1.size
        simp only [World.size_alloc] at hlt1
        have x0 : w1.cell? ⟨wr.heap.size, 0, none⟩ = some (.string (bs nm)) := below_cell hb1 (by simp) (by simp)
        have x1 : w1.cell? ⟨wr.heap.size, 1, none⟩ = some (.slice an l.length cn) := below_cell hb1 (by simp) (by simp)
        have x2 : w1.cell? ⟨wr.heap.size, 2, none⟩ = some (.slice ab s.len cb) := below_cell hb1 (by simp) (by simp)
        have hB1 := hid (hBx.out.trans (hb1.mono (by simp; omega)))
        clear hb1 c0 c1 c2
        cases t2 : badNm nm with
        | true =>
          have H5 := hid (H4.out.trans (if_pos t2))
          go_wp2_with fail
          go_ret
          exact ⟨ret_int H5.out.symm, hB1.out⟩
        | false =>
        have H5 := hid (H4.out.trans (if_neg (by rw [t2]; simp)))
        clear H4
        by_cases t3 : 4 < (l.length : Int)
        · have H6 := hid (H5.out.trans (if_pos t3))
          go_wp2_with fail
          go_ret
          exact ⟨ret_int H6.out.symm, hB1.out⟩
        · have H6 := hid (H5.out.trans (if_neg t3))
          clear H5
          go_wp2_with fail
          refine (numbers_any l an cn S _ (hI.agree (Agree.of_below (B := w.heap.size) hB1.out hS)) (fun b hb => by have := hS b hb; omega) (by omega)).mono ?_
          rintro e w2 ⟨rfl, hb2⟩
          have hlt2 := hb2.size
          have y0 := below_cell hb2 (by omega) x0
          have y1 := below_cell hb2 (by omega) x1
          have y2 := below_cell hb2 (by omega) x2
          have hB2 := hid (hB1.out.trans (hb2.mono (by omega)))
          clear hb2 x0 x1 x2
          cases t4 : badNs l with
          | true =>
            have H7 := hid (H6.out.trans (if_pos t4))
            go_wp2_with fail
            go_ret
            exact ⟨ret_int H7.out.symm, hB2.out⟩
          | false =>
          have H7 := hid (H6.out.trans (if_neg (by rw [t4]; simp)))
          clear H6
          go_wp2_with fail
          have HS0 : Hid (∀ b, S b → b < w2.heap.size) := fun b hb => by have := hS b hb; omega
          have ha2 : Agree S w w2 := Agree.of_below hB2.out hS
          by_cases t5 : 0 < (k : Int)
          · obtain ⟨g', o', nm', l', s', r', an', cn', ab', cb', he', hg1', hd', hc0', hc1', hc2', hI', hF'⟩ := HAT.out (k - 1) (by omega)
            cases he'
            have hp : p = some (kyOf nm' l') := by
              rcases HP.out with ⟨h0, _⟩ | ⟨_, n2, l2, s2, r2, e1, e2⟩
              · omega
              · rw [hd'] at e1; cases e1; exact e2
            subst hp
            obtain ⟨p1, p2, _⟩ : nm'.length ≤ 1000 ∧ l'.length ≤ 1000 ∧ s'.len ≤ 1000 ∧ s'.Sm ∧ r'.Sm := by have := hsm.drop (i := k - 1); rwa [hd'] at this
            have d0 := ha2.cell hg1' hc0'
            have d1 := ha2.cell hg1' hc1'
            have d2 := ha2.cell hg1' hc2'
            have hgw : g < w2.heap.size := HS0.out _ hg1'
            clear hc0' hc1' hc2' hF' hd'
            simp only at H7
            have tok1 : True := trivial
            have t5a : decide (0 < (k : Int)) = true := decide_eq_true t5
            have t5b : decide (0 < k) = true := decide_eq_true (by omega)
            have t5c : 0 < k := by omega
            have b1 : (0 : Int) ≤ (k : Int) - 1 := by omega
            have b2 : (k : Int) - 1 < (y.len : Int) := by omega
            have b3 : ((k : Int) - 1).toNat = k - 1 := by omega
            have b5 : (1 : Int) ≤ (k : Int) := by omega
            have b6 : (k : Int) ≤ (y.len : Int) := by omega
            have b7 : 1 ≤ k := by omega
            have b4 : IntKind.i64.wrap ((k : Int) - 1) = (k : Int) - 1 := IntWalk.i64_in _ (by omega)
            go_region_held3 (fun w' => w'.cell? ⟨wr.heap.size, 0, none⟩ = some (.string (bs nm)) ∧ w'.cell? ⟨wr.heap.size, 1, none⟩ = some (.slice an l.length cn) ∧ w'.cell? ⟨wr.heap.size, 2, none⟩ = some (.slice ab s.len cb) ∧ w'.cell? ⟨g, o + (k - 1) * 3, none⟩ = some (.string (bs nm')) ∧ w'.cell? ⟨g, o + (k - 1) * 3 + 1, none⟩ = some (.slice an' l'.length cn') ∧ w'.cell? ⟨g, o + (k - 1) * 3 + 2, none⟩ = some (.slice ab' s'.len cb'))
              (first | go_keep | (go_split_ands; exact ⟨below_cell hb3 (by simp; omega) (by assumption), below_cell hb3 (by simp; omega) (by assumption), below_cell hb3 (by simp; omega) (by assumption), below_cell hb3 (by simp; omega) (by assumption), below_cell hb3 (by simp; omega) (by assumption), below_cell hb3 (by simp; omega) (by assumption)⟩) | (go_split_ands; have hlt3 := hb3.size; exact ⟨below_cell hb4 (by simp at hlt3; omega) (by assumption), below_cell hb4 (by simp at hlt3; omega) (by assumption), below_cell hb4 (by simp at hlt3; omega) (by assumption), below_cell hb4 (by simp at hlt3; omega) (by assumption), below_cell hb4 (by simp at hlt3; omega) (by assumption), below_cell hb4 (by simp at hlt3; omega) (by assumption)⟩) | (go_split_ands; have hlt3 := hb3.size; have hlt4 := hb4.size; exact ⟨below_cell hb5 (by simp at hlt3; omega) (by assumption), below_cell hb5 (by simp at hlt3; omega) (by assumption), below_cell hb5 (by simp at hlt3; omega) (by assumption), below_cell hb5 (by simp at hlt3; omega) (by assumption), below_cell hb5 (by simp at hlt3; omega) (by assumption), below_cell hb5 (by simp at hlt3; omega) (by assumption)⟩))
              (first
                | (go_at_call 136; have _t := tok1; refine (key_any nm' l' an' cn' _ S _ (hI'.agree (Agree.of_below (B := w.heap.size) hB2.out.drew hS)) ?_ ab' s'.len cb' rfl).mono ?_; (exact HS0.out); clear tok1; rintro e w3 ⟨rfl, hb3⟩)
                | (go_at_call 136; refine (key_any nm l an cn _ S _ (hI.agree (Agree.of_below (B := w.heap.size) (hB2.out.drew.trans (hb3.mono (by simp; omega))) hS)) ?_ ab s.len cb rfl).mono ?_; (intro b hb; have := hS b hb; have := hb3.size; simp at this; omega); rintro e w4 ⟨rfl, hb4⟩)
                | (go_at_call 183; refine (byKey_any (kyOf nm' l') (kyOf nm l) _).mono ?_; rintro e w5 ⟨rfl, hb5⟩))
            have HB3 : Hid (Below w.heap.size w w5) := ((hB2.out.drew.trans (hb3.mono (by simp; omega))).trans (hb4.mono (by have := hb3.size; simp at this; omega))).trans (hb5.mono (by have := hb3.size; have := hb4.size; simp at *; omega))
            clear b1 b2 b3 b4 b5 b6 b7
            go_split_ands
            by_cases t6 : 0 ≤ byK (kyOf nm' l') (kyOf nm l)
            · have H8 := hid (H7.out.trans (if_pos (by unfold geK; simpa using t6)))
              go_wp2_with fail
              go_ret
              exact ⟨ret_int H8.out.symm, HB3.out⟩
            · have H8 := hid (H7.out.trans (if_neg (by unfold geK; simpa using t6)))
              by_cases t7 : ordF (d + 1) s = 0
              · have H9 := hid (H8.out.trans (if_neg (show ¬ (ordG geK (d + 1) none s ≠ 0) from fun h => h t7)))
                go_wp2_with fail
                refine (IH.out s (d + 1) ab cb S _ (by omega) (by omega) (by omega) (hF.agree (Agree.of_below (B := w.heap.size) HB3.out hS)) ?_ s3 s4).mono ?_
                · intro b hb; have := hS b hb; have := HB3.out.size; (try simp at this ⊢); omega
                · rintro e w6 ⟨rfl, hb6⟩
                  rw [t7]
                  go_wp2_with fail
                  go_roundw
                  case rel => exact ⟨k + 1, some (kyOf nm l), by omega, by go_num, H9.out, .inr ⟨by omega, nm, l, s, r, HD.out, rfl⟩, HB3.out.trans (hb6.mono HB3.out.size)⟩
                  case measure => simp [intOf]; omega
              · have H9 := hid (H8.out.trans (if_pos (show (ordG geK (d + 1) none s ≠ 0) from t7)))
                have t8 : (ordF (d + 1) s != 0) = true := by simpa using t7
                clear t7
                go_wp2_with fail
                refine (IH.out s (d + 1) ab cb S _ (by omega) (by omega) (by omega) (hF.agree (Agree.of_below (B := w.heap.size) HB3.out hS)) ?_ s3 s4).mono ?_
                · intro b hb; have := hS b hb; have := HB3.out.size; (try simp at this ⊢); omega
                · rintro e w6 ⟨rfl, hb6⟩
                  go_wp2_with fail
                  go_ret
                  exact ⟨ret_int H9.out.symm, HB3.out.trans (hb6.mono HB3.out.size)⟩
          · have hp : p = none := by
              rcases HP.out with ⟨_, h0⟩ | ⟨h0, _⟩
              · exact h0
              · omega
            subst hp
            simp only at H7
            have t5a : decide (0 < (k : Int)) = false := decide_eq_false t5
            have t5b : decide (0 < k) = false := decide_eq_false (by omega)
            have H8 := hid (H7.out.trans (if_neg (by simp)))
            go_quiet (fail)
            have HB3 := hid (below_drewN hB2.out nq)
            by_cases t7 : ordF (d + 1) s = 0
            · have H9 := hid (H8.out.trans (if_neg (show ¬ (ordG geK (d + 1) none s ≠ 0) from fun h => h t7)))
              go_wp2_with fail
              refine (IH.out s (d + 1) ab cb S _ (by omega) (by omega) (by omega) (hF.agree (Agree.of_below (B := w.heap.size) HB3.out hS)) ?_ s3 s4).mono ?_
              · intro b hb; have := hS b hb; have := HB3.out.size; (try simp at this ⊢); omega
              · rintro e w6 ⟨rfl, hb6⟩
                rw [t7]
                go_wp2_with fail
                go_roundw
                case rel => exact ⟨k + 1, some (kyOf nm l), by omega, by go_num, H9.out, .inr ⟨by omega, nm, l, s, r, HD.out, rfl⟩, HB3.out.trans (hb6.mono HB3.out.size)⟩
                case measure => simp [intOf]; omega
            · have H9 := hid (H8.out.trans (if_pos (show (ordG geK (d + 1) none s ≠ 0) from t7)))
              have t8 : (ordF (d + 1) s != 0) = true := by simpa using t7
              clear t7
              go_wp2_with fail
              refine (IH.out s (d + 1) ab cb S _ (by omega) (by omega) (by omega) (hF.agree (Agree.of_below (B := w.heap.size) HB3.out hS)) ?_ s3 s4).mono ?_
              · intro b hb; have := hS b hb; have := HB3.out.size; (try simp at this ⊢); omega
              · rintro e w6 ⟨rfl, hb6⟩
                go_wp2_with fail
                go_ret
                exact ⟨ret_int H9.out.symm, HB3.out.trans (hb6.mono HB3.out.size)⟩
    · go_wp2_with fail
      go_ret
      obtain rfl : k = y.len := by omega
      exact ⟨ret_int (by rw [H2.out, Fo.drop_len]; rfl), hB⟩
end Go.Proofs.LF
namespace Go.Proofs.LF
open Go.RowKit
set_option maxHeartbeats 2000000
set_option maxRecDepth 100000
attribute [local go_sem] bs_toList bs_size bs_get
theorem Tryz.info71 : (Tryz.prog.info? 71).map (fun i => (i.zero, i.size, i.bytes)) = some (some (.agg #[.string ByteArray.empty, .bool false, .int .i64 0]), 3, 32) := by kernel_rfl
theorem Tryz.size71 : (Tryz.prog.info? 71).map (·.size) = some 3 := by kernel_rfl
theorem with_any (p : List Ky) (k : Ky) (a : Option Addr) (c : Nat) (S : Nat → Prop) (w : World) (hv : Pth S w (.slice a p.length c) p) (hS : ∀ b, S b → b < w.heap.size) (hlen : p.length ≤ 1000) :
    Calls Tryz.prog 180 #[.slice a p.length c, .agg #[.string (bs k.n), .bool k.h, .int .i64 k.x]] w fun e w' => ∃ a' c', e = .returned (.slice a' (p.length + 1) c') ∧ Pth (Rg w.heap.size w'.heap.size) w' (.slice a' (p.length + 1) c') (p ++ [k]) ∧ Below w.heap.size w w' := by
  obtain ⟨i0, hi0, hz0, hz1, hz2⟩ := info_parts Tryz.info71
  have hcap := SlC.caps hv
  have hmk0 : ∃ mc : Array Value, mc.size = (p.length + 1) * 3 ∧ ∀ W : World, (Instr.makeSlice 65 (.int .i64 (p.length : Int)) (.int .i64 ((p.length : Int) + 1))).run Tryz.prog W = .ok (.slice (some ⟨W.heap.size, 0, none⟩) p.length (p.length + 1)) (W.alloc (.cells mc 71)) :=
    ⟨_, by rw [madeCells_size, hz1], fun W => run_makeK (P := Tryz.prog) 65 71 i0 _ Tryz.underlying65 hi0 hz0 .i64 .i64 p.length (p.length + 1) (by omega) (by rw [hz2]; omega) (by omega) W⟩
  obtain ⟨mc, hmc, hmk⟩ := hmk0
  have HZ := hid hmc
  clear hmc
  have hfin : ∀ (W w3 : World) (v' : Value), w3.ownsRow w.heap.size 71 3 v' (p.length + 1) (p.flatMap Ky.cells ++ [.string (bs k.n), .bool k.h, .int .i64 k.x]) → W.grownBy w3 (some (w.heap.size + 1)) → Below w.heap.size w W →
      ∃ a' c', (Ending.returned v' = .returned (.slice a' (p.length + 1) c')) ∧ Pth (Rg w.heap.size w3.heap.size) w3 (.slice a' (p.length + 1) c') (p ++ [k]) ∧ Below w.heap.size w w3 := by
    intro W w3 v' hown hg hb
    have hs := SlC.of_owns hown
    obtain ⟨a', c', rfl, _⟩ := hs.shape
    refine ⟨a', c', rfl, ?_, hb.grown hg hb.size (fun j hj => by cases hj; omega)⟩
    unfold Pth
    rw [List.length_append, List.flatMap_append]
    exact hs
  have HF := hid hfin
  clear hfin
  go_enter Tryz.func180, Tryz.ntmps180
  go_wp2_with (first
    | (refine wpList_copyHead rfl (.tmp 12) (.tmp 13) 65 65 rfl 71 3 Tryz.underlying65 Tryz.size71 w.heap.size (w.heap.size + 1) p.length (p.length + 1) a c rfl rfl mc (by have := heap_alloc_new (w.alloc (.cells #[.string (bs k.n), .bool k.h, .int .i64 k.x] 71)) (.cells mc 71); simpa using this) (by omega) (by omega) (by unfold maxLen; omega) HZ.out (p.flatMap Ky.cells) (len_keys p) hcap.2.2 (SlC.news hv (Agree.of_below (B := w.heap.size) (((Below.refl _ _).alloc (Nat.le_refl _) _).alloc (by simp) _) hS)) (one_keys p) ?_; intro W hW1 hW2 hW3; have f0 := grown_cell hW2 (b := w.heap.size) (o := 0) (by simp) (v := .string (bs k.n)) (by simp); have f1 := grown_cell hW2 (b := w.heap.size) (o := 1) (by simp) (v := .bool k.h) (by simp); have f2 := grown_cell hW2 (b := w.heap.size) (o := 2) (by simp) (v := .int .i64 k.x) (by simp); simp only [World.size_alloc] at hW3; have HW3 := hid hW3; clear hW3)
    | (at_builtin; go_loud (refine wpList_append_own _ rfl (.tmp 15) (.tmp 17) 65 rfl w.heap.size 71 i0 _ 3 32 Tryz.underlying65 hi0 hz0 hz1 hz2 rfl (by omega) (.slice (some ⟨w.heap.size + 1, 0, none⟩) p.length (p.length + 1)) p.length (p.flatMap Ky.cells) rfl (hW1.alloc _) ⟨W.heap.size, 0, none⟩ 1 1 [.string (bs k.n), .bool k.h, .int .i64 k.x] rfl rfl (World.news_of_block (cs := #[.string (bs k.n), .bool k.h, .int .i64 k.x]) (t := 71) (fr := (0, 0)) (heap_alloc_new _ _)) (by simp [Value.oneCell']) (by unfold maxLen; omega) (by omega) (by have := HW3.out; simp; omega) ?_); intro v' w3 hown3 hgrow3 _))
  go_ret
  refine HF.out _ w3 v' hown3 hgrow3 ?_
  exact ((((Below.refl _ _).alloc (Nat.le_refl _) _).alloc (by simp) _).grown hW2 (by simp; omega) (fun j hj => by cases hj; omega)).alloc (by have := HW3.out; omega) _
end Go.Proofs.LF
