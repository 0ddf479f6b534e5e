/- Parts of the proof of a law of layer 11 (file): LfFl, LfW44. The conditions stand in each theorem. -/
import Derived.BigQuiet
import Derived.Deep.AppendLies
import Derived.Deep.Cut
import Derived.Deep.CutBlock
import Derived.Deep.CutRange
import Derived.Deep.QuietTactic
import Derived.Deep.RegionHeld3
import Derived.Laws.ResultCell
import Derived.Outline
import Derived.Test.YtadkpjgpefcphaaGreatDoorProg
import Derived.WalkKit
import Derived.WalkLawsBesides
import Derived.WalkSpells
import Derived.Test.YtadkpjgpefcphaaGreatDoorMdam
import Derived.Test.YtadkpjgpefcphaaGreatDoorMdat
import Derived.Test.YtadkpjgpefcphaaGreatDoorMdbg
set_option linter.all false
set_option linter.unusedVariables false
set_option linter.unusedSimpArgs false
namespace Go.Proofs.LF
theorem good_kyOf {n : List UInt8} {l : List Int} (h1 : badNm n = false) (h2 : badNs l = false) : GoodK (kyOf n l) := by
  have hn : ∀ c ∈ n, smallB c = true := fun c hc => by
    simp only [badNm, Bool.or_eq_false_iff, List.any_eq_false, decide_eq_true_eq, Bool.or_eq_true, not_or] at h1
    have := h1.1.1 c hc
    simp only [smallB, inB, Bool.and_eq_true, decide_eq_true_eq]
    omega
  cases l with
  | nil => exact ⟨hn, by simp [kyOf], fun _ => rfl⟩
  | cons v l =>
    refine ⟨hn, ?_, fun h => by cases h⟩
    simp only [badNs, List.any_cons, Bool.or_eq_false_iff, offB] at h2
    have := h2.1
    simp only [Bool.or_eq_false_iff, decide_eq_false_iff_not] at this
    simp only [kyOf]; omega
theorem nodes_good : ∀ (y : Fo) (up : List Ky), (∀ k ∈ up, GoodK k) → (∀ z ∈ nodesL up y, OkN z) → ∀ x ∈ nodesL up y, (∀ k ∈ x.up, GoodK k) ∧ GoodK (kyOf x.n x.l)
  | .nil, _, _, _, x, hx => by simp [nodesL] at hx
  | .cons n l s r, up, hu, hn, x, hx => by
    simp only [nodesL, List.mem_cons, List.mem_append] at hx hn
    have h0 := hn _ (.inl rfl)
    have hk : GoodK (kyOf n l) := good_kyOf h0.1 h0.2.2
    rcases hx with rfl | hx | hx
    · exact ⟨hu, hk⟩
    · refine nodes_good s _ (fun k hk' => ?_) (fun z hz => hn z (.inr (.inl hz))) x hx
      rcases List.mem_append.1 hk' with h | h
      · exact hu k h
      · simp only [List.mem_singleton] at h; rw [h]; exact hk
    · exact nodes_good r up hu (fun z hz => hn z (.inr (.inr hz))) x hx
theorem fls_good {y : Fo} (h : chkY y = 0) : ∀ x ∈ flsL [] y, GoodP x.p := by
  intro x hx
  simp only [flsL, List.mem_map] at hx
  obtain ⟨z, hz, rfl⟩ := hx
  obtain ⟨h1, h2⟩ := nodes_good y [] (by simp) (ordG_ok y _ _ [] (chk_ord h)) z hz
  intro k hk
  rcases List.mem_append.1 hk with h | h
  · exact h1 k h
  · simp only [List.mem_singleton] at h; rw [h]; exact h2
theorem fls_srt {y : Fo} (h : chkY y = 0) : Srt (flsL [] y) := (ordG_srt y 0 none [] (chk_ord h)).1
theorem clo_fls {y : Fo} : Clo (flsL [] y) := fun x hx h => by
  rcases fls_clo y [] x hx with h1 | h1
  · exact absurd h1 h
  · exact h1
end Go.Proofs.LF
namespace Go.Proofs.LF
open Go.RowKit Go.Sort
set_option maxHeartbeats 4000000
set_option maxRecDepth 100000
attribute [local go_sem] bs_toList bs_size bs_get
def rdYs : Rd Fo 1 where
  R S w x cs := ∃ ap cp, cs = [.slice ap x.len cp] ∧ FSl S w (.slice ap x.len cp) x
  len := by rintro S w x cs ⟨_, _, rfl, _⟩; rfl
  one := by rintro S w x cs ⟨_, _, rfl, _⟩ u hu; simp at hu; rcases hu with rfl; rfl
  agree := by rintro S w w' x cs ⟨a, b, rfl, h1⟩ ha; exact ⟨a, b, rfl, h1.agree ha⟩
  wide := by rintro S w w' x cs ⟨a, b, rfl, h1⟩ ha; exact ⟨a, b, rfl, h1.wide ha⟩
def cpE : List Fo → Int
  | [] => 0
  | y :: r => if chkY y ≠ 0 then chkY y else cpE r
def cpL (ls : List Fo) : List (List Fl) := if cpE ls = 0 then ls.map (flsL []) else []
theorem cpE_drop : ∀ {k : Nat} {ls : List Fo}, (∀ y ∈ ls.take k, chkY y = 0) → cpE ls = cpE (ls.drop k)
  | 0, _, _ => rfl
  | _ + 1, [], _ => rfl
  | k + 1, y :: r, h => by
    have h0 := h y (by simp)
    rw [cpE, if_neg (by rw [h0]; simp)]
    exact cpE_drop (k := k) (ls := r) (fun z hz => h z (by simp [hz]))
theorem Tryz.info167 : (Tryz.prog.info? 167).map (fun i => (i.zero, i.size, i.bytes)) = some (some (.slice none 0 0), 1, 24) := by kernel_rfl
def CopR (ls : List Fo) (w : World) (e : Ending) (w' : World) : Prop :=
  ∃ a c, e = .returned (.tuple #[.slice a (cpL ls).length c, .int .i64 (cpE ls)]) ∧ LSl rdLs (Rg w.heap.size w'.heap.size) w' (.slice a (cpL ls).length c) (cpL ls) ∧ Below w.heap.size w w'
theorem copies_any (ls : List Fo) (a : Option Addr) (c : Nat) (S : Nat → Prop) (w : World) (hv : LSl rdYs S w (.slice a ls.length c) ls) (hS : ∀ b, S b → b < w.heap.size) (hl : ls.length ≤ 1000)
    (hok : ∀ y ∈ ls, y.len ≤ 1000 ∧ y.Sm ∧ y.cnt ≤ 900) : Calls Tryz.prog 114 #[.slice a ls.length c] w (CopR ls w) := by
  obtain ⟨a', c', he, hc, hcm, hat⟩ := hv.at
  obtain ⟨rfl, rfl⟩ : a = a' ∧ c = c' := by cases he; exact ⟨rfl, rfl⟩
  obtain ⟨i0, hi0, hz0, hz1, hz2⟩ := info_parts Tryz.info167
  have HAT := hid hat
  have HS := hid hS
  have HOK := hid hok
  clear hat hS he hv hok
  unfold maxLen at hcm
  go_enter Tryz.func114, Tryz.ntmps114
  go_wp2_with fail
  go_loopw [4, 10] (fun v i wr => ∃ (k : Nat) (cs : List Value), k ≤ ls.length ∧ i = .int .i64 k ∧ wr.ownsRow w.heap.size 167 1 v k cs ∧ Hid (LCs rdLs (Rx w.heap.size wr.heap.size v) wr ((ls.take k).map (flsL [])) cs) ∧ Hid (∀ y ∈ ls.take k, chkY y = 0) ∧ Hid (Below w.heap.size w wr)) (fun _ i _ => ls.length - (intOf i).toNat)
  case atStart => exact ⟨0, [], by omega, rfl, World.ownsRow_nil _ _ _ _, rfl, (fun y hy => by simp at hy), Below.refl _ _⟩
  case round =>
    obtain ⟨k, cs, hk, rfl, hown, hlc, hz, hB⟩ := hrel
    have hsz := hB.out.size
    by_cases hlt : k < ls.length
    · have hlt' : (k : Int) < (ls.length : Int) := by omega
      obtain ⟨g, o, cs1, rfl, hg, ⟨ap, cp, rfl, hF⟩, hcell⟩ := HAT.out k hlt
      have c0 := (Agree.of_below hB.out HS.out).cell hg (hcell 0 _ rfl)
      rw [Nat.mul_one, Nat.add_zero] at c0
      have hok := HOK.out ls[k] (List.getElem_mem hlt)
      have htk : ls.take (k + 1) = ls.take k ++ [ls[k]] := List.take_succ_eq_append_getElem hlt
      have hdk : ls.drop k = ls[k] :: ls.drop (k + 1) := List.drop_eq_getElem_cons hlt
      obtain ⟨y, hy⟩ : ∃ y, ls[k] = y := ⟨_, rfl⟩
      rw [hy] at c0 hF hok htk hdk
      have CK := hid (Check_any y ap cp S wr (hF.agree (Agree.of_below hB.out HS.out)) (fun b hb => by have := HS.out b hb; omega) hok.1 hok.2.1 hok.2.2)
      have HF := hid hF
      have HOKY := hid hok
      have HTK := hid htk
      have HDK := hid hdk
      clear hcell hF hok htk hdk hy
      go_wp2_with fail
      refine CK.out.mono ?_
      rintro e w2 ⟨rfl, hb2⟩
      have hz2' := hb2.size
      have HB2 := hid (hB.out.trans (hb2.mono hsz))
      have how2 := owns_below hown hb2 (Nat.le_refl _)
      have hlc2 : LCs rdLs (Rx w.heap.size w2.heap.size u4) w2 ((ls.take k).map (flsL [])) cs := (hlc.out.agree (Agree.of_below hb2 (fun b hb => hb.2.1))).wide (fun b hb => ⟨hb.1, by have := hb.2.1; omega, hb.2.2⟩)
      have HLC2 := hid hlc2
      clear hlc2
      clear hb2
      by_cases hcy : chkY y = 0
      · have hcy' : (chkY y != 0) = false := by simpa using hcy
        have HCY := hid hcy
        have FL := hid (flats_any y ap cp S w2 (HF.out.agree (Agree.of_below HB2.out HS.out)) (fun b hb => by have := HS.out b hb; omega) HOKY.out.1 HOKY.out.2.1 HOKY.out.2.2)
        clear hcy
        go_wp2_with fail
        refine FL.out.mono ?_
        rintro e w3 ⟨a3, c3, rfl, hF3, hb3⟩
        have hz3 := hb3.size
        have how3 := owns_below how2 hb3 (by omega)
        have hkk : k ≤ 1000 := by omega
        go_wp2_with (at_builtin; refine (wpList_append_ao _ rfl _ _ _ rfl w.heap.size 167 i0 _ 1 24 Tryz.underlying189 hi0 hz0 hz1 hz2 rfl (by omega) u4 k cs rfl (how3.alloc _) (some ⟨w3.heap.size, 0, none⟩) 1 1 [.slice a3 (flsL [] y).length c3] rfl rfl (fun h => by cases h) (fun ad had => by cases had; exact World.news_of_block (cs := #[.slice a3 (flsL [] y).length c3]) (t := 167) (fr := (0, 0)) (heap_alloc_new _ _)) (by simp [Value.oneCell']) (by unfold maxLen; omega) (by omega) (by simp; omega) ?_); intro a4 c4 w4 hown4 hgrow4 hat4)
        obtain ⟨g4, cap4, he4, hg4, hlt4⟩ := hown4.form (by omega)
        cases he4
        have st : Step w.heap.size w2 (w3.alloc (.cells #[.slice a3 (flsL [] y).length c3] 167)) w4 u4 g4 := ⟨hb3.alloc hz3 _, ⟨hgrow4.os, hgrow4.tape, hgrow4.output, hgrow4.size, hgrow4.block⟩, by omega, fun b hb => how2.lt b hb, hat4 g4 rfl, hlt4⟩
        have hv' : (Value.slice (some ⟨g4, 0, none⟩) (k + 1) c4).ownBlock = some g4 := rfl
        have n1 := st.keep (Stable.lcs _ _) hv' HLC2.out
        have n2 := st.lift (Stable.lsl _ _) hv' hF3 (Nat.le_refl _) (by simp) ((Below.refl _ _).alloc (Nat.le_refl _) _)
        have n3 := st.out HB2.out
        have n4 : Hid (LCs rdLs (Rx w.heap.size w4.heap.size (.slice (some ⟨g4, 0, none⟩) (k + 1) c4)) w4 ((ls.take (k + 1)).map (flsL [])) (cs ++ [.slice a3 (flsL [] y).length c3])) := by
          rw [HTK.out, List.map_append]
          exact n1.app (LCs.single ⟨a3, c3, rfl, n2⟩)
        have n5 : Hid (∀ z ∈ ls.take (k + 1), chkY z = 0) := fun z hz' => by
          rw [HTK.out] at hz'
          rcases List.mem_append.1 hz' with h | h
          · exact hz.out z h
          · simp only [List.mem_singleton] at h; rw [h]; exact HCY.out
        clear n1 n2 st
        go_roundw
        case rel => exact ⟨k + 1, _, by omega, by go_num, hown4, n4, n5, n3⟩
        case measure => simp [intOf]; omega
      · have hcy' : (chkY y != 0) = true := by simpa using hcy
        have hE : cpE ls = chkY y := by rw [cpE_drop hz.out, HDK.out, cpE, if_pos hcy]
        have hL : cpL ls = [] := by rw [cpL, if_neg (by rw [hE]; exact hcy)]
        have HE := hid hE
        have HL := hid hL
        clear hE hL hcy
        go_wp2_with fail
        refine bodyPost_ret (v := .tuple #[.slice none 0 0, .int .i64 (chkY y)]) (by simp [results, Tryz.results114, go_sem]) rfl ?_
        exact ⟨none, 0, by rw [HE.out, HL.out]; rfl, by rw [HL.out]; exact ⟨[], ⟨rfl, none, 0, rfl, Nat.le_refl _, by simp [maxLen], fun _ => rfl, .inl rfl⟩, rfl⟩, HB2.out⟩
    · obtain rfl : k = ls.length := by omega
      have hlt' : ¬ (ls.length : Int) < (ls.length : Int) := by omega
      have hE : cpE ls = 0 := by rw [cpE_drop hz.out, List.drop_length]; rfl
      have hL : cpL ls = ls.map (flsL []) := by rw [cpL, if_pos hE]
      have HE := hid hE
      have HL := hid hL
      clear hE hL
      go_wp2_with fail
      obtain ⟨a9, c9, rfl, _, _⟩ := owns_shape hown
      refine bodyPost_ret (v := .tuple #[.slice a9 ls.length c9, .int .i64 0]) (by simp [results, Tryz.results114, go_sem]) rfl ?_
      have hlc' := hlc.out
      rw [List.take_length] at hlc'
      refine ⟨a9, c9, by rw [HE.out, HL.out, List.length_map], ?_, hB.out⟩
      rw [HL.out]
      exact ⟨cs, by rw [List.length_map]; exact SlC.of_owns hown, hlc'.wide fun b hb => ⟨hb.1, hb.2.1⟩⟩
end Go.Proofs.LF
