/- Parts of the proof of a law of layer 11 (file): LfW55. The conditions stand in each theorem. -/
import Derived.BigQuiet
import Derived.Deep.AppendLies
import Derived.Deep.Cut
import Derived.Deep.CutBlock
import Derived.Deep.CutRange
import Derived.Deep.QuietTactic
import Derived.Deep.RegionHeld3
import Derived.Laws.ResultCell
import Derived.Outline
import Derived.Test.YtadkpjgpefcphaaGreatDoorProg
import Derived.WalkKit
import Derived.WalkLawsBesides
import Derived.WalkSpells
import Derived.Test.YtadkpjgpefcphaaGreatDoorPrav
import Derived.Test.YtadkpjgpefcphaaGreatDoorPrbf
import Derived.Test.YtadkpjgpefcphaaGreatDoorPrbt
set_option linter.all false
set_option linter.unusedVariables false
set_option linter.unusedSimpArgs false
namespace Go.Proofs.LF
open Go.RowKit Go.Sort
set_option maxHeartbeats 4000000
set_option maxRecDepth 100000
attribute [local go_sem] bs_toList bs_size bs_get bs_add bs_extract
def RfP (t : List UInt8) (w : World) (fs : List Fl) (ln dp i : Nat) (fv : Value) (cs : List Value) (wr : World) : Prop :=
  i ≤ t.length ∧ ln ≤ 60 ∧ dp ≤ 3 ∧ dp ≤ (lstP fs).length ∧ fs.length = ln ∧ (∀ x ∈ fs, x.p.length ≤ 4 ∧ x.l.length ≤ 4) ∧ refP t = refG t (62 - ln) i ln dp fs ∧ wr.ownsRow w.heap.size 159 2 fv fs.length cs ∧ LCs rdFl (Rx w.heap.size wr.heap.size fv) wr fs cs ∧ Below w.heap.size w wr
theorem lstP_get {fs : List Fl} (h : 0 < fs.length) : lstP fs = (fs[fs.length - 1]'(by omega)).p := by
  unfold lstP
  rw [List.getLast?_eq_getElem?, List.getElem?_eq_getElem (by omega)]; rfl
theorem lstP_nil : lstP [] = [] := rfl
theorem no_more {fs : List Fl} {m : Nat} {x : Fl} {hm : m < fs.length} {f : Fl → Bool} (hx : fs[m] = x) (h : ∀ y ∈ fs.take m, f y = false) (h2 : f x = false) : ∀ y ∈ fs.take (m + 1), f y = false := fun y hy => by
  rw [List.take_succ_eq_append_getElem hm, hx] at hy
  rcases List.mem_append.1 hy with h3 | h3
  · exact h y h3
  · simp only [List.mem_singleton] at h3; rw [h3]; exact h2
theorem RefParse_any (t : List UInt8) (w : World) (ht : t.length ≤ 100000) :
    Calls Tryz.prog 27 #[.string (bs t)] w fun e w' => ∃ a c, e = .returned (.tuple #[.slice a (refP t).1.length c, .int .i64 (refP t).2.1, .int .i64 (refP t).2.2.1, .int .i64 (refP t).2.2.2]) ∧ LSl rdFl (Rg w.heap.size w'.heap.size) w' (.slice a (refP t).1.length c) (refP t).1 ∧ Below w.heap.size w w' := by
  obtain ⟨i0, hi0, hz0, hz1, hz2⟩ := info_parts Tryz.info159
  obtain ⟨j0, hj0, hy0, hy1, hy2⟩ := info_parts Tryz.info160
  have ret0 : ∀ (wr : World) (ln col er : Nat), Below w.heap.size w wr → refP t = ([], ln, col, er) → ∃ a c, (Ending.returned (.tuple #[.slice none 0 0, .int .i64 ln, .int .i64 col, .int .i64 er])) = .returned (.tuple #[.slice a (refP t).1.length c, .int .i64 (refP t).2.1, .int .i64 (refP t).2.2.1, .int .i64 (refP t).2.2.2]) ∧ LSl rdFl (Rg w.heap.size wr.heap.size) wr (.slice a (refP t).1.length c) (refP t).1 ∧ Below w.heap.size w wr := fun wr ln col er hb h => by
    rw [h]
    exact ⟨none, 0, rfl, ⟨[], ⟨rfl, none, 0, rfl, Nat.le_refl _, by simp [maxLen], fun _ => rfl, .inl rfl⟩, rfl⟩, hb⟩
  have RET0 := hid ret0
  clear ret0
  go_enter Tryz.func27, Tryz.ntmps27
  go_wp2_with fail
  go_loopw [6, 7, 8, 9] (fun fv dv lv iv wr => ∃ (i ln dp : Nat) (fs : List Fl) (cs : List Value), iv = .int .i64 i ∧ lv = .int .i64 ln ∧ dv = .int .i64 dp ∧ Hid (RfP t w fs ln dp i fv cs wr)) (fun _ _ lv _ _ => 61 - (intOf lv).toNat)
  case atStart => exact ⟨0, 0, 0, [], [], rfl, rfl, rfl, by omega, by omega, by omega, by omega, rfl, (by simp), rfl, World.ownsRow_nil _ _ _ _, rfl, Below.refl _ _⟩
  case round =>
    obtain ⟨i, ln, dp, fs, cs, rfl, rfl, rfl, hR⟩ := hrel
    obtain ⟨hi, hln, hdp, hdl, hfl, hsz, hG, hown, hlc, hB⟩ := hR.out
    have HG := hid hG
    have HSZ := hid hsz
    have HOWN := hid hown
    have HLC := hid hlc
    have HBB := hid hB
    have HFL := hid hfl
    clear hG hsz hown hlc hB hfl
    by_cases hlt : i < t.length
    · have hq := HG.out
      rw [show 62 - ln = (61 - ln) + 1 by omega, refG, if_pos hlt] at hq
      by_cases h60 : 60 ≤ ln
      · rw [if_pos h60] at hq
        have HQ := hid hq
        clear hq
        go_wp2_with fail
        refine bodyPost_ret (v := .tuple #[.slice none 0 0, .int .i64 ln, .int .i64 (0 : Nat), .int .i64 (2 : Nat)]) (by simp [results, Tryz.results27, go_sem]) rfl ?_
        exact RET0.out wr ln 0 2 HBB.out HQ.out
      · rw [if_neg h60] at hq
        obtain ⟨hl1, hl2, hl3⟩ := ref_loop dp (t.drop i)
        have hll := ref_line t dp i hi
        obtain ⟨K, hK⟩ : ∃ K, kS dp (.lead 0) (t.drop i) = K := ⟨_, rfl⟩
        simp only [hK] at hq hl1 hl2 hl3 hll
        rw [List.length_drop] at hl2 hl3
        have HQ := hid hq
        have HL1 := hid hl1
        have HL2 := hid hl2
        have HLL := hid hll
        clear hq hl1 hl2 hll hK
        have i1 : (0 : Int) ≤ (i : Int) := by omega
        go_upto_block 2 with fail
        go_cut [10] from 26 to 57 (fun kv wx => kv = .int .i64 K ∧ wx = wr)
        case first =>
          go_wp2_with fail
          go_loopw [10] (fun kv w2 => ∃ j : Nat, j ≤ K ∧ kv = .int .i64 j ∧ w2 = wr) (fun kv _ => K - (intOf kv).toNat)
          case atStart => exact ⟨0, by omega, rfl, rfl⟩
          case round =>
            obtain ⟨j, hj, rfl, rfl⟩ := hrel
            have j1 : (0 : Int) ≤ (j : Int) := by omega
            have w1 : IntKind.i64.wrap ((i : Int) + (j : Int)) = (i : Int) + (j : Int) := IntWalk.i64_in _ (by omega)
            have w2 : IntKind.i64.wrap ((i : Int) + (j : Int) + 1) = (i : Int) + (j : Int) + 1 := IntWalk.i64_in _ (by omega)
            have w3 : IntKind.i64.wrap ((i : Int) + (j : Int) - 1) = (i : Int) + (j : Int) - 1 := IntWalk.i64_in _ (by omega)
            have e1 : i + j + 1 - i = j + 1 := by omega
            by_cases hjK : j < K
            · have a1 : (i : Int) + (j : Int) < (t.length : Int) := by omega
              have a2 : (i : Int) + (j : Int) + 1 ≤ (t.length : Int) := by omega
              have HC := hid (HL1.out j hjK).1
              by_cases hj0 : j = 0
              · have bj : ((j : Int) == 0) = true := by rw [hj0]; rfl
                clear hj0
                go_wp2_with (go_at_call 105; rw [e1]; refine (can_any _ dp _ (by rw [List.length_take, List.length_drop]; omega)).mono ?_; rintro e w9 ⟨rfl, rfl⟩; rw [HC.out])
                go_roundw
                case rel => exact ⟨j + 1, by omega, by go_num, by simp⟩
                case measure => simp [intOf]; omega
              · have hc2 := (HL1.out j hjK).2 (by omega)
                have hlt3 : i + j - 1 < t.length := by omega
                have hne : ¬ (t[i + j - 1].toNat : Int) = 10 := fun e => by
                  apply hc2
                  have e4 : t[i + j - 1] = 10 := by apply UInt8.toNat_inj.1; have : t[i + j - 1].toNat = 10 := by omega
                                                    rw [this]; rfl
                  rw [List.getD_eq_getElem?_getD, List.getElem?_drop, show i + (j - 1) = i + j - 1 by omega, List.getElem?_eq_getElem hlt3, e4]; rfl
                have b10 : ((t[i + j - 1].toNat : Int) == 10) = false := beq_eq_false_iff_ne.2 hne
                have b10n : ((t[i + j - 1].toNat : Int) != 10) = true := by simp only [bne, b10]; rfl
                have a3 : (0 : Int) ≤ (i : Int) + (j : Int) - 1 := by omega
                have a4 : (i : Int) + (j : Int) - 1 < (t.length : Int) := by omega
                clear hc2 hne
                go_wp2_with (go_at_call 105; rw [e1]; refine (can_any _ dp _ (by rw [List.length_take, List.length_drop]; omega)).mono ?_; rintro e w9 ⟨rfl, rfl⟩; rw [HC.out])
                go_roundw
                case rel => exact ⟨j + 1, by omega, by go_num, by simp⟩
                case measure => simp [intOf]; omega
            · obtain rfl : j = K := by omega
              by_cases hend : i + j < t.length
              · have a1 : (i : Int) + (j : Int) < (t.length : Int) := by omega
                have a2 : (i : Int) + (j : Int) + 1 ≤ (t.length : Int) := by omega
                have HC := hid (HL2.out (by omega))
                go_wp2_with (go_at_call 105; rw [e1]; refine (can_any _ dp _ (by rw [List.length_take, List.length_drop]; omega)).mono ?_; rintro e w9 ⟨rfl, rfl⟩; rw [HC.out])
                go_meet
                case rel => exact ⟨rfl, rfl⟩
              · have a1 : ¬ (i : Int) + (j : Int) < (t.length : Int) := by omega
                go_wp2_with fail
                go_meet
                case rel => exact ⟨rfl, rfl⟩
        case rest =>
          obtain ⟨rfl, rfl⟩ := hcut
          obtain ⟨wb, rfl⟩ : ∃ v, v = wc := ⟨_, rfl⟩
          by_cases hK0 : K = 0
          · have hq := HQ.out
            rw [if_pos (.inl hK0)] at hq
            have hq := hid hq
            have bK : ((K : Int) == 0) = true := by rw [hK0]; rfl
            clear hK0
            go_wp2_with fail
            refine bodyPost_ret (v := .tuple #[.slice none 0 0, .int .i64 ln, .int .i64 K, .int .i64 (11 : Nat)]) (by simp [results, Tryz.results27, go_sem]) rfl ?_
            exact RET0.out wb ln K 11 HBB.out hq.out
          · have hltK : i + K - 1 < t.length := by omega
            have bK : ((K : Int) == 0) = false := beq_eq_false_iff_ne.2 (by omega)
            have w1 : IntKind.i64.wrap ((i : Int) + (K : Int)) = (i : Int) + (K : Int) := IntWalk.i64_in _ (by omega)
            have w3 : IntKind.i64.wrap ((i : Int) + (K : Int) - 1) = (i : Int) + (K : Int) - 1 := IntWalk.i64_in _ (by omega)
            have a3 : (0 : Int) ≤ (i : Int) + (K : Int) - 1 := by omega
            have a4 : (i : Int) + (K : Int) - 1 < (t.length : Int) := by omega
            have a5 : (i : Int) ≤ (i : Int) + (K : Int) - 1 := by omega
            have hgd : t.getD (i + K - 1) 0 = t[i + K - 1] := by rw [List.getD_eq_getElem?_getD, List.getElem?_eq_getElem hltK]; rfl
            by_cases h10 : (t[i + K - 1].toNat : Int) = 10
            · have hc10 : t[i + K - 1] = 10 := by apply UInt8.toNat_inj.1; have : t[i + K - 1].toNat = 10 := by omega
                                                  rw [this]; rfl
              have hng : ¬ (K = 0 ∨ t.getD (i + K - 1) 0 ≠ 10) := by rw [hgd, hc10]; simp [hK0]
              have hq := HQ.out
              rw [if_neg hng] at hq
              obtain ⟨W0, ws, hsp, hdg, hw4, hw8, hrd, hbd⟩ := HLL.out hng
              rw [hrd] at hq
              simp only at hq
              obtain ⟨b, hb⟩ : ∃ b, blanksF ((t.drop i).take (K - 1)) = b := ⟨_, rfl⟩
              have RD := hid (readR_any ((t.drop i).take (K - 1)) wb W0 ws (by rw [List.length_take, List.length_drop]; omega) hsp hdg (by omega))
              rw [hb] at hq hbd RD
              have HQ2 := hid hq
              have b10 : ((t[i + K - 1].toNat : Int) == 10) = true := by rw [h10]; rfl
              have b10n : ((t[i + K - 1].toNat : Int) != 10) = false := by simp only [bne, b10]; rfl
              have e1 : i + K - 1 - i = K - 1 := by omega
              clear hK0 hgd h10 hc10 hng hq HQ HLL hrd hsp hdg hb HL1 HL2
              go_upto_if 84 with (go_at_call 106; rw [e1]; refine RD.out.mono ?_; rintro e w3 ⟨an, cn, rfl, hI, hb3⟩)
              have hLS : LSl rdFl (Rg w.heap.size wb.heap.size) wb u6 fs := ⟨cs, SlC.of_owns HOWN.out, HLC.out.wide (fun b hb => ⟨hb.1, hb.2.1⟩)⟩
              obtain ⟨a6, c6, rfl, hc6, hm6, hat6⟩ := hLS.at
              have HAT := hid hat6
              have HI := hid hI
              have HB3 := hid hb3
              have HZ3 := hid hb3.size
              have hfs9 : fs.length ≤ 60 := by rw [HFL.out]; exact hln
              clear hat6 hI hb3 hLS
              unfold maxLen at hm6
              go_cut [14] from 83 to 95 (fun v wx => wx.ownsRow w3.heap.size 160 3 v b (((lstP fs).take b).flatMap Ky.cells) ∧ Hid (Below w3.heap.size w3 wx))
              case first =>
                by_cases hb0 : b = 0
                · have d0 : ¬ (0 : Int) < (b : Int) := by omega
                  have HB0 := hid hb0
                  clear hb0
                  go_wp2_with fail
                  go_meet
                  case rel => exact ⟨by rw [HB0.out]; exact World.ownsRow_nil _ _ _ _, Below.refl _ _⟩
                · have d0 : (0 : Int) < (b : Int) := by omega
                  have hfp : 0 < fs.length := by
                    rcases Nat.eq_zero_or_pos fs.length with h | h
                    · have := List.length_eq_zero_iff.1 h
                      rw [this, lstP_nil] at hdl
                      simp at hdl; omega
                    · exact h
                  obtain ⟨g, o, cs1, rfl, hg, ⟨ap, cp, an1, cn1, rfl, hP, _⟩, hcell⟩ := HAT.out (fs.length - 1) (by omega)
                  rw [← lstP_get hfp] at hP hcell
                  have c0 := hcell 0 _ rfl
                  have c0' : w3.cell? ⟨g, o + (fs.length - 1) * 2, none⟩ = some (.slice ap (lstP fs).length cp) := below_cell HB3.out hg.2 (by simpa using c0)
                  have hbp : b ≤ (lstP fs).length := by omega
                  obtain ⟨hcp, hcp2, hcp3⟩ := SlC.caps hP
                  have v1 : IntKind.i64.wrap ((fs.length : Int) - 1) = (fs.length : Int) - 1 := IntWalk.i64_in _ (by omega)
                  have v2 : (0 : Int) ≤ (fs.length : Int) - 1 := by omega
                  have v3 : (fs.length : Int) - 1 < (fs.length : Int) := by omega
                  have v4 : (0 : Int) ≤ (b : Int) := by omega
                  have v5 : (b : Int) ≤ (cp : Int) := by omega
                  have HPP := hid hP
                  clear hcell c0 hP hb0
                  have hlk : (((lstP fs).take b).flatMap Ky.cells).length = b * 3 := by rw [len_keys, List.length_take, Nat.min_eq_left hbp]
                  have hnw : ∀ ad, ap = some ad → ∀ (j : Nat) (u : Value), (((lstP fs).take b).flatMap Ky.cells)[j]? = some u → w3.cell? (ad.add j) = some u := fun ad had j u hu => by
                    refine SlC.news HPP.out (Agree.of_below HB3.out (fun b hb => hb.2)) ad had j u ?_
                    have h2 : (lstP fs).flatMap Ky.cells = ((lstP fs).take b).flatMap Ky.cells ++ ((lstP fs).drop b).flatMap Ky.cells := by rw [← List.flatMap_append, List.take_append_drop]
                    rw [h2, List.getElem?_append_left (List.getElem?_eq_some_iff.1 hu).1]; exact hu
                  go_wp2_with (at_builtin; refine (wpList_append_ao _ rfl _ _ _ rfl w3.heap.size 160 j0 _ 3 32 Tryz.underlying92 hj0 hy0 hy1 hy2 rfl (by omega) (.slice none 0 0) 0 [] rfl (World.ownsRow_nil _ _ _ _) ap b cp (((lstP fs).take b).flatMap Ky.cells) rfl hlk (fun e => by have := hcp3 e; omega) hnw (one_keys _) (by unfold maxLen; omega) (by omega) (Nat.le_refl _) ?_); intro a5 c5 w5 hown5 hgrow5 hat5)
                  go_meet
                  case rel =>
                    refine ⟨by simpa using hown5, ?_⟩
                    exact (Below.refl _ _).grown hgrow5 (Nat.le_refl _) (fun k hk => by cases hk)
              case rest =>
                obtain ⟨hown5, hB5⟩ := hcut
                have HZ5 := hid hB5.out.size
                have hown6 := hown5.alloc (.cells #[.string (bs (kyOf W0 (ws.map (fun l => ((decN l : Nat) : Int)))).n), .bool (kyOf W0 (ws.map (fun l => ((decN l : Nat) : Int)))).h, .int .i64 (kyOf W0 (ws.map (fun l => ((decN l : Nat) : Int)))).x] 160)
                obtain ⟨l, hl⟩ : ∃ l, ws.map (fun l => ((decN l : Nat) : Int)) = l := ⟨_, rfl⟩
                have hll : ws.length = l.length := by rw [← hl, List.length_map]
                rw [hl] at HI HQ2
                rw [hll] at HI hw4 ⊢
                have KO := hid (KeyOf_any W0 l an cn (Rg wb.heap.size w3.heap.size) wc (HI.out.agree (Agree.of_below hB5.out (fun b hb => hb.2))) (fun b hb => by have := hb.2; have := HZ5.out; omega))
                clear hown6 hl
                go_wp2_with (first | (go_at_call 107; refine KO.out.mono ?_; rintro e w6 ⟨rfl, hb6⟩; have hz6 := hid hb6.size) | (at_builtin; refine (wpList_append_ao _ rfl _ _ _ rfl w3.heap.size 160 j0 _ 3 32 Tryz.underlying92 hj0 hy0 hy1 hy2 rfl (by omega) u14 b (((lstP fs).take b).flatMap Ky.cells) rfl ((owns_below hown5 hb6 (Nat.le_refl _)).alloc _) (some ⟨w6.heap.size, 0, none⟩) 1 1 [.string (bs (kyOf W0 l).n), .bool (kyOf W0 l).h, .int .i64 (kyOf W0 l).x] rfl rfl (fun h => by cases h) (fun ad had => by cases had; exact World.news_of_block (cs := #[.string (bs (kyOf W0 l).n), .bool (kyOf W0 l).h, .int .i64 (kyOf W0 l).x]) (t := 160) (fr := (0, 0)) (heap_alloc_new _ _)) (by simp [Value.oneCell']) (by unfold maxLen; omega) (by omega) (by have := HZ5.out; have := hz6.out; simp; omega) ?_); intro a7 c7 w7 hown7 hgrow7 hat7))
                have hb7 : Below w3.heap.size w3 w7 := ((hB5.out.trans (hb6.mono HZ5.out)).alloc (by have := HZ5.out; have := hz6.out; omega) _).grown hgrow7 (by have := HZ5.out; have := hz6.out; simp; omega) (fun k hk => (hown5.lt k hk).1)
                have hbl : b ≤ (lstP fs).length := by omega
                obtain ⟨P, hP⟩ : ∃ P, (lstP fs).take b ++ [kyOf W0 l] = P := ⟨_, rfl⟩
                have hPl : P.length = b + 1 := by rw [← hP, List.length_append, List.length_take, Nat.min_eq_left hbl]; rfl
                have hp7 : Pth (Rg w3.heap.size w7.heap.size) w7 (.slice a7 (b + 1) c7) P := by
                  have h := SlC.of_owns hown7
                  unfold Pth
                  rw [hPl, ← hP, show ((lstP fs).take b ++ [kyOf W0 l]).flatMap Ky.cells = ((lstP fs).take b).flatMap Ky.cells ++ [.string (bs (kyOf W0 l).n), .bool (kyOf W0 l).h, .int .i64 (kyOf W0 l).x] by simp [Ky.cells]]
                  exact h
                rw [hP] at HQ2
                have HPL := hid hPl
                have HP7 := hid hp7
                have HB7 := hid hb7
                have HZ7 := hid hb7.size
                have HPE := hid hP
                have hI7 := hid (HI.out.agree (Agree.of_below hb7 (fun b hb => hb.2)))
                clear hown5 hb6 hz6 hown7 hgrow7 hat7 hb7 hPl hp7 hB5 HZ5 KO HI hP
                go_loopw [15] (fun iv w2 => ∃ m : Nat, m ≤ fs.length ∧ iv = .int .i64 m ∧ Hid (Below w7.heap.size w7 w2) ∧ Hid (∀ x ∈ fs.take m, sibB b P x = false)) (fun iv _ => fs.length - (intOf iv).toNat)
                case atStart => exact ⟨0, by omega, rfl, Below.refl _ _, fun x hx => by simp at hx⟩
                case round =>
                  obtain ⟨m, hm, rfl, hBm, hno⟩ := hrel
                  by_cases hmt : m < fs.length
                  · obtain ⟨g, o, cs1, rfl, hg, ⟨ap, cp, an1, cn1, rfl, hPm, _⟩, hcell⟩ := HAT.out m hmt
                    have c0 := hcell 0 _ rfl
                    obtain ⟨x, hx⟩ : ∃ x, fs[m] = x := ⟨_, rfl⟩
                    rw [hx] at hPm c0
                    have hBw : Hid (Below wb.heap.size wb wr) := (HB3.out.trans (HB7.out.mono HZ3.out)).trans (hBm.out.mono (by have := HZ3.out; have := HZ7.out; omega))
                    have c0' : wr.cell? ⟨g, o + m * 2, none⟩ = some (.slice ap x.p.length cp) := below_cell hBw.out hg.2 (by simpa using c0)
                    have HX := hid hx
                    have HPM := hid hPm
                    have m1 : (m : Int) < (fs.length : Int) := by omega
                    have m2 : (0 : Int) ≤ (m : Int) := by omega
                    have HC0 := hid c0
                    have HCE := hid hcell
                    obtain ⟨xl, hxl⟩ : ∃ n, x.p.length = n := ⟨_, rfl⟩
                    rw [hxl] at c0'
                    have HXL := hid hxl
                    clear hcell c0 hx hPm hxl
                    by_cases hlen : xl = b + 1
                    · subst hlen
                      have hz := hBw.out.size
                      have hx1 : Pth (fun k => k < wr.heap.size) wr (.slice ap x.p.length cp) x.p := (HPM.out.agree (Agree.of_below hBw.out (fun k hk => hk.2))).wide (fun k hk => by have := hk.2; omega)
                      have hx2 : Pth (fun k => k < wr.heap.size) wr (.slice a7 P.length c7) P := by rw [HPL.out]; exact (HP7.out.agree (Agree.of_below hBm.out (fun k hk => hk.2))).wide (fun k hk => by have := hk.2; have := hBm.out.size; omega)
                      have hxb : b < x.p.length := by rw [HXL.out]; omega
                      have hpb : b < P.length := by rw [HPL.out]; omega
                      obtain ⟨hcx, hcx2, _⟩ := SlC.caps hx1
                      obtain ⟨hcy, hcy2, _⟩ := SlC.caps hx2
                      rw [HXL.out] at hcx
                      rw [HPL.out] at hcy
                      have SA := hid (fun W (hW : Below wr.heap.size wr W) => same_take (hx1.agree (Agree.of_below hW (fun k hk => hk))) (hx2.agree (Agree.of_below hW (fun k hk => hk))) (show b ≤ x.p.length by omega) (show b ≤ P.length by omega) (by omega))
                      obtain ⟨gx, ox, rfl, hgx, x0, x1, x2⟩ := hx1.key hxb
                      obtain ⟨gp, og, rfl, hgp, y0, y1, y2⟩ := hx2.key hpb
                      have hsib : sibB b P x = (decide (x.p.take b = P.take b) && !befK x.p[b] P[b]) := by
                        unfold sibB
                        rw [HXL.out, HPL.out, decide_eq_true rfl, Bool.true_and, List.getD_eq_getElem?_getD, List.getElem?_eq_getElem hxb, List.getD_eq_getElem?_getD, List.getElem?_eq_getElem hpb]; rfl
                      obtain ⟨kx, hkx⟩ : ∃ k, x.p[b] = k := ⟨_, rfl⟩
                      obtain ⟨ky, hky⟩ : ∃ k, P[b] = k := ⟨_, rfl⟩
                      rw [hkx] at x0 x1 x2 hsib
                      rw [hky] at y0 y1 y2 hsib
                      have HCS : Hid (∀ W, Below wr.heap.size wr W → (fun w' : World => w'.cell? ⟨gx, ox + b * 3, none⟩ = some (.string (bs kx.n)) ∧ w'.cell? ⟨gx, ox + b * 3 + 1, none⟩ = some (.bool kx.h) ∧ w'.cell? ⟨gx, ox + b * 3 + 2, none⟩ = some (.int .i64 kx.x) ∧ w'.cell? ⟨gp, og + b * 3, none⟩ = some (.string (bs ky.n)) ∧ w'.cell? ⟨gp, og + b * 3 + 1, none⟩ = some (.bool ky.h) ∧ w'.cell? ⟨gp, og + b * 3 + 2, none⟩ = some (.int .i64 ky.x)) W) := fun W hW => ⟨below_cell hW hgx x0, below_cell hW hgx x1, below_cell hW hgx x2, below_cell hW hgp y0, below_cell hW hgp y1, below_cell hW hgp y2⟩
                      have HZR := hid hBm.out.size
                      have v4 : (0 : Int) ≤ (b : Int) := by omega
                      have v5 : (b : Int) ≤ (cp : Int) := by omega
                      have v6 : (b : Int) ≤ (c7 : Int) := by omega
                      have v7 : (b : Int) < (b : Int) + 1 := by omega
                      obtain ⟨q, hq⟩ : ∃ q, decide (x.p.take b = P.take b) = q := ⟨_, rfl⟩
                      rw [hq] at hsib
                      have HTK := hid hq
                      have HSB := hid hsib
                      clear hz hx1 hx2 hkx hky hq hsib hxb hpb
                      cases q with
                      | false =>
                        go_wp2_with fail
                        refine (wpIn_wide (n := 9)).1 ?_
                        refine region_held (fun w' : World => w'.cell? ⟨gx, ox + b * 3, none⟩ = some (.string (bs kx.n)) ∧ w'.cell? ⟨gx, ox + b * 3 + 1, none⟩ = some (.bool kx.h) ∧ w'.cell? ⟨gx, ox + b * 3 + 2, none⟩ = some (.int .i64 kx.x) ∧ w'.cell? ⟨gp, og + b * 3, none⟩ = some (.string (bs ky.n)) ∧ w'.cell? ⟨gp, og + b * 3 + 1, none⟩ = some (.bool ky.h) ∧ w'.cell? ⟨gp, og + b * 3 + 2, none⟩ = some (.int .i64 ky.x)) (by kernel_rfl) ?_
                        have hS0 : (fun w' : World => w'.cell? ⟨gx, ox + b * 3, none⟩ = some (.string (bs kx.n)) ∧ w'.cell? ⟨gx, ox + b * 3 + 1, none⟩ = some (.bool kx.h) ∧ w'.cell? ⟨gx, ox + b * 3 + 2, none⟩ = some (.int .i64 kx.x) ∧ w'.cell? ⟨gp, og + b * 3, none⟩ = some (.string (bs ky.n)) ∧ w'.cell? ⟨gp, og + b * 3 + 1, none⟩ = some (.bool ky.h) ∧ w'.cell? ⟨gp, og + b * 3 + 2, none⟩ = some (.int .i64 ky.x)) wr.drew := ⟨x0, x1, x2, y0, y1, y2⟩
                        refine AnyH_takeD (fun _ => trivial) (by kernel_rfl) 0 113 (.slice (some ⟨gx, ox, none⟩) (b + 1) cp) rfl rfl (by kernel_rfl) (by kernel_rfl) (by kernel_rfl) (fun _ _ _ h => h) (.inl ⟨by kernel_rfl, fun w' hs => ?_⟩) hS0 ?_
                        · go_simp
                        refine AnyH_takeD (fun _ => trivial) (by kernel_rfl) 1 114 (.int .i64 ((b : Int) + 1)) rfl rfl (by kernel_rfl) (by kernel_rfl) (by kernel_rfl) (fun _ _ _ h => h) (.inl ⟨by kernel_rfl, fun w' hs => ?_⟩) hS0 ?_
                        · go_simp
                        refine AnyH_takeD (fun _ => trivial) (by kernel_rfl) 2 115 (.slice (some ⟨gp, og, none⟩) (b + 1) c7) rfl rfl (by kernel_rfl) (by kernel_rfl) (by kernel_rfl) (fun _ _ _ h => h) (.inl ⟨by kernel_rfl, fun w' hs => ?_⟩) hS0 ?_
                        · go_simp
                        refine AnyH_takeD (fun _ => trivial) (by kernel_rfl) 3 116 (.int .i64 ((b : Int) + 1)) rfl rfl (by kernel_rfl) (by kernel_rfl) (by kernel_rfl) (fun _ _ _ h => h) (.inl ⟨by kernel_rfl, fun w' hs => ?_⟩) hS0 ?_
                        · go_simp
                        refine AnyH_takeD (fun _ => trivial) (by kernel_rfl) 4 117 (.bool true) rfl rfl (by kernel_rfl) (by kernel_rfl) (by kernel_rfl) (fun _ _ _ h => h) (.inl ⟨by kernel_rfl, fun w' hs => ?_⟩) hS0 ?_
                        · go_simp
                        refine AnyH_takeD (fun _ => trivial) (by kernel_rfl) 5 118 (.bool true) rfl rfl (by kernel_rfl) (by kernel_rfl) (by kernel_rfl) (fun _ _ _ h => h) (.inl ⟨by kernel_rfl, fun w' hs => ?_⟩) hS0 ?_
                        · go_simp
                        refine AnyH_takeD (fun _ => trivial) (by kernel_rfl) 6 119 (.slice (some ⟨gx, ox, none⟩) (b + 1) cp) rfl rfl (by kernel_rfl) (by kernel_rfl) (by kernel_rfl) (fun _ _ _ h => h) (.inl ⟨by kernel_rfl, fun w' hs => ?_⟩) hS0 ?_
                        · go_simp
                        refine AnyH_takeD (fun _ => trivial) (by kernel_rfl) 7 120 (.int .i64 b) rfl rfl (by kernel_rfl) (by kernel_rfl) (by kernel_rfl) (fun _ _ _ h => h) (.inl ⟨by kernel_rfl, fun w' hs => ?_⟩) hS0 ?_
                        · go_simp
                        refine AnyH_takeD (fun _ => trivial) (by kernel_rfl) 8 121 (.slice (some ⟨gx, ox, none⟩) b cp) rfl rfl (by kernel_rfl) (by kernel_rfl) (by kernel_rfl) (fun _ _ _ h => h) (.inl ⟨by kernel_rfl, fun w' hs => ?_⟩) hS0 ?_
                        · go_simp
                        refine AnyH_takeD (fun _ => trivial) (by kernel_rfl) 9 122 (.slice (some ⟨gp, og, none⟩) (b + 1) c7) rfl rfl (by kernel_rfl) (by kernel_rfl) (by kernel_rfl) (fun _ _ _ h => h) (.inl ⟨by kernel_rfl, fun w' hs => ?_⟩) hS0 ?_
                        · go_simp
                        refine AnyH_takeD (fun _ => trivial) (by kernel_rfl) 10 123 (.int .i64 b) rfl rfl (by kernel_rfl) (by kernel_rfl) (by kernel_rfl) (fun _ _ _ h => h) (.inl ⟨by kernel_rfl, fun w' hs => ?_⟩) hS0 ?_
                        · go_simp
                        refine AnyH_takeD (fun _ => trivial) (by kernel_rfl) 11 124 (.slice (some ⟨gp, og, none⟩) b c7) rfl rfl (by kernel_rfl) (by kernel_rfl) (by kernel_rfl) (fun _ _ _ h => h) (.inl ⟨by kernel_rfl, fun w' hs => ?_⟩) hS0 ?_
                        · go_simp
                        refine AnyH_one (i := 12) (by kernel_rfl) rfl (by kernel_rfl) (fun K hK => ?_)
                        go_simp
                        refine ⟨trivial, (callsIn_wide.2 (SA.out _ (Below.refl _ _).drew)).mono ?_⟩
                        rintro e w8 ⟨rfl, hb8⟩
                        have hb8' : Below wr.heap.size wr w8 := (Below.refl _ _).drew.trans hb8
                        have hS8 := HCS.out w8 hb8'
                        rw [HTK.out]
                        refine hK _ _ ⟨hS8, ?_⟩
                        clear hK
                        refine AnyH_takeD (fun _ => trivial) (by kernel_rfl) 13 126 (.bool false) rfl rfl (by kernel_rfl) (by kernel_rfl) (by kernel_rfl) (fun _ _ _ h => h) (.inl ⟨by kernel_rfl, fun w' hs => ?_⟩) hS8 ?_
                        · go_simp
                        refine AnyH_takeD (fun _ => trivial) (by kernel_rfl) 14 127 (.bool false) rfl rfl (by kernel_rfl) (by kernel_rfl) (by kernel_rfl) (fun _ _ _ h => h) (.inl ⟨by kernel_rfl, fun w' hs => ?_⟩) hS8 ?_
                        · go_simp
                        refine AnyH_takeD (fun _ => trivial) (by kernel_rfl) 15 128 undef rfl rfl (by kernel_rfl) (by kernel_rfl) (by kernel_rfl) (fun _ _ _ h => h) (.inr ⟨by kernel_rfl, rfl⟩) hS8 ?_
                        refine AnyH_takeD (fun _ => trivial) (by kernel_rfl) 16 129 undef rfl rfl (by kernel_rfl) (by kernel_rfl) (by kernel_rfl) (fun _ _ _ h => h) (.inr ⟨by kernel_rfl, rfl⟩) hS8 ?_
                        refine AnyH_takeD (fun _ => trivial) (by kernel_rfl) 17 130 undef rfl rfl (by kernel_rfl) (by kernel_rfl) (by kernel_rfl) (fun _ _ _ h => h) (.inr ⟨by kernel_rfl, rfl⟩) hS8 ?_
                        refine AnyH_takeD (fun _ => trivial) (by kernel_rfl) 18 131 undef rfl rfl (by kernel_rfl) (by kernel_rfl) (by kernel_rfl) (fun _ _ _ h => h) (.inr ⟨by kernel_rfl, rfl⟩) hS8 ?_
                        refine AnyH_takeD (fun _ => trivial) (by kernel_rfl) 19 132 undef rfl rfl (by kernel_rfl) (by kernel_rfl) (by kernel_rfl) (fun _ _ _ h => h) (.inr ⟨by kernel_rfl, rfl⟩) hS8 ?_
                        refine AnyH_takeD (fun _ => trivial) (by kernel_rfl) 20 133 undef rfl rfl (by kernel_rfl) (by kernel_rfl) (by kernel_rfl) (fun _ _ _ h => h) (.inr ⟨by kernel_rfl, rfl⟩) hS8 ?_
                        refine AnyH_takeD (fun _ => trivial) (by kernel_rfl) 21 134 undef rfl rfl (by kernel_rfl) (by kernel_rfl) (by kernel_rfl) (fun _ _ _ h => h) (.inr ⟨by kernel_rfl, rfl⟩) hS8 ?_
                        refine AnyH_takeD (fun _ => trivial) (by kernel_rfl) 22 135 undef rfl rfl (by kernel_rfl) (by kernel_rfl) (by kernel_rfl) (fun _ _ _ h => h) (.inr ⟨by kernel_rfl, rfl⟩) hS8 ?_
                        refine AnyH_takeD (fun _ => trivial) (by kernel_rfl) 23 136 undef rfl rfl (by kernel_rfl) (by kernel_rfl) (by kernel_rfl) (fun _ _ _ h => h) (.inr ⟨by kernel_rfl, rfl⟩) hS8 ?_
                        refine AnyH_takeD (fun _ => trivial) (by kernel_rfl) 24 137 undef rfl rfl (by kernel_rfl) (by kernel_rfl) (by kernel_rfl) (fun _ _ _ h => h) (.inr ⟨by kernel_rfl, rfl⟩) hS8 ?_
                        refine AnyH_takeD (fun _ => trivial) (by kernel_rfl) 25 138 (.bool false) rfl rfl (by kernel_rfl) (by kernel_rfl) (by kernel_rfl) (fun _ _ _ h => h) (.inl ⟨by kernel_rfl, fun w' hs => ?_⟩) hS8 ?_
                        · go_simp
                        refine AnyH_done (by kernel_rfl) ?_
                        go_simp
                        go_wp2_with fail
                        go_roundw
                        case rel => exact ⟨m + 1, by omega, by go_num, hBm.out.trans (hb8'.mono HZR.out), no_more HX.out hno.out (by unfold sibB; rw [HTK.out]; simp)⟩
                        case measure => simp [intOf]; omega
                      | true =>
                        go_wp2_with fail
                        refine (wpIn_wide (n := 9)).1 ?_
                        refine region_held (fun w' : World => w'.cell? ⟨gx, ox + b * 3, none⟩ = some (.string (bs kx.n)) ∧ w'.cell? ⟨gx, ox + b * 3 + 1, none⟩ = some (.bool kx.h) ∧ w'.cell? ⟨gx, ox + b * 3 + 2, none⟩ = some (.int .i64 kx.x) ∧ w'.cell? ⟨gp, og + b * 3, none⟩ = some (.string (bs ky.n)) ∧ w'.cell? ⟨gp, og + b * 3 + 1, none⟩ = some (.bool ky.h) ∧ w'.cell? ⟨gp, og + b * 3 + 2, none⟩ = some (.int .i64 ky.x)) (by kernel_rfl) ?_
                        have hS0 : (fun w' : World => w'.cell? ⟨gx, ox + b * 3, none⟩ = some (.string (bs kx.n)) ∧ w'.cell? ⟨gx, ox + b * 3 + 1, none⟩ = some (.bool kx.h) ∧ w'.cell? ⟨gx, ox + b * 3 + 2, none⟩ = some (.int .i64 kx.x) ∧ w'.cell? ⟨gp, og + b * 3, none⟩ = some (.string (bs ky.n)) ∧ w'.cell? ⟨gp, og + b * 3 + 1, none⟩ = some (.bool ky.h) ∧ w'.cell? ⟨gp, og + b * 3 + 2, none⟩ = some (.int .i64 ky.x)) wr.drew := ⟨x0, x1, x2, y0, y1, y2⟩
                        refine AnyH_takeD (fun _ => trivial) (by kernel_rfl) 0 113 (.slice (some ⟨gx, ox, none⟩) (b + 1) cp) rfl rfl (by kernel_rfl) (by kernel_rfl) (by kernel_rfl) (fun _ _ _ h => h) (.inl ⟨by kernel_rfl, fun w' hs => ?_⟩) hS0 ?_
                        · go_simp
                        refine AnyH_takeD (fun _ => trivial) (by kernel_rfl) 1 114 (.int .i64 ((b : Int) + 1)) rfl rfl (by kernel_rfl) (by kernel_rfl) (by kernel_rfl) (fun _ _ _ h => h) (.inl ⟨by kernel_rfl, fun w' hs => ?_⟩) hS0 ?_
                        · go_simp
                        refine AnyH_takeD (fun _ => trivial) (by kernel_rfl) 2 115 (.slice (some ⟨gp, og, none⟩) (b + 1) c7) rfl rfl (by kernel_rfl) (by kernel_rfl) (by kernel_rfl) (fun _ _ _ h => h) (.inl ⟨by kernel_rfl, fun w' hs => ?_⟩) hS0 ?_
                        · go_simp
                        refine AnyH_takeD (fun _ => trivial) (by kernel_rfl) 3 116 (.int .i64 ((b : Int) + 1)) rfl rfl (by kernel_rfl) (by kernel_rfl) (by kernel_rfl) (fun _ _ _ h => h) (.inl ⟨by kernel_rfl, fun w' hs => ?_⟩) hS0 ?_
                        · go_simp
                        refine AnyH_takeD (fun _ => trivial) (by kernel_rfl) 4 117 (.bool true) rfl rfl (by kernel_rfl) (by kernel_rfl) (by kernel_rfl) (fun _ _ _ h => h) (.inl ⟨by kernel_rfl, fun w' hs => ?_⟩) hS0 ?_
                        · go_simp
                        refine AnyH_takeD (fun _ => trivial) (by kernel_rfl) 5 118 (.bool true) rfl rfl (by kernel_rfl) (by kernel_rfl) (by kernel_rfl) (fun _ _ _ h => h) (.inl ⟨by kernel_rfl, fun w' hs => ?_⟩) hS0 ?_
                        · go_simp
                        refine AnyH_takeD (fun _ => trivial) (by kernel_rfl) 6 119 (.slice (some ⟨gx, ox, none⟩) (b + 1) cp) rfl rfl (by kernel_rfl) (by kernel_rfl) (by kernel_rfl) (fun _ _ _ h => h) (.inl ⟨by kernel_rfl, fun w' hs => ?_⟩) hS0 ?_
                        · go_simp
                        refine AnyH_takeD (fun _ => trivial) (by kernel_rfl) 7 120 (.int .i64 b) rfl rfl (by kernel_rfl) (by kernel_rfl) (by kernel_rfl) (fun _ _ _ h => h) (.inl ⟨by kernel_rfl, fun w' hs => ?_⟩) hS0 ?_
                        · go_simp
                        refine AnyH_takeD (fun _ => trivial) (by kernel_rfl) 8 121 (.slice (some ⟨gx, ox, none⟩) b cp) rfl rfl (by kernel_rfl) (by kernel_rfl) (by kernel_rfl) (fun _ _ _ h => h) (.inl ⟨by kernel_rfl, fun w' hs => ?_⟩) hS0 ?_
                        · go_simp
                        refine AnyH_takeD (fun _ => trivial) (by kernel_rfl) 9 122 (.slice (some ⟨gp, og, none⟩) (b + 1) c7) rfl rfl (by kernel_rfl) (by kernel_rfl) (by kernel_rfl) (fun _ _ _ h => h) (.inl ⟨by kernel_rfl, fun w' hs => ?_⟩) hS0 ?_
                        · go_simp
                        refine AnyH_takeD (fun _ => trivial) (by kernel_rfl) 10 123 (.int .i64 b) rfl rfl (by kernel_rfl) (by kernel_rfl) (by kernel_rfl) (fun _ _ _ h => h) (.inl ⟨by kernel_rfl, fun w' hs => ?_⟩) hS0 ?_
                        · go_simp
                        refine AnyH_takeD (fun _ => trivial) (by kernel_rfl) 11 124 (.slice (some ⟨gp, og, none⟩) b c7) rfl rfl (by kernel_rfl) (by kernel_rfl) (by kernel_rfl) (fun _ _ _ h => h) (.inl ⟨by kernel_rfl, fun w' hs => ?_⟩) hS0 ?_
                        · go_simp
                        refine AnyH_one (i := 12) (by kernel_rfl) rfl (by kernel_rfl) (fun K hK => ?_)
                        go_simp
                        refine ⟨trivial, (callsIn_wide.2 (SA.out _ (Below.refl _ _).drew)).mono ?_⟩
                        rintro e w8 ⟨rfl, hb8⟩
                        have hb8' : Below wr.heap.size wr w8 := (Below.refl _ _).drew.trans hb8
                        have hS8 := HCS.out w8 hb8'
                        rw [HTK.out]
                        refine hK _ _ ⟨hS8, ?_⟩
                        clear hK
                        refine AnyH_takeD (fun _ => trivial) (by kernel_rfl) 13 126 (.bool true) rfl rfl (by kernel_rfl) (by kernel_rfl) (by kernel_rfl) (fun _ _ _ h => h) (.inl ⟨by kernel_rfl, fun w' hs => ?_⟩) hS8 ?_
                        · go_simp
                        refine AnyH_takeD (fun _ => trivial) (by kernel_rfl) 14 127 (.bool true) rfl rfl (by kernel_rfl) (by kernel_rfl) (by kernel_rfl) (fun _ _ _ h => h) (.inl ⟨by kernel_rfl, fun w' hs => ?_⟩) hS8 ?_
                        · go_simp
                        refine AnyH_takeD (fun _ => trivial) (by kernel_rfl) 15 128 (.slice (some ⟨gx, ox, none⟩) (b + 1) cp) rfl rfl (by kernel_rfl) (by kernel_rfl) (by kernel_rfl) (fun _ _ _ h => h) (.inl ⟨by kernel_rfl, fun w' hs => ?_⟩) hS8 ?_
                        · go_simp
                        refine AnyH_takeD (fun _ => trivial) (by kernel_rfl) 16 129 (.int .i64 b) rfl rfl (by kernel_rfl) (by kernel_rfl) (by kernel_rfl) (fun _ _ _ h => h) (.inl ⟨by kernel_rfl, fun w' hs => ?_⟩) hS8 ?_
                        · go_simp
                        refine AnyH_takeD (fun _ => trivial) (by kernel_rfl) 17 130 (.pointer (some ⟨gx, ox + b * 3, none⟩)) rfl rfl (by kernel_rfl) (by kernel_rfl) (by kernel_rfl) (fun _ _ _ h => h) (.inl ⟨by kernel_rfl, fun w' hs => ?_⟩) hS8 ?_
                        · go_simp
                        refine AnyH_takeD (fun _ => trivial) (by kernel_rfl) 18 131 (.agg #[.string (bs kx.n), .bool kx.h, .int .i64 kx.x]) rfl rfl (by kernel_rfl) (by kernel_rfl) (by kernel_rfl) (fun _ _ _ h => h) (.inl ⟨by kernel_rfl, fun w' hs => ?_⟩) hS8 ?_
                        · obtain ⟨q0, q1, q2, q3, q4, q5⟩ := hs
                          go_simp
                        refine AnyH_takeD (fun _ => trivial) (by kernel_rfl) 19 132 (.slice (some ⟨gp, og, none⟩) (b + 1) c7) rfl rfl (by kernel_rfl) (by kernel_rfl) (by kernel_rfl) (fun _ _ _ h => h) (.inl ⟨by kernel_rfl, fun w' hs => ?_⟩) hS8 ?_
                        · go_simp
                        refine AnyH_takeD (fun _ => trivial) (by kernel_rfl) 20 133 (.int .i64 b) rfl rfl (by kernel_rfl) (by kernel_rfl) (by kernel_rfl) (fun _ _ _ h => h) (.inl ⟨by kernel_rfl, fun w' hs => ?_⟩) hS8 ?_
                        · go_simp
                        refine AnyH_takeD (fun _ => trivial) (by kernel_rfl) 21 134 (.pointer (some ⟨gp, og + b * 3, none⟩)) rfl rfl (by kernel_rfl) (by kernel_rfl) (by kernel_rfl) (fun _ _ _ h => h) (.inl ⟨by kernel_rfl, fun w' hs => ?_⟩) hS8 ?_
                        · go_simp
                        refine AnyH_takeD (fun _ => trivial) (by kernel_rfl) 22 135 (.agg #[.string (bs ky.n), .bool ky.h, .int .i64 ky.x]) rfl rfl (by kernel_rfl) (by kernel_rfl) (by kernel_rfl) (fun _ _ _ h => h) (.inl ⟨by kernel_rfl, fun w' hs => ?_⟩) hS8 ?_
                        · obtain ⟨q0, q1, q2, q3, q4, q5⟩ := hs
                          go_simp
                        refine AnyH_one (i := 23) (by kernel_rfl) rfl (by kernel_rfl) (fun K hK => ?_)
                        go_simp
                        refine ⟨trivial, (callsIn_wide.2 (before_any kx ky _)).mono ?_⟩
                        rintro e w9 ⟨rfl, hb9⟩
                        have hb9' : Below wr.heap.size wr w9 := hb8'.trans (hb9.mono hb8'.size)
                        have hS9 := HCS.out w9 hb9'
                        refine hK _ _ ⟨hS9, ?_⟩
                        clear hK
                        cases hbf : befK kx ky with
                        | true =>
                          refine AnyH_takeD (fun _ => trivial) (by kernel_rfl) 24 137 (.bool false) rfl rfl (by kernel_rfl) (by kernel_rfl) (by kernel_rfl) (fun _ _ _ h => h) (.inl ⟨by kernel_rfl, fun w' hs => ?_⟩) hS9 ?_
                          · go_simp
                          refine AnyH_takeD (fun _ => trivial) (by kernel_rfl) 25 138 (.bool false) rfl rfl (by kernel_rfl) (by kernel_rfl) (by kernel_rfl) (fun _ _ _ h => h) (.inl ⟨by kernel_rfl, fun w' hs => ?_⟩) hS9 ?_
                          · go_simp
                          refine AnyH_done (by kernel_rfl) ?_
                          go_simp
                          have HBF := hid hbf
                          clear hbf
                          go_wp2_with fail
                          go_roundw
                          case rel => exact ⟨m + 1, by omega, by go_num, hBm.out.trans (hb9'.mono HZR.out), no_more HX.out hno.out (by rw [HSB.out, HBF.out]; simp)⟩
                          case measure => simp [intOf]; omega
                        | false =>
                          refine AnyH_takeD (fun _ => trivial) (by kernel_rfl) 24 137 (.bool true) rfl rfl (by kernel_rfl) (by kernel_rfl) (by kernel_rfl) (fun _ _ _ h => h) (.inl ⟨by kernel_rfl, fun w' hs => ?_⟩) hS9 ?_
                          · go_simp
                          refine AnyH_takeD (fun _ => trivial) (by kernel_rfl) 25 138 (.bool true) rfl rfl (by kernel_rfl) (by kernel_rfl) (by kernel_rfl) (fun _ _ _ h => h) (.inl ⟨by kernel_rfl, fun w' hs => ?_⟩) hS9 ?_
                          · go_simp
                          refine AnyH_done (by kernel_rfl) ?_
                          go_simp
                          have HBF := hid hbf
                          clear hbf
                          go_wp2_with fail
                          have hany : fs.any (sibB b P) = true := List.any_eq_true.2 ⟨fs[m], List.getElem_mem hmt, by rw [HX.out, HSB.out, HBF.out]; rfl⟩
                          have hq := HQ2.out
                          rw [if_pos hany] at hq
                          refine bodyPost_ret (v := .tuple #[.slice none 0 0, .int .i64 ln, .int .i64 b, .int .i64 (4 : Nat)]) (by simp [results, Tryz.results27, go_sem]) rfl ?_
                          have hz1 := HBB.out.size
                          have hz2 := hBw.out.size
                          exact RET0.out w9 ln b 4 ((HBB.out.trans (hBw.out.mono hz1)).trans (hb9'.mono (by omega))) hq
                    · have bl : ((xl : Int) == (b : Int) + 1) = false := beq_eq_false_iff_ne.2 (by omega)
                      have bl2 : ((xl : Int) == ((b + 1 : Nat) : Int)) = false := beq_eq_false_iff_ne.2 (by omega)
                      go_wp2_with fail
                      refine (wpIn_wide (n := 9)).1 ?_
                      refine region_held (fun _ => True) (by kernel_rfl) ?_
                      have hS0 : (fun _ : World => True) wr.drew := trivial
                      refine AnyH_takeD (fun _ => trivial) (by kernel_rfl) 0 113 (.slice ap xl cp) rfl rfl (by kernel_rfl) (by kernel_rfl) (by kernel_rfl) (fun _ _ _ h => h) (.inl ⟨by kernel_rfl, fun w' hs => ?_⟩) hS0 ?_
                      · go_simp
                      refine AnyH_takeD (fun _ => trivial) (by kernel_rfl) 1 114 (.int .i64 xl) rfl rfl (by kernel_rfl) (by kernel_rfl) (by kernel_rfl) (fun _ _ _ h => h) (.inl ⟨by kernel_rfl, fun w' hs => ?_⟩) hS0 ?_
                      · go_simp
                      refine AnyH_takeD (fun _ => trivial) (by kernel_rfl) 2 115 (.slice a7 (b + 1) c7) rfl rfl (by kernel_rfl) (by kernel_rfl) (by kernel_rfl) (fun _ _ _ h => h) (.inl ⟨by kernel_rfl, fun w' hs => ?_⟩) hS0 ?_
                      · go_simp
                      refine AnyH_takeD (fun _ => trivial) (by kernel_rfl) 3 116 (.int .i64 ((b : Int) + 1)) rfl rfl (by kernel_rfl) (by kernel_rfl) (by kernel_rfl) (fun _ _ _ h => h) (.inl ⟨by kernel_rfl, fun w' hs => ?_⟩) hS0 ?_
                      · go_simp
                      refine AnyH_takeD (fun _ => trivial) (by kernel_rfl) 4 117 (.bool false) rfl rfl (by kernel_rfl) (by kernel_rfl) (by kernel_rfl) (fun _ _ _ h => h) (.inl ⟨by kernel_rfl, fun w' hs => ?_⟩) hS0 ?_
                      · go_simp
                      refine AnyH_takeD (fun _ => trivial) (by kernel_rfl) 5 118 (.bool false) rfl rfl (by kernel_rfl) (by kernel_rfl) (by kernel_rfl) (fun _ _ _ h => h) (.inl ⟨by kernel_rfl, fun w' hs => ?_⟩) hS0 ?_
                      · go_simp
                      refine AnyH_takeD (fun _ => trivial) (by kernel_rfl) 6 119 undef rfl rfl (by kernel_rfl) (by kernel_rfl) (by kernel_rfl) (fun _ _ _ h => h) (.inr ⟨by kernel_rfl, rfl⟩) hS0 ?_
                      refine AnyH_takeD (fun _ => trivial) (by kernel_rfl) 7 120 undef rfl rfl (by kernel_rfl) (by kernel_rfl) (by kernel_rfl) (fun _ _ _ h => h) (.inr ⟨by kernel_rfl, rfl⟩) hS0 ?_
                      refine AnyH_takeD (fun _ => trivial) (by kernel_rfl) 8 121 undef rfl rfl (by kernel_rfl) (by kernel_rfl) (by kernel_rfl) (fun _ _ _ h => h) (.inr ⟨by kernel_rfl, rfl⟩) hS0 ?_
                      refine AnyH_takeD (fun _ => trivial) (by kernel_rfl) 9 122 undef rfl rfl (by kernel_rfl) (by kernel_rfl) (by kernel_rfl) (fun _ _ _ h => h) (.inr ⟨by kernel_rfl, rfl⟩) hS0 ?_
                      refine AnyH_takeD (fun _ => trivial) (by kernel_rfl) 10 123 undef rfl rfl (by kernel_rfl) (by kernel_rfl) (by kernel_rfl) (fun _ _ _ h => h) (.inr ⟨by kernel_rfl, rfl⟩) hS0 ?_
                      refine AnyH_takeD (fun _ => trivial) (by kernel_rfl) 11 124 undef rfl rfl (by kernel_rfl) (by kernel_rfl) (by kernel_rfl) (fun _ _ _ h => h) (.inr ⟨by kernel_rfl, rfl⟩) hS0 ?_
                      refine AnyH_takeD (fun _ => trivial) (by kernel_rfl) 12 125 undef rfl rfl (by kernel_rfl) (by kernel_rfl) (by kernel_rfl) (fun _ _ _ h => h) (.inr ⟨by kernel_rfl, rfl⟩) hS0 ?_
                      refine AnyH_takeD (fun _ => trivial) (by kernel_rfl) 13 126 (.bool false) rfl rfl (by kernel_rfl) (by kernel_rfl) (by kernel_rfl) (fun _ _ _ h => h) (.inl ⟨by kernel_rfl, fun w' hs => ?_⟩) hS0 ?_
                      · go_simp
                      refine AnyH_takeD (fun _ => trivial) (by kernel_rfl) 14 127 (.bool false) rfl rfl (by kernel_rfl) (by kernel_rfl) (by kernel_rfl) (fun _ _ _ h => h) (.inl ⟨by kernel_rfl, fun w' hs => ?_⟩) hS0 ?_
                      · go_simp
                      refine AnyH_takeD (fun _ => trivial) (by kernel_rfl) 15 128 undef rfl rfl (by kernel_rfl) (by kernel_rfl) (by kernel_rfl) (fun _ _ _ h => h) (.inr ⟨by kernel_rfl, rfl⟩) hS0 ?_
                      refine AnyH_takeD (fun _ => trivial) (by kernel_rfl) 16 129 undef rfl rfl (by kernel_rfl) (by kernel_rfl) (by kernel_rfl) (fun _ _ _ h => h) (.inr ⟨by kernel_rfl, rfl⟩) hS0 ?_
                      refine AnyH_takeD (fun _ => trivial) (by kernel_rfl) 17 130 undef rfl rfl (by kernel_rfl) (by kernel_rfl) (by kernel_rfl) (fun _ _ _ h => h) (.inr ⟨by kernel_rfl, rfl⟩) hS0 ?_
                      refine AnyH_takeD (fun _ => trivial) (by kernel_rfl) 18 131 undef rfl rfl (by kernel_rfl) (by kernel_rfl) (by kernel_rfl) (fun _ _ _ h => h) (.inr ⟨by kernel_rfl, rfl⟩) hS0 ?_
                      refine AnyH_takeD (fun _ => trivial) (by kernel_rfl) 19 132 undef rfl rfl (by kernel_rfl) (by kernel_rfl) (by kernel_rfl) (fun _ _ _ h => h) (.inr ⟨by kernel_rfl, rfl⟩) hS0 ?_
                      refine AnyH_takeD (fun _ => trivial) (by kernel_rfl) 20 133 undef rfl rfl (by kernel_rfl) (by kernel_rfl) (by kernel_rfl) (fun _ _ _ h => h) (.inr ⟨by kernel_rfl, rfl⟩) hS0 ?_
                      refine AnyH_takeD (fun _ => trivial) (by kernel_rfl) 21 134 undef rfl rfl (by kernel_rfl) (by kernel_rfl) (by kernel_rfl) (fun _ _ _ h => h) (.inr ⟨by kernel_rfl, rfl⟩) hS0 ?_
                      refine AnyH_takeD (fun _ => trivial) (by kernel_rfl) 22 135 undef rfl rfl (by kernel_rfl) (by kernel_rfl) (by kernel_rfl) (fun _ _ _ h => h) (.inr ⟨by kernel_rfl, rfl⟩) hS0 ?_
                      refine AnyH_takeD (fun _ => trivial) (by kernel_rfl) 23 136 undef rfl rfl (by kernel_rfl) (by kernel_rfl) (by kernel_rfl) (fun _ _ _ h => h) (.inr ⟨by kernel_rfl, rfl⟩) hS0 ?_
                      refine AnyH_takeD (fun _ => trivial) (by kernel_rfl) 24 137 undef rfl rfl (by kernel_rfl) (by kernel_rfl) (by kernel_rfl) (fun _ _ _ h => h) (.inr ⟨by kernel_rfl, rfl⟩) hS0 ?_
                      refine AnyH_takeD (fun _ => trivial) (by kernel_rfl) 25 138 (.bool false) rfl rfl (by kernel_rfl) (by kernel_rfl) (by kernel_rfl) (fun _ _ _ h => h) (.inl ⟨by kernel_rfl, fun w' hs => ?_⟩) hS0 ?_
                      · go_simp
                      refine AnyH_done (by kernel_rfl) ?_
                      go_simp
                      go_wp2_with fail
                      go_roundw
                      case rel => exact ⟨m + 1, by omega, by go_num, hBm.out.drew, no_more HX.out hno.out (by unfold sibB; rw [HXL.out, HPL.out, decide_eq_false hlen]; rfl)⟩
                      case measure => simp [intOf]; omega
                  · obtain rfl : m = fs.length := by omega
                    have hany : fs.any (sibB b P) = false := by
                      rw [List.any_eq_false]
                      intro x hx
                      have := hno.out x (by rw [List.take_length]; exact hx)
                      rw [this]; simp
                    have hq := HQ2.out
                    rw [if_neg (by rw [hany]; simp)] at hq
                    have HQ3 := hid hq
                    have HBwr := hid ((HB3.out.trans (HB7.out.mono HZ3.out)).trans (hBm.out.mono (by have := HZ3.out; have := HZ7.out; omega)))
                    have howr := owns_below HOWN.out HBwr.out (Nat.le_refl _)
                    have hzw := HBB.out.size
                    have hzr := HBwr.out.size
                    have hzz : Hid (w.heap.size ≤ wr.heap.size) := by unfold Hid; omega
                    have w1 : IntKind.i64.wrap ((b : Int) + 1) = (b : Int) + 1 := IntWalk.i64_in _ (by omega)
                    have w2 : IntKind.i64.wrap ((i : Int) + (K : Int)) = (i : Int) + (K : Int) := IntWalk.i64_in _ (by omega)
                    have w4 : IntKind.i64.wrap ((ln : Int) + 1) = (ln : Int) + 1 := IntWalk.i64_in _ (by omega)
                    clear hany hq hzw hzr
                    go_wp2_with (at_builtin; refine (wpList_append_ao _ rfl _ _ _ rfl w.heap.size 159 i0 _ 2 48 Tryz.underlying38 hi0 hz0 hz1 hz2 rfl (by omega) (.slice a6 fs.length c6) fs.length cs rfl (howr.alloc _) (some ⟨wr.heap.size, 0, none⟩) 1 1 [.slice a7 (b + 1) c7, .slice an l.length cn] rfl rfl (fun h => by cases h) (fun ad had => by cases had; exact World.news_of_block (cs := #[.slice a7 (b + 1) c7, .slice an l.length cn]) (t := 159) (fr := (0, 0)) (heap_alloc_new _ _)) (by simp [Value.oneCell']) (by unfold maxLen; omega) (by omega) (by have := hzz.out; simp; omega) ?_); intro a10 c10 w10 hown10 hgrow10 hat10)
                    obtain ⟨g10, cap10, he10, hg10, hlt10⟩ := hown10.form (by omega)
                    cases he10
                    have st : Step w.heap.size wb (wr.alloc (.cells #[.slice a7 (b + 1) c7, .slice an l.length cn] 159)) w10 (.slice a6 fs.length c6) g10 := ⟨HBwr.out.alloc HBwr.out.size _, ⟨hgrow10.os, hgrow10.tape, hgrow10.output, hgrow10.size, hgrow10.block⟩, HBB.out.size, fun k hk => HOWN.out.lt k hk, hat10 g10 rfl, hlt10⟩
                    have hv10 : (Value.slice (some ⟨g10, 0, none⟩) (fs.length + 1) c10).ownBlock = some g10 := rfl
                    have n1 := st.keep (Stable.lcs _ _) hv10 HLC.out
                    have hBa : Below w7.heap.size w7 (wr.alloc (.cells #[.slice a7 (b + 1) c7, .slice an l.length cn] 159)) := hBm.out.alloc hBm.out.size _
                    have n2 := st.lift (Stable.pth _ _) hv10 HP7.out HZ3.out hBa.size hBa
                    have n3 := st.lift (Stable.ints _ _) hv10 hI7.out (Nat.le_refl _) (by have := HZ7.out; have := hBa.size; omega) (hBa.mono HZ7.out)
                    have n4 := st.out HBB.out
                    have n5 : LCs rdFl (Rx w.heap.size w10.heap.size (.slice (some ⟨g10, 0, none⟩) (fs.length + 1) c10)) w10 (fs ++ [⟨P, l⟩]) (cs ++ [.slice a7 (b + 1) c7, .slice an l.length cn]) :=
                      n1.app (LCs.single (r := rdFl) (x := ⟨P, l⟩) ⟨a7, c7, an, cn, by simp only [HPL.out], by rw [show (Fl.mk P l).p.length = b + 1 from HPL.out]; exact n2, n3⟩)
                    have hRf : Hid (RfP t w (fs ++ [⟨P, l⟩]) (ln + 1) (min (b + 1) 3) (i + K) (.slice (some ⟨g10, 0, none⟩) (fs.length + 1) c10) (cs ++ [.slice a7 (b + 1) c7, .slice an l.length cn]) w10) := by
                      refine ⟨by omega, by omega, by omega, ?_, ?_, ?_, ?_, ?_, n5, n4⟩
                      · rw [lstP_app]; show min (b + 1) 3 ≤ P.length; rw [HPL.out]; omega
                      · rw [List.length_append, HFL.out]; rfl
                      · intro x hx
                        rcases List.mem_append.1 hx with h | h
                        · exact HSZ.out x h
                        · simp only [List.mem_singleton] at h; rw [h]; exact ⟨by show P.length ≤ 4; rw [HPL.out]; omega, hw4⟩
                      · rw [show 62 - (ln + 1) = 61 - ln by omega]; exact HQ3.out
                      · rw [List.length_append]; exact hown10
                    clear hown10 hgrow10 hat10 n1 n2 n3 n4 n5 st hBa
                    go_roundw
                    case rel => exact ⟨i + K, ln + 1, min (b + 1) 3, _, _, by go_num, by go_num, by congr 1; omega, hRf⟩
                    case measure => simp [intOf]; omega
            · have b10 : ((t[i + K - 1].toNat : Int) == 10) = false := beq_eq_false_iff_ne.2 h10
              have b10n : ((t[i + K - 1].toNat : Int) != 10) = true := by simp only [bne, b10]; rfl
              have hq := HQ.out
              rw [if_pos (.inr (by rw [hgd]; intro e; apply h10; rw [e]; rfl))] at hq
              have hq := hid hq
              clear hK0 hgd h10
              go_wp2_with fail
              refine bodyPost_ret (v := .tuple #[.slice none 0 0, .int .i64 ln, .int .i64 K, .int .i64 (11 : Nat)]) (by simp [results, Tryz.results27, go_sem]) rfl ?_
              exact RET0.out wb ln K 11 HBB.out hq.out
    · have hq := HG.out
      rw [show 62 - ln = (61 - ln) + 1 by omega, refG, if_neg hlt] at hq
      have HQ := hid hq
      clear hq
      go_wp2_with fail
      obtain ⟨a9, c9, he9, _, _⟩ := owns_shape HOWN.out
      subst he9
      refine bodyPost_ret (v := .tuple #[.slice a9 fs.length c9, .int .i64 (0 : Nat), .int .i64 (0 : Nat), .int .i64 (0 : Nat)]) (by simp [results, Tryz.results27, go_sem]) rfl ?_
      rw [HQ.out]
      exact ⟨a9, c9, rfl, ⟨cs, SlC.of_owns HOWN.out, HLC.out.wide (fun b hb => ⟨hb.1, hb.2.1⟩)⟩, HBB.out⟩
end Go.Proofs.LF
