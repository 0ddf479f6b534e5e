/- Parts of the proof of a law of layer 11 (file): LfW54, LfW55a. The conditions stand in each theorem. -/
import Derived.BigQuiet
import Derived.Deep.AppendLies
import Derived.Deep.Cut
import Derived.Deep.CutBlock
import Derived.Deep.CutRange
import Derived.Deep.QuietTactic
import Derived.Deep.RegionHeld3
import Derived.Laws.ResultCell
import Derived.Outline
import Derived.Test.YtadkpjgpefcphaaGreatDoorProg
import Derived.WalkKit
import Derived.WalkLawsBesides
import Derived.WalkSpells
import Derived.Test.YtadkpjgpefcphaaGreatDoorPrav
import Derived.Test.YtadkpjgpefcphaaGreatDoorPrbe
import Derived.Test.YtadkpjgpefcphaaGreatDoorPrbf
import Derived.Test.YtadkpjgpefcphaaGreatDoorPrbj
import Derived.Test.YtadkpjgpefcphaaGreatDoorPrbs
set_option linter.all false
set_option linter.unusedVariables false
set_option linter.unusedSimpArgs false
namespace Go.Proofs.LF
open Go.RowKit Go.Sort
set_option maxHeartbeats 4000000
set_option maxRecDepth 100000
attribute [local go_sem] bs_toList bs_size bs_get bs_add bs_extract
theorem decN_lt : ∀ (m : Nat) (l : List UInt8), l.length = m → (∀ c ∈ l, digitB c = true) → decN l < 10 ^ m
  | 0, l, h, _ => by rw [List.length_eq_zero_iff.1 h]; simp [decN]
  | m + 1, l, h, hd => by
    have hne : l ≠ [] := by intro e; rw [e] at h; cases h
    have hl := List.dropLast_concat_getLast hne
    have h1 := decN_lt m l.dropLast (by rw [List.length_dropLast]; omega) (fun c hc => hd c (List.dropLast_subset _ hc))
    have h2 := digitB_iff.1 (hd _ (List.getLast_mem hne))
    rw [← hl, decN_app, Nat.pow_succ]
    omega
theorem decN_four {n q : Nat} (h : n < 10 ^ q) (hq : q ≤ 3) : n ≤ 999 := by
  have : 10 ^ q ≤ 10 ^ 3 := Nat.pow_le_pow_right (by omega) hq
  have e3 : (10 : Nat) ^ 3 = 1000 := rfl
  omega
theorem readR_any (s : List UInt8) (w : World) (W0 : List UInt8) (ws : List (List UInt8)) (hlen : s.length ≤ 100000) (hsp : spl [] (s.drop (blanksF s)) = W0 :: ws) (hdg : ∀ v ∈ ws, DigW v) (hwl : ws.length ≤ 1000) :
    Calls Tryz.prog 106 #[.string (bs s)] w fun e w' => ∃ an cn, e = .returned (.tuple #[.int .i64 (blanksF s), .string (bs W0), .slice an ws.length cn]) ∧ Ints (Rg w.heap.size w'.heap.size) w' (.slice an ws.length cn) (ws.map (fun l => ((decN l : Nat) : Int))) ∧ Below w.heap.size w w' := by
  have hb : blanksF s ≤ s.length := by unfold blanksF; exact (List.takeWhile_sublist _).length_le
  obtain ⟨i0, hi0, hz0, hz1, hz2⟩ := info_parts Tryz.info3'
  obtain ⟨b, hB0⟩ : ∃ b, blanksF s = b := ⟨_, rfl⟩
  rw [hB0] at hb hsp ⊢
  have HB0 := hid hB0
  have HSP := hid hsp
  have HDG := hid hdg
  clear hB0 hsp hdg
  go_enter Tryz.func106, Tryz.ntmps106
  go_wp2_with (go_at_call 193; refine (blanksR_any _ _ (by omega)).mono ?_; rintro e w1 ⟨rfl, rfl⟩; rw [HB0.out])
  go_loopw [6, 7, 8, 9, 10] (fun nmv wv nv fv iv wr => ∃ (k : Nat) (done : List (List UInt8)) (W : List UInt8), b ≤ k ∧ k ≤ s.length + 1 ∧ iv = .int .i64 k ∧ wv = .string (bs W) ∧ W.length ≤ k ∧ fv = .bool done.isEmpty ∧ nmv = .string (bs (done.headD [])) ∧
    Hid (∃ rest, W0 :: ws = done ++ rest ∧ (k ≤ s.length → rest = spl W (s.drop k)) ∧ (s.length < k → rest = [])) ∧ wr.ownsRow w.heap.size 3 1 nv done.tail.length ((done.tail.map (fun l => ((decN l : Nat) : Int))).map (Value.int .i64)) ∧ Hid (Below w.heap.size w wr)) (fun _ _ _ _ iv _ => s.length + 1 - (intOf iv).toNat)
  case atStart => exact ⟨b, [], [], by omega, by omega, rfl, rfl, by simp, rfl, rfl, ⟨_, rfl, fun _ => HSP.out.symm, fun h => by omega⟩, World.ownsRow_nil _ _ _ _, Below.refl _ _⟩
  case round =>
    obtain ⟨k, done, W, hk1, hk2, rfl, rfl, hWk, rfl, rfl, hR, hown, hB⟩ := hrel
    have i0' : (0 : Int) ≤ (k : Int) := by omega
    by_cases hlt : k < s.length
    · have hd : s.drop k = s[k] :: s.drop (k + 1) := List.drop_eq_getElem_cons hlt
      have hx : (s.drop k).take 1 = [s[k]] := by rw [hd]; rfl
      have HX0 := hid hx
      by_cases hc : s[k] = 32
      · have h32 : (s[k].toNat : Int) = 32 := by rw [hc]; rfl
        have HRS : Hid (∃ rs, W0 :: ws = done ++ W :: rs ∧ (k + 1 ≤ s.length → rs = spl [] (s.drop (k + 1))) ∧ (s.length < k + 1 → rs = [])) := by
          obtain ⟨rest, h1, h2, _⟩ := hR.out
          have h4 := h2 (by omega)
          rw [hd, spl, if_pos hc] at h4
          exact ⟨spl [] (s.drop (k + 1)), by rw [h1, h4], fun _ => rfl, fun h => by omega⟩
        clear hR hd hx hc
        obtain ⟨rs, hrs, hra, hrb⟩ := HRS.out
        cases done with
        | nil =>
          have HX := hid (show W0 :: ws = [W] ++ rs by simpa using hrs)
          have HA := hid hra
          have HBb := hid hrb
          clear hrs hra hrb HRS
          go_wp2_with fail
          go_roundw
          case rel => exact ⟨k + 1, [W], [], by omega, by omega, by go_num, rfl, by simp, rfl, rfl, ⟨rs, HX.out, HA.out, HBb.out⟩, hown, hB.out⟩
          case measure => simp [intOf]; omega
        | cons d0 dt =>
          have HX := hid (show W0 :: ws = ((d0 :: dt) ++ [W]) ++ rs by simpa using hrs)
          have hW : W ∈ ws := by
            have h := hrs
            simp only [List.cons_append, List.cons.injEq] at h
            rw [h.2]; simp
          have hdl : dt.length ≤ ws.length := by
            have h := hrs
            simp only [List.cons_append, List.cons.injEq] at h
            rw [h.2]; simp
          have hDW := HDG.out W hW
          have h4 := hDW.2
          have HDW := hid hDW.1
          have HA := hid hra
          have HBb := hid hrb
          clear hrs hra hrb HRS hW hDW
          simp only [List.isEmpty_cons, List.tail_cons, List.headD_cons] at *
          obtain ⟨v8, rfl⟩ : ∃ v, v = u8 := ⟨_, rfl⟩
          go_wp2_with fail
          go_loopw [11, 12] (fun n j w2 => ∃ q : Nat, q ≤ W.length ∧ n = .int .i64 ((decN (W.take q) : Nat) : Int) ∧ j = .int .i64 q ∧ w2 = wr) (fun _ j _ => W.length - (intOf j).toNat)
          case atStart => exact ⟨0, by omega, rfl, rfl, rfl⟩
          case round =>
            obtain ⟨q, hq, rfl, rfl, rfl⟩ := hrel
            by_cases hql : q < W.length
            · have hdig := digitB_iff.1 (HDW.out W[q] (List.getElem_mem hql))
              have hlt9 := decN_lt q (W.take q) (by rw [List.length_take]; omega) (fun c hc => HDW.out c (List.mem_of_mem_take hc))
              have hp := decN_four hlt9 (show q ≤ 3 by omega)
              have htk : W.take (q + 1) = W.take q ++ [W[q]] := List.take_succ_eq_append_getElem hql
              have hnx : decN (W.take (q + 1)) = decN (W.take q) * 10 + (W[q].toNat - 48) := by rw [htk, decN_app]
              obtain ⟨N, hN⟩ : ∃ N, decN (W.take q) = N := ⟨_, rfl⟩
              rw [hN] at hp hnx ⊢
              have HNX := hid hnx
              clear hlt9 htk hnx hN
              have w1 : IntKind.i64.wrap (10 * (N : Int)) = 10 * (N : Int) := IntWalk.i64_in _ (by omega)
              have w2 : IntKind.i64.wrap ((W[q].toNat : Int)) = (W[q].toNat : Int) := IntWalk.i64_in _ (by omega)
              have w3 : IntKind.i64.wrap (10 * (N : Int) + (W[q].toNat : Int)) = 10 * (N : Int) + (W[q].toNat : Int) := IntWalk.i64_in _ (by omega)
              have w4 : IntKind.i64.wrap (10 * (N : Int) + (W[q].toNat : Int) - 48) = 10 * (N : Int) + (W[q].toNat : Int) - 48 := IntWalk.i64_in _ (by omega)
              go_wp2_with fail
              go_roundw
              case rel => exact ⟨q + 1, by omega, by rw [HNX.out]; congr 1; omega, by go_num, by simp⟩
              case measure => simp [intOf]; omega
            · obtain rfl : q = W.length := by omega
              rw [List.take_length]
              have hbz := hB.out.size
              go_wp2_with (at_builtin; refine (wpList_append_ao _ rfl _ _ _ rfl w.heap.size 3 i0 _ 1 8 Tryz.underlying66 hi0 hz0 hz1 hz2 rfl (by omega) v8 dt.length ((dt.map (fun l => ((decN l : Nat) : Int))).map (Value.int .i64)) rfl (hown.alloc _) (some ⟨wr.heap.size, 0, none⟩) 1 1 [.int .i64 ((decN W : Nat) : Int)] rfl rfl (fun h => by cases h) (fun ad had => by cases had; exact World.news_of_block (cs := #[.int .i64 ((decN W : Nat) : Int)]) (t := 3) (fr := (0, 0)) (heap_alloc_new _ _)) (by simp [Value.oneCell']) (by unfold maxLen; omega) (by omega) (by simp; omega) ?_); intro a4 c4 w4 hown4 hgrow4 hat4)
              obtain ⟨g4, cap4, he4, hg4, hlt4⟩ := hown4.form (by omega)
              cases he4
              have st : Step w.heap.size wr (wr.alloc (.cells #[.int .i64 ((decN W : Nat) : Int)] 3)) w4 v8 g4 := ⟨(Below.refl _ _).alloc (Nat.le_refl _) _, ⟨hgrow4.os, hgrow4.tape, hgrow4.output, hgrow4.size, hgrow4.block⟩, by omega, fun b hb => hown.lt b hb, hat4 g4 rfl, hlt4⟩
              have n3 := hid (st.out hB.out)
              have hown5 : w4.ownsRow w.heap.size 3 1 (.slice (some ⟨g4, 0, none⟩) (dt.length + 1) c4) (dt ++ [W]).length (((dt ++ [W]).map (fun l => ((decN l : Nat) : Int))).map (Value.int .i64)) := by
                rw [List.length_append, List.map_append, List.map_append]; exact hown4
              clear hown4 hgrow4 hat4 st
              go_roundw
              case rel => exact ⟨k + 1, d0 :: (dt ++ [W]), [], by omega, by omega, by go_num, rfl, by simp, rfl, rfl, ⟨rs, by simpa using HX.out, HA.out, HBb.out⟩, hown5, n3.out⟩
              case measure => simp [intOf]; omega
      · have h32 : ¬ (s[k].toNat : Int) = 32 := by intro e; apply hc; apply UInt8.toNat_inj.1; have : s[k].toNat = 32 := by omega
                                                   rw [this]; rfl
        have b32 : ((s[k].toNat : Int) == 32) = false := beq_eq_false_iff_ne.2 h32
        have HRS : Hid (∃ rest, W0 :: ws = done ++ rest ∧ (k + 1 ≤ s.length → rest = spl (W ++ [s[k]]) (s.drop (k + 1))) ∧ (s.length < k + 1 → rest = [])) := by
          obtain ⟨rest, h1, h2, _⟩ := hR.out
          have h4 := h2 (by omega)
          rw [hd, spl, if_neg hc] at h4
          exact ⟨rest, h1, fun _ => h4, fun h => by omega⟩
        clear hR hd hx hc h32
        go_wp2_with fail
        go_roundw
        case rel => exact ⟨k + 1, done, W ++ [s[k]], by omega, by omega, by go_num, by rw [← HX0.out], by simp; omega, rfl, rfl, HRS.out, hown, hB.out⟩
        case measure => simp [intOf]; omega
    · by_cases hle : k = s.length
      · have HRS : Hid (∃ rs, W0 :: ws = done ++ W :: rs ∧ (k + 1 ≤ s.length → rs = spl [] (s.drop (k + 1))) ∧ (s.length < k + 1 → rs = [])) := by
          obtain ⟨rest, h1, h2, _⟩ := hR.out
          have h4 := h2 (by omega)
          rw [List.drop_eq_nil_of_le (by omega), spl] at h4
          exact ⟨[], by rw [h1, h4], fun h => by omega, fun _ => rfl⟩
        have hle' : k ≤ s.length := by omega
        clear hle hR
        obtain ⟨rs, hrs, hra, hrb⟩ := HRS.out
        cases done with
        | nil =>
          have HX := hid (show W0 :: ws = [W] ++ rs by simpa using hrs)
          have HA := hid hra
          have HBb := hid hrb
          clear hrs hra hrb HRS
          go_wp2_with fail
          go_roundw
          case rel => exact ⟨k + 1, [W], [], by omega, by omega, by go_num, rfl, by simp, rfl, rfl, ⟨rs, HX.out, HA.out, HBb.out⟩, hown, hB.out⟩
          case measure => simp [intOf]; omega
        | cons d0 dt =>
          have HX := hid (show W0 :: ws = ((d0 :: dt) ++ [W]) ++ rs by simpa using hrs)
          have hW : W ∈ ws := by
            have h := hrs
            simp only [List.cons_append, List.cons.injEq] at h
            rw [h.2]; simp
          have hdl : dt.length ≤ ws.length := by
            have h := hrs
            simp only [List.cons_append, List.cons.injEq] at h
            rw [h.2]; simp
          have hDW := HDG.out W hW
          have h4 := hDW.2
          have HDW := hid hDW.1
          have HA := hid hra
          have HBb := hid hrb
          clear hrs hra hrb HRS hW hDW
          simp only [List.isEmpty_cons, List.tail_cons, List.headD_cons] at *
          obtain ⟨v8, rfl⟩ : ∃ v, v = u8 := ⟨_, rfl⟩
          go_wp2_with fail
          go_loopw [11, 12] (fun n j w2 => ∃ q : Nat, q ≤ W.length ∧ n = .int .i64 ((decN (W.take q) : Nat) : Int) ∧ j = .int .i64 q ∧ w2 = wr) (fun _ j _ => W.length - (intOf j).toNat)
          case atStart => exact ⟨0, by omega, rfl, rfl, rfl⟩
          case round =>
            obtain ⟨q, hq, rfl, rfl, rfl⟩ := hrel
            by_cases hql : q < W.length
            · have hdig := digitB_iff.1 (HDW.out W[q] (List.getElem_mem hql))
              have hlt9 := decN_lt q (W.take q) (by rw [List.length_take]; omega) (fun c hc => HDW.out c (List.mem_of_mem_take hc))
              have hp := decN_four hlt9 (show q ≤ 3 by omega)
              have htk : W.take (q + 1) = W.take q ++ [W[q]] := List.take_succ_eq_append_getElem hql
              have hnx : decN (W.take (q + 1)) = decN (W.take q) * 10 + (W[q].toNat - 48) := by rw [htk, decN_app]
              obtain ⟨N, hN⟩ : ∃ N, decN (W.take q) = N := ⟨_, rfl⟩
              rw [hN] at hp hnx ⊢
              have HNX := hid hnx
              clear hlt9 htk hnx hN
              have w1 : IntKind.i64.wrap (10 * (N : Int)) = 10 * (N : Int) := IntWalk.i64_in _ (by omega)
              have w2 : IntKind.i64.wrap ((W[q].toNat : Int)) = (W[q].toNat : Int) := IntWalk.i64_in _ (by omega)
              have w3 : IntKind.i64.wrap (10 * (N : Int) + (W[q].toNat : Int)) = 10 * (N : Int) + (W[q].toNat : Int) := IntWalk.i64_in _ (by omega)
              have w4 : IntKind.i64.wrap (10 * (N : Int) + (W[q].toNat : Int) - 48) = 10 * (N : Int) + (W[q].toNat : Int) - 48 := IntWalk.i64_in _ (by omega)
              go_wp2_with fail
              go_roundw
              case rel => exact ⟨q + 1, by omega, by rw [HNX.out]; congr 1; omega, by go_num, by simp⟩
              case measure => simp [intOf]; omega
            · obtain rfl : q = W.length := by omega
              rw [List.take_length]
              have hbz := hB.out.size
              go_wp2_with (at_builtin; refine (wpList_append_ao _ rfl _ _ _ rfl w.heap.size 3 i0 _ 1 8 Tryz.underlying66 hi0 hz0 hz1 hz2 rfl (by omega) v8 dt.length ((dt.map (fun l => ((decN l : Nat) : Int))).map (Value.int .i64)) rfl (hown.alloc _) (some ⟨wr.heap.size, 0, none⟩) 1 1 [.int .i64 ((decN W : Nat) : Int)] rfl rfl (fun h => by cases h) (fun ad had => by cases had; exact World.news_of_block (cs := #[.int .i64 ((decN W : Nat) : Int)]) (t := 3) (fr := (0, 0)) (heap_alloc_new _ _)) (by simp [Value.oneCell']) (by unfold maxLen; omega) (by omega) (by simp; omega) ?_); intro a4 c4 w4 hown4 hgrow4 hat4)
              obtain ⟨g4, cap4, he4, hg4, hlt4⟩ := hown4.form (by omega)
              cases he4
              have st : Step w.heap.size wr (wr.alloc (.cells #[.int .i64 ((decN W : Nat) : Int)] 3)) w4 v8 g4 := ⟨(Below.refl _ _).alloc (Nat.le_refl _) _, ⟨hgrow4.os, hgrow4.tape, hgrow4.output, hgrow4.size, hgrow4.block⟩, by omega, fun b hb => hown.lt b hb, hat4 g4 rfl, hlt4⟩
              have n3 := hid (st.out hB.out)
              have hown5 : w4.ownsRow w.heap.size 3 1 (.slice (some ⟨g4, 0, none⟩) (dt.length + 1) c4) (dt ++ [W]).length (((dt ++ [W]).map (fun l => ((decN l : Nat) : Int))).map (Value.int .i64)) := by
                rw [List.length_append, List.map_append, List.map_append]; exact hown4
              clear hown4 hgrow4 hat4 st
              go_roundw
              case rel => exact ⟨k + 1, d0 :: (dt ++ [W]), [], by omega, by omega, by go_num, rfl, by simp, rfl, rfl, ⟨rs, by simpa using HX.out, HA.out, HBb.out⟩, hown5, n3.out⟩
              case measure => simp [intOf]; omega
      · have hle' : ¬ (k ≤ s.length) := by omega
        obtain ⟨rest, h1, _, h3⟩ := hR.out
        have h4 := h3 (by omega)
        rw [h4, List.append_nil] at h1
        subst h1
        clear hR hle h4 h3
        simp only [List.isEmpty_cons, List.tail_cons, List.headD_cons] at *
        go_wp2_with fail
        obtain ⟨an, cn, he, _, _⟩ := owns_shape hown
        have hI : Ints (Rg w.heap.size wr.heap.size) wr u8 (ws.map (fun l => ((decN l : Nat) : Int))) := by
          have := SlC.of_owns hown
          unfold Ints
          rw [List.length_map]
          exact this
        subst he
        refine bodyPost_ret (v := .tuple #[.int .i64 b, .string (bs W0), .slice an ws.length cn]) (by simp [results, Tryz.results106, go_sem]) rfl ?_
        exact ⟨an, cn, rfl, hI, hB.out⟩
end Go.Proofs.LF
namespace Go.Proofs.LF
open Go.RowKit Go.Sort
set_option maxHeartbeats 4000000
set_option maxRecDepth 100000
attribute [local go_sem] bs_toList bs_size bs_get
theorem keys_take (p : List Ky) (b : Nat) (h : b ≤ p.length) : (p.flatMap Ky.cells).take (b * 3) = (p.take b).flatMap Ky.cells := by
  have h2 : p.flatMap Ky.cells = (p.take b).flatMap Ky.cells ++ (p.drop b).flatMap Ky.cells := by rw [← List.flatMap_append, List.take_append_drop]
  rw [h2, List.take_left' (by rw [len_keys, List.length_take, Nat.min_eq_left h])]
theorem Pth.pre {S : Nat → Prop} {w : World} {p : List Ky} {a : Option Addr} {c b : Nat} (hp : Pth S w (.slice a p.length c) p) (h : b ≤ p.length) : Pth S w (.slice a b c) (p.take b) := by
  have := SlC.pre (k := 3) (m := b) hp h
  unfold Pth
  rw [List.length_take, Nat.min_eq_left h, ← keys_take p b h]
  exact this
theorem same_take {S : Nat → Prop} {w : World} {p q : List Ky} {ap aq : Option Addr} {cp cq b : Nat} (hp : Pth S w (.slice ap p.length cp) p) (hq : Pth S w (.slice aq q.length cq) q) (lp : b ≤ p.length) (lq : b ≤ q.length) (hb : b ≤ 1000) :
    Calls Tryz.prog 73 #[.slice ap b cp, .slice aq b cq] w fun e w' => e = .returned (.bool (decide (p.take b = q.take b))) ∧ Below w.heap.size w w' := by
  have e1 : (p.take b).length = b := by rw [List.length_take, Nat.min_eq_left lp]
  have e2 : (q.take b).length = b := by rw [List.length_take, Nat.min_eq_left lq]
  have h1 := hp.pre lp
  have h2 := hq.pre lq
  have := Same_any (p.take b) (q.take b) ap aq cp cq S w (by rw [e1]; exact h1) (by rw [e2]; exact h2) (by omega) (by omega)
  rwa [e1, e2] at this
theorem Pth.key {S : Nat → Prop} {w : World} {p : List Ky} {a : Option Addr} {c k : Nat} (hp : Pth S w (.slice a p.length c) p) (hk : k < p.length) : ∃ g o, a = some ⟨g, o, none⟩ ∧ S g ∧ w.cell? ⟨g, o + k * 3, none⟩ = some (.string (bs p[k].n)) ∧ w.cell? ⟨g, o + k * 3 + 1, none⟩ = some (.bool p[k].h) ∧ w.cell? ⟨g, o + k * 3 + 2, none⟩ = some (.int .i64 p[k].x) := by
  obtain ⟨g, o, rfl, hg, _, _, hcell⟩ := SlC.cells hp (by omega)
  obtain ⟨k0, k1, k2⟩ := key_cells hk
  have c0 := hcell _ _ k0
  have c1 := hcell _ _ k1
  have c2 := hcell _ _ k2
  rw [← Nat.add_assoc] at c1 c2
  exact ⟨g, o, rfl, hg, c0, c1, c2⟩
end Go.Proofs.LF
