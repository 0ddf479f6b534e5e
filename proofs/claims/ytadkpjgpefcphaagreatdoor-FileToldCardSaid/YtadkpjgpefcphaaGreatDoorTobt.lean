/- Parts of the proof of a law of layer 11 (file): LfW72. The conditions stand in each theorem. -/
import Derived.BigQuiet
import Derived.Deep.AppendLies
import Derived.Deep.Cut
import Derived.Deep.CutBlock
import Derived.Deep.CutRange
import Derived.Deep.QuietTactic
import Derived.Deep.RegionHeld3
import Derived.Laws.ResultCell
import Derived.Outline
import Derived.Test.YtadkpjgpefcphaaGreatDoorProg
import Derived.WalkKit
import Derived.WalkLawsBesides
import Derived.WalkSpells
import Derived.Test.YtadkpjgpefcphaaGreatDoorToae
import Derived.Test.YtadkpjgpefcphaaGreatDoorToat
import Derived.Test.YtadkpjgpefcphaaGreatDoorTobq
set_option linter.all false
set_option linter.unusedVariables false
set_option linter.unusedSimpArgs false
namespace Go.Proofs.LF
open Go.RowKit
set_option maxHeartbeats 4000000
set_option maxRecDepth 100000
attribute [local go_sem] bs_toList bs_size bs_get
theorem dup_own (l : List Int) (an : Option Addr) (cn : Nat) (S : Nat → Prop) (w : World) (hl : Ints S w (.slice an l.length cn) l) (hS : ∀ b, S b → b < w.heap.size) (hlen : l.length ≤ 1000) :
    Calls Tryz.prog 85 #[.slice an l.length cn] w fun e w' => ∃ a c, e = .returned (.slice a l.length c) ∧ w'.ownsRow w.heap.size 3 1 (.slice a l.length c) l.length (l.map (Value.int .i64)) ∧ Below w.heap.size w w' := by
  obtain ⟨i0, hi0, hz0, hz1, hz2⟩ := info_parts Tryz.info3
  have hcap := SlC.caps hl
  have hl0 : (l.map (Value.int .i64)).length = l.length * 1 := by simp
  go_enter Tryz.func85, Tryz.ntmps85
  go_wp2_with (first | (at_make; refine wpList_make_own _ rfl _ _ 66 rfl w.heap.size 3 i0 _ 1 Tryz.underlying66 hi0 hz0 hz1 .i64 .i64 l.length l.length rfl rfl rfl (by rw [hz2]; omega) (by unfold maxLen; omega) (Nat.le_refl _) ?_; intro w1 hown1 hgrow1) | (at_builtin; refine wpList_append_fits_any _ rfl _ _ 66 rfl w.heap.size 3 i0 1 Tryz.underlying66 hi0 hz1 w.heap.size 0 l.length [] rfl hown1 an l.length cn (l.map (Value.int .i64)) rfl hl0 hcap.2.2 (SlC.news hl (Agree.grown hgrow1 fun b hb => ⟨hS b hb, by simp⟩)) (one_ints l) (by omega) ?_; intro w2 hown2 hgrow2))
  go_ret
  have h2 := hown2
  simp only [Nat.zero_add, List.nil_append] at h2
  exact ⟨_, _, rfl, h2, ((Below.refl _ _).grown hgrow1 (Nat.le_refl _) (by simp)).grown hgrow2 hgrow1.size (fun k hk => by cases hk; exact Nat.le_refl _)⟩
theorem Own_own : ∀ (y : Fo) (av : Option Addr) (cv : Nat) (S : Nat → Prop) (w : World), FSl S w (.slice av y.len cv) y → (∀ b, S b → b < w.heap.size) → y.len ≤ 1000 → y.Sm →
    Calls Tryz.prog 19 #[.slice av y.len cv] w fun e w' => ∃ a c, e = .returned (.slice a y.len c) ∧ (∃ ds, w'.ownsRow w.heap.size 85 3 (.slice a y.len c) y.len ds ∧ FNCs (Rx w.heap.size w'.heap.size (.slice a y.len c)) w' y ds) ∧ Below w.heap.size w w' := by
  intro y av cv S w hv hS hlen hsm
  obtain ⟨a, c, he, hc, hm, hat⟩ := hv.at
  cases he
  obtain ⟨i0, hi0, hz0, hz1, hz2⟩ := info_parts Tryz.info85
  unfold maxLen at hm
  go_enter Tryz.func19, Tryz.ntmps19
  go_wp2_with fail
  go_loopw [3, 8] (fun v i wr => ∃ k : Nat, k ≤ y.len ∧ i = .int .i64 k ∧ (∃ cs, wr.ownsRow w.heap.size 85 3 v k cs ∧ FNCs (Rx w.heap.size wr.heap.size v) wr (y.take k) cs) ∧ Below w.heap.size w wr) (fun _ i _ => y.len - (intOf i).toNat)
  case atStart => exact ⟨0, by omega, rfl, ⟨[], World.ownsRow_nil _ _ _ _, rfl⟩, Below.refl _ _⟩
  case round =>
    obtain ⟨k, hk, rfl, ⟨cs, hown, hfc⟩, hB⟩ := hrel
    by_cases hlt : k < y.len
    · obtain ⟨g, o, n, l, s, r, an, cn, ab, cb, rfl, hg1, hd, hc0, hc1, hc2, hI, hF⟩ := hat k hlt
      have ha : Agree S w wr := Agree.of_below hB hS
      have c0 := ha.cell hg1 hc0
      have c1 := ha.cell hg1 hc1
      have c2 := ha.cell hg1 hc2
      obtain ⟨s1, s2, s3, s4, _⟩ : n.length ≤ 1000 ∧ l.length ≤ 1000 ∧ s.len ≤ 1000 ∧ s.Sm ∧ r.Sm := by have := hsm.drop (i := k); rwa [hd] at this
      have s5 := Fo.cnt_at hd
      have HD := hid hd
      have hsz := hB.size
      have hne := owns_ne hown (Nat.le_refl wr.heap.size)
      clear hc0 hc1 hc2 hat hd
      go_wp2_with fail
      go_region_held3 (fun w' => w'.cell? ⟨wr.heap.size, 0, none⟩ = some (.string (bs n)) ∧ w'.cell? ⟨wr.heap.size, 1, none⟩ = some (.slice an l.length cn) ∧ w'.cell? ⟨wr.heap.size, 2, none⟩ = some (.slice ab s.len cb))
        (first | go_keep | (go_split_ands; exact ⟨below_cell hb1 (by simp) (by assumption), below_cell hb1 (by simp) (by assumption), below_cell hb1 (by simp) (by assumption)⟩) | (go_split_ands; have hlt2 := hb1.size; exact ⟨below_cell hb2 (by simp at hlt2; omega) (by assumption), below_cell hb2 (by simp at hlt2; omega) (by assumption), below_cell hb2 (by simp at hlt2; omega) (by assumption)⟩) | (go_split_ands; exact ⟨grown_cell hgrow hne (by assumption), grown_cell hgrow hne (by assumption), grown_cell hgrow hne (by assumption)⟩))
        (first
          | (go_at_call 85; refine (dup_own l an cn S _ (hI.agree (Agree.of_below (B := w.heap.size) ?_ hS)) ?_ s2).mono ?_; (exact (hB.alloc hB.size _).drew); (intro b hb; have := hS b hb; simp; omega); rintro e w1 ⟨a1, c1, rfl, hI1, hb1⟩)
          | (go_at_call 19; refine (Own_any (s.cnt + 1) s ab cb S _ (Nat.lt_succ_self _) (hF.agree (Agree.of_below (B := w.heap.size) ?_ hS)) ?_ s3 s4).mono ?_; (exact ((hB.alloc hB.size _).drew).trans (hb1.mono (by simp; omega))); (intro b hb; have := hS b hb; have := hb1.size; simp at this; omega); rintro e w2 ⟨a2, c2, rfl, hF2, hb2⟩)
          | (refine step_append_lies _ (by rfl) _ _ _ (by rfl) w.heap.size 85 i0 _ 3 64 Tryz.underlying22 hi0 hz0 hz1 hz2 rfl (by omega) u3 k cs (by rfl) ((owns_below (owns_below (hown.alloc _).drew hb1 (Nat.le_refl _)) hb2 (Nat.le_refl _)).alloc _) ⟨w2.heap.size, 0, none⟩ 1 1 [.string (bs n), .slice a1 l.length c1, .slice a2 s.len c2] (by rfl) (by rfl) (World.news_of_block (cs := #[.string (bs n), .slice a1 l.length c1, .slice a2 s.len c2]) (t := 85) (fr := (0, 0)) (heap_alloc_new _ _)) (by simp [Value.oneCell']) (by omega) (by unfold maxLen; omega) (by omega) (by have := hb1.size; have := hb2.size; simp at *; omega) (w2.heap.size + 1) (by simp) ?_; intro gg cap w3 hown3 hgrow hatt hltt))
      go_wp2
      go_roundw
      case rel =>
        have st : Step w.heap.size wr _ w3 u3 gg := ⟨((((Below.refl _ _).alloc (Nat.le_refl _) _).drew.trans (hb1.mono (by simp))).trans (hb2.mono (by have := hb1.size; simp at this; omega))).alloc (by have := hb1.size; have := hb2.size; simp at *; omega) _, hgrow, hsz, fun b hb => hown.lt b hb, hatt.imp id (fun h => by rw [h]; simp), hltt⟩
        have hv' : (Value.slice (some ⟨gg, 0, none⟩) (k + 1) cap).ownBlock = some gg := rfl
        have hp := st.past hv'
        have hz1 := hb1.size
        have hz2 := hb2.size
        have hf1 := st.fresh (p := (wr.alloc (.cells #[.string (bs n), .slice an l.length cn, .slice ab s.len cb] 85)).drew.heap.size) (q := w1.heap.size) hv' (by simp) (by simp; omega) (hb2.alloc hb2.size _)
        have hf2 := st.fresh (p := w1.heap.size) (q := w2.heap.size) hv' (by simp at hz1; omega) (by simp) ((Below.refl _ _).alloc (Nat.le_refl _) _)
        have g1 := hfc.agree hp.2
        have g2 := owns_base (base' := 0) (owns_agree hI1 fun q hq => hf1.2 q (hI1.lt q hq)) (fun _ _ => Nat.zero_le _)
        have g3 := hF2.agree hf2.2
        have g4 := g1.app (FNCs.one (n := n) (S1 := Rg (wr.alloc (.cells #[.string (bs n), .slice an l.length cn, .slice ab s.len cb] 85)).drew.heap.size w1.heap.size) g2 (fun q hq => hI1.lt q hq) g3 (fun b h1 h2 => by have := h1.2; have := h2.1; omega)) (fun b h1 h2 => by
          have h3 := h1.2.1
          rcases h2 with h2 | h2
          · have := h2.1; simp at this; omega
          · have := h2.1; simp at hz1; omega)
        have g5 := g4.wide (S' := Rx w.heap.size w3.heap.size (.slice (some ⟨gg, 0, none⟩) (k + 1) cap)) (fun b hb => by
          rcases hb with hb | hb | hb
          · exact hp.1 b hb
          · exact hf1.1 b hb
          · exact hf2.1 b hb)
        exact ⟨k + 1, by omega, by go_num, ⟨_, hown3, by rw [Fo.take_succ HD.out]; exact g5⟩, st.out hB⟩
      case measure => simp [intOf]; omega
    · go_wp2_with fail
      go_ret
      obtain rfl : k = y.len := by omega
      obtain ⟨aa, ca, rfl, _, _⟩ := (SlC.of_owns hown).shape
      rw [Fo.take_len] at hfc
      exact ⟨aa, ca, rfl, ⟨_, hown, hfc⟩, hB⟩
end Go.Proofs.LF
