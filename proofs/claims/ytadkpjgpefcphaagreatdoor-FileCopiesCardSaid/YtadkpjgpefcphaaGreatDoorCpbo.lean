/- Parts of the proof of a law of layer 11 (file): LfW56. The conditions stand in each theorem. -/
import Derived.BigQuiet
import Derived.Deep.AppendLies
import Derived.Deep.Cut
import Derived.Deep.CutBlock
import Derived.Deep.CutRange
import Derived.Deep.QuietTactic
import Derived.Deep.RegionHeld3
import Derived.Laws.ResultCell
import Derived.Outline
import Derived.Test.YtadkpjgpefcphaaGreatDoorProg
import Derived.WalkKit
import Derived.WalkLawsBesides
import Derived.WalkSpells
import Derived.Test.YtadkpjgpefcphaaGreatDoorCpal
import Derived.Test.YtadkpjgpefcphaaGreatDoorCpbn
set_option linter.all false
set_option linter.unusedVariables false
set_option linter.unusedSimpArgs false
namespace Go.Proofs.LF
open Go.RowKit Go.Sort
set_option maxHeartbeats 4000000
set_option maxRecDepth 100000
attribute [local go_sem] bs_toList bs_size bs_get
def TreeC (L : List Fl) (u : List Ky) (a : Option Addr) (c : Nat) (ua : Option Addr) (uc : Nat) (y : Fo) : Prop := ∀ (S : Nat → Prop) (w : World), LSl rdFl S w (.slice a L.length c) L → Pth S w (.slice ua u.length uc) u → (∀ b, S b → b < w.heap.size) →
  Calls Tryz.prog 29 #[.slice a L.length c, .slice ua u.length uc] w fun e w' => ∃ a c, e = .returned (.slice a y.len c) ∧ FSl (Rg w.heap.size w'.heap.size) w' (.slice a y.len c) y ∧ Below w.heap.size w w'
theorem Tree_step (L : List Fl) (u : List Ky) (g : Fl → Fo) (a : Option Addr) (c : Nat) (ua : Option Addr) (uc : Nat) (ll : L.length ≤ 1000) (lx : ∀ x ∈ L, x.p.length ≤ 900 ∧ x.l.length ≤ 900) (lu : u.length ≤ 900)
    (H : ∀ x ∈ L, isCh u x = true → ∀ (ap : Option Addr) (cp : Nat), TreeC L x.p a c ap cp (g x)) : TreeC L u a c ua uc (toFo g u.length (L.filter (isCh u))) := by
  intro S w hL hu hS
  obtain ⟨_, _, he, hc, hm, hat⟩ := hL.at
  cases he
  obtain ⟨i0, hi0, hz0, hz1, hz2⟩ := info_parts Tryz.info97
  obtain ⟨j0, hj0, hy0, hy1, hy2⟩ := info_parts Tryz.info3
  have HH := hid H
  have HL := hid hL
  have HU := hid hu
  have HS := hid hS
  have HAT := hid hat
  have HLX := hid lx
  clear H hL hu hat lx
  unfold maxLen at hm
  go_enter Tryz.func29, Tryz.ntmps29
  go_wp2_with fail
  go_loopw [5, 6] (fun v i wr => ∃ (k : Nat) (cs : List Value), k ≤ L.length ∧ i = .int .i64 k ∧ wr.ownsRow w.heap.size 97 3 v ((L.take k).filter (isCh u)).length cs ∧ Hid (FCs (Rx w.heap.size wr.heap.size v) wr (toFo g u.length ((L.take k).filter (isCh u))) cs) ∧ Hid (Below w.heap.size w wr)) (fun _ i _ => L.length - (intOf i).toNat)
  case atStart => exact ⟨0, [], by omega, rfl, World.ownsRow_nil _ _ _ _, rfl, Below.refl _ _⟩
  case round =>
    obtain ⟨k, cs, hk, rfl, hown, hfc, hB⟩ := hrel
    by_cases hlt : k < L.length
    · obtain ⟨g0, o, cs1, rfl, hg, ⟨ap, cp, an, cn, rfl, hP, hI⟩, hcell⟩ := HAT.out k hlt
      obtain ⟨x, hx⟩ : ∃ x, L[k] = x := ⟨_, rfl⟩
      rw [hx] at hP hI hcell
      have hmem : x ∈ L := by rw [← hx]; exact List.getElem_mem hlt
      obtain ⟨x1, x2⟩ := HLX.out x hmem
      have ha : Agree S w wr := Agree.of_below hB.out HS.out
      have c0 := ha.cell hg (hcell 0 _ rfl)
      have c1 := ha.cell hg (hcell 1 _ rfl)
      rw [Nat.add_zero] at c0
      rw [← Nat.add_assoc] at c1
      have HX := hid hx
      have HM := hid hmem
      have HP := hid hP
      have HI := hid hI
      have hsz := hB.out.size
      have hlk : ((L.take k).filter (isCh u)).length ≤ k := Nat.le_trans (List.length_filter_le _ _) (by rw [List.length_take]; omega)
      have hlt' : (k : Int) < (L.length : Int) := by omega
      clear hcell hx hmem hP hI
      by_cases hlen : x.p.length = u.length + 1
      · have hlen' : (x.p.length : Int) = (u.length : Int) + 1 := by omega
        have SM := hid (same_take (HP.out.agree ha) (HU.out.agree ha) (b := u.length) (by omega) (Nat.le_refl _) (by omega))
        obtain ⟨hcp, _, _⟩ := SlC.caps HP.out
        by_cases hpre : x.p.take u.length = u
        · have hdec : decide (x.p.take u.length = u.take u.length) = true := by rw [List.take_length]; exact decide_eq_true hpre
          have hch : isCh u x = true := by unfold isCh; rw [decide_eq_true hlen, decide_eq_true hpre]; rfl
          have HCH := hid hch
          rw [hdec] at SM
          clear hpre hch hdec
          go_upto_if 32 with (go_at_call 73; refine SM.out.mono ?_; rintro e w2 ⟨rfl, hb2⟩)
          have hpk : u.length < x.p.length := by omega
          obtain ⟨gp, op, rfl, hgp, kc0, _, _⟩ := HP.out.key hpk
          obtain ⟨nm, hnm⟩ : ∃ n, x.p[u.length].n = n := ⟨_, rfl⟩
          rw [hnm] at kc0
          have hzw2 := hb2.size
          have lgp := HS.out gp hgp
          have lg0 := HS.out g0 hg
          have hB2 : Below w.heap.size w w2 := hB.out.trans (hb2.mono hsz)
          have ha2 : Agree S w w2 := Agree.of_below hB2 HS.out
          have d0 := ha2.cell hgp kc0
          have d1 := below_cell hb2 (by omega) c1
          have hown2 := owns_below hown hb2 (Nat.le_refl _)
          have hfc2 : FCs (Rx w.heap.size w2.heap.size u5) w2 (toFo g u.length (List.filter (isCh u) (List.take k L))) cs := (hfc.out.agree (Agree.of_below hb2 fun b hb => hb.2.1)).wide fun b hb => ⟨hb.1, by have := hb.2.1; omega, hb.2.2⟩
          have hne := owns_ne hown2 (Nat.le_refl w2.heap.size)
          have hnone := fun e : an = none => (SlC.caps HI.out).2.2 e
          have hli : (x.l.map (Value.int .i64)).length = x.l.length * 1 := by simp
          have v1 : (0 : Int) ≤ (u.length : Int) := by omega
          have v2 : (u.length : Int) < (u.length : Int) + 1 := by omega
          have v3 : (u.length : Int) < (x.p.length : Int) := by omega
          have HFC := hid hfc2
          have HB2 := hid hB2
          have HNM := hid hnm
          have HHX := hid (HH.out x HM.out HCH.out)
          have hown1u : ∀ b, b < w.heap.size → u5.ownBlock ≠ some b := fun b hb => owns_ne' hown2 hb
          clear hfc2 hnm hfc hB hown kc0 SM c0 c1 ha
          go_wp2_with fail
          refine (wpIn_wide (n := 9)).1 ?_
          refine region_held (fun w' : World => w'.cell? ⟨gp, op + u.length * 3, none⟩ = some (.string (bs nm)) ∧ w'.cell? ⟨g0, o + k * 2 + 1, none⟩ = some (.slice an x.l.length cn)) (by kernel_rfl) ?_
          have hS0 : (fun w' : World => w'.cell? ⟨gp, op + u.length * 3, none⟩ = some (.string (bs nm)) ∧ w'.cell? ⟨g0, o + k * 2 + 1, none⟩ = some (.slice an x.l.length cn)) w2.drew := ⟨d0, d1⟩
          refine AnyH_takeD (fun _ => trivial) (by kernel_rfl) 0 33 (u5) rfl rfl (by kernel_rfl) (by kernel_rfl) (by kernel_rfl) (fun _ _ _ h => h) (.inl ⟨by kernel_rfl, fun w' hs => ?_⟩) hS0 ?_
          · go_simp
          refine AnyH_takeD (fun _ => trivial) (by kernel_rfl) 1 34 (.slice (some ⟨gp, op, none⟩) (u.length + 1) cp) rfl rfl (by kernel_rfl) (by kernel_rfl) (by kernel_rfl) (fun _ _ _ h => h) (.inl ⟨by kernel_rfl, fun w' hs => ?_⟩) hS0 ?_
          · go_simp
          refine AnyH_takeD (fun _ => trivial) (by kernel_rfl) 2 35 (.slice ua u.length uc) rfl rfl (by kernel_rfl) (by kernel_rfl) (by kernel_rfl) (fun _ _ _ h => h) (.inl ⟨by kernel_rfl, fun w' hs => ?_⟩) hS0 ?_
          · go_simp
          refine AnyH_takeD (fun _ => trivial) (by kernel_rfl) 3 36 (.int .i64 u.length) rfl rfl (by kernel_rfl) (by kernel_rfl) (by kernel_rfl) (fun _ _ _ h => h) (.inl ⟨by kernel_rfl, fun w' hs => ?_⟩) hS0 ?_
          · go_simp
          refine AnyH_takeD (fun _ => trivial) (by kernel_rfl) 4 37 (.pointer (some ⟨gp, op + u.length * 3, none⟩)) rfl rfl (by kernel_rfl) (by kernel_rfl) (by kernel_rfl) (fun _ _ _ h => h) (.inl ⟨by kernel_rfl, fun w' hs => ?_⟩) hS0 ?_
          · go_simp
          refine AnyH_takeD (fun _ => trivial) (by kernel_rfl) 5 38 (.pointer (some ⟨gp, op + u.length * 3, none⟩)) rfl rfl (by kernel_rfl) (by kernel_rfl) (by kernel_rfl) (fun _ _ _ h => h) (.inl ⟨by kernel_rfl, fun w' hs => ?_⟩) hS0 ?_
          · go_simp
          refine AnyH_takeD (fun _ => trivial) (by kernel_rfl) 6 39 (.string (bs nm)) rfl rfl (by kernel_rfl) (by kernel_rfl) (by kernel_rfl) (fun _ _ _ h => h) (.inl ⟨by kernel_rfl, fun w' hs => ?_⟩) hS0 ?_
          · go_simp
          refine AnyH_takeD (fun _ => trivial) (by kernel_rfl) 8 41 (.slice (some ⟨g0, o, none⟩) L.length c) rfl rfl (by kernel_rfl) (by kernel_rfl) (by kernel_rfl) (fun _ _ _ h => h) (.inl ⟨by kernel_rfl, fun w' hs => ?_⟩) hS0 ?_
          · go_simp
          refine AnyH_takeD (fun _ => trivial) (by kernel_rfl) 9 42 (.int .i64 k) rfl rfl (by kernel_rfl) (by kernel_rfl) (by kernel_rfl) (fun _ _ _ h => h) (.inl ⟨by kernel_rfl, fun w' hs => ?_⟩) hS0 ?_
          · go_simp
          refine AnyH_takeD (fun _ => trivial) (by kernel_rfl) 10 43 (.pointer (some ⟨g0, o + k * 2, none⟩)) rfl rfl (by kernel_rfl) (by kernel_rfl) (by kernel_rfl) (fun _ _ _ h => h) (.inl ⟨by kernel_rfl, fun w' hs => ?_⟩) hS0 ?_
          · go_simp
          refine AnyH_takeD (fun _ => trivial) (by kernel_rfl) 11 44 (.pointer (some ⟨g0, o + k * 2 + 1, none⟩)) rfl rfl (by kernel_rfl) (by kernel_rfl) (by kernel_rfl) (fun _ _ _ h => h) (.inl ⟨by kernel_rfl, fun w' hs => ?_⟩) hS0 ?_
          · go_simp
          refine AnyH_takeD (fun _ => trivial) (by kernel_rfl) 12 45 (.slice an x.l.length cn) rfl rfl (by kernel_rfl) (by kernel_rfl) (by kernel_rfl) (fun _ _ _ h => h) (.inl ⟨by kernel_rfl, fun w' hs => ?_⟩) hS0 ?_
          · go_simp
          refine AnyH_takeD (fun _ => trivial) (by kernel_rfl) 14 47 (.slice (some ⟨g0, o, none⟩) L.length c) rfl rfl (by kernel_rfl) (by kernel_rfl) (by kernel_rfl) (fun _ _ _ h => h) (.inl ⟨by kernel_rfl, fun w' hs => ?_⟩) hS0 ?_
          · go_simp
          refine AnyH_takeD (fun _ => trivial) (by kernel_rfl) 15 48 (.slice (some ⟨gp, op, none⟩) (u.length + 1) cp) rfl rfl (by kernel_rfl) (by kernel_rfl) (by kernel_rfl) (fun _ _ _ h => h) (.inl ⟨by kernel_rfl, fun w' hs => ?_⟩) hS0 ?_
          · go_simp
          refine AnyH_one (i := 7) (by kernel_rfl) rfl (by kernel_rfl) (fun K hK => ?_)
          go_simp
          have hba : Below w2.heap.size w2 (w2.drew.alloc (.cells #[] 3)) := (Below.refl _ _).drew.alloc (Nat.le_refl _) _
          refine hK _ _ ⟨⟨below_cell hba (by omega) d0, below_cell hba (by omega) d1⟩, ?_⟩
          clear hK
          obtain ⟨a3, c3, w3, hr3, hown3, hgrow3, hat3⟩ := run_append_ao (P := Tryz.prog) (w2.drew.alloc (.cells #[] 3)) 66 66 w2.heap.size 3 j0 _ 1 8 Tryz.underlying66 hj0 hy0 hy1 hy2 rfl (by omega) (.slice (some ⟨w2.heap.size, 0, none⟩) 0 0) 0 [] (owns_of_row (w := w2.drew.alloc (.cells #[] 3)) (n := 0) (cap := 0) (cur := #[]) (Nat.le_refl _) (heap_alloc_new w2.drew _) (by omega) (by unfold maxLen; omega) (by simp) (by simp)) an x.l.length cn (x.l.map (Value.int .i64)) hli hnone (SlC.news HI.out (Agree.of_below (HB2.out.trans (hba.mono HB2.out.size)) HS.out)) (one_ints x.l) (by unfold maxLen; omega) (by omega) (by simp)
          simp only [Nat.zero_add, List.nil_append] at hr3 hown3 hat3
          have hb3 : Below w2.heap.size w2 w3 := hba.grown hgrow3 (by simp) (fun b hb => by simp [Value.ownBlock] at hb; omega)
          have hz3 := hb3.size
          have hS3 : (fun w' : World => w'.cell? ⟨gp, op + u.length * 3, none⟩ = some (.string (bs nm)) ∧ w'.cell? ⟨g0, o + k * 2 + 1, none⟩ = some (.slice an x.l.length cn)) w3 := ⟨below_cell hb3 (by omega) d0, below_cell hb3 (by omega) d1⟩
          refine AnyH_one (i := 13) (by kernel_rfl) rfl (by kernel_rfl) (fun K hK => ?_)
          refine wpIn_value (fun _ => trivial) rfl (exec_append rfl rfl rfl hr3) ?_
          refine hK _ _ ⟨hS3, ?_⟩
          clear hK hr3
          refine AnyH_one (i := 16) (by kernel_rfl) rfl (by kernel_rfl) (fun K hK => ?_)
          go_simp
          have HC := HHX.out (some ⟨gp, op, none⟩) cp
          unfold TreeC at HC
          have q1 : LSl rdFl (fun b => b < w3.heap.size) w3 (.slice (some ⟨g0, o, none⟩) L.length c) L := (HL.out.agree (Agree.of_below (HB2.out.trans (hb3.mono HB2.out.size)) HS.out)).wide (fun b hb => by have := HS.out b hb; omega)
          have q2 : Pth (fun b => b < w3.heap.size) w3 (.slice (some ⟨gp, op, none⟩) x.p.length cp) x.p := (HP.out.agree (Agree.of_below (HB2.out.trans (hb3.mono HB2.out.size)) HS.out)).wide (fun b hb => by have := HS.out b hb; omega)
          have HC2 := HC (fun b => b < w3.heap.size) w3 q1 q2 (fun b hb => hb)
          rw [hlen] at HC2
          refine ⟨trivial, (callsIn_wide.2 HC2).mono ?_⟩
          rintro e w4 ⟨a4, c4, rfl, hF4, hb4⟩
          have hz4 := hb4.size
          have hS4 : (fun w' : World => w'.cell? ⟨gp, op + u.length * 3, none⟩ = some (.string (bs nm)) ∧ w'.cell? ⟨g0, o + k * 2 + 1, none⟩ = some (.slice an x.l.length cn)) w4 := ⟨below_cell hb4 (by omega) hS3.1, below_cell hb4 (by omega) hS3.2⟩
          refine hK _ _ ⟨hS4, ?_⟩
          clear hK
          refine AnyH_takeD (fun _ => trivial) (by kernel_rfl) 17 50 (.agg #[.string (bs nm), .slice a3 x.l.length c3, .slice a4 (g x).len c4]) rfl rfl (by kernel_rfl) (by kernel_rfl) (by kernel_rfl) (fun _ _ _ h => h) (.inl ⟨by kernel_rfl, fun w' hs => ?_⟩) hS4 ?_
          · go_simp
          refine AnyH_one (i := 18) (by kernel_rfl) rfl (by kernel_rfl) (fun K hK => ?_)
          go_simp
          have hbb : Below w4.heap.size w4 (w4.alloc (.cells #[.string (bs nm), .slice a3 x.l.length c3, .slice a4 (g x).len c4] 97)) := (Below.refl _ _).alloc (Nat.le_refl _) _
          refine hK _ _ ⟨⟨below_cell hbb (by omega) hS4.1, below_cell hbb (by omega) hS4.2⟩, ?_⟩
          clear hK
          obtain ⟨a5, c5, w5, hr5, hown5, hgrow5, hat5⟩ := run_append_ao (P := Tryz.prog) (w4.alloc (.cells #[.string (bs nm), .slice a3 x.l.length c3, .slice a4 (g x).len c4] 97)) 26 26 w.heap.size 97 i0 _ 3 64 Tryz.underlying26 hi0 hz0 hz1 hz2 rfl (by omega) u5 ((L.take k).filter (isCh u)).length cs ((owns_below (owns_below hown2 hb3 (Nat.le_refl _)) hb4 (Nat.le_refl _)).alloc _) (some ⟨w4.heap.size, 0, none⟩) 1 1 [.string (bs nm), .slice a3 x.l.length c3, .slice a4 (g x).len c4] rfl (fun h => by cases h) (fun ad had => by cases had; exact World.news_of_block (cs := #[.string (bs nm), .slice a3 x.l.length c3, .slice a4 (g x).len c4]) (t := 97) (fr := (0, 0)) (heap_alloc_new _ _)) (by simp [Value.oneCell']) (by unfold maxLen; omega) (by omega) (by simp; omega)
          have hS5 : (fun w' : World => w'.cell? ⟨gp, op + u.length * 3, none⟩ = some (.string (bs nm)) ∧ w'.cell? ⟨g0, o + k * 2 + 1, none⟩ = some (.slice an x.l.length cn)) w5 := ⟨grown_cell hgrow5 (hown1u _ (by omega)) (below_cell hbb (by omega) hS4.1), grown_cell hgrow5 (hown1u _ (by omega)) (below_cell hbb (by omega) hS4.2)⟩
          refine AnyH_one (i := 19) (by kernel_rfl) rfl (by kernel_rfl) (fun K hK => ?_)
          refine wpIn_value (fun _ => trivial) rfl (exec_append rfl rfl rfl hr5) ?_
          refine hK _ _ ⟨hS5, ?_⟩
          clear hK hr5
          refine AnyH_takeD (fun _ => trivial) (by kernel_rfl) 20 5 (.slice a5 (((L.take k).filter (isCh u)).length + 1) c5) rfl rfl (by kernel_rfl) (by kernel_rfl) (by kernel_rfl) (fun _ _ _ h => h) (.inl ⟨by kernel_rfl, fun w' hs => ?_⟩) hS5 ?_
          · go_simp
          refine AnyH_done (by kernel_rfl) ?_
          go_simp
          obtain ⟨g5, cap5, he5, hg5, hlt5⟩ := hown5.form (by omega)
          cases he5
          have st : Step w.heap.size w2 (w4.alloc (.cells #[.string (bs nm), .slice a3 x.l.length c3, .slice a4 (g x).len c4] 97)) w5 u5 g5 := ⟨(hb3.trans (hb4.mono hz3)).alloc (by omega) _, ⟨hgrow5.os, hgrow5.tape, hgrow5.output, hgrow5.size, hgrow5.block⟩, by omega, fun b hb => hown2.lt b hb, hat5 g5 rfl, hlt5⟩
          have hv5 : (Value.slice (some ⟨g5, 0, none⟩) (((L.take k).filter (isCh u)).length + 1) c5).ownBlock = some g5 := rfl
          have n1 := st.keep (Stable.fcs _ _) hv5 HFC.out
          have n2 := st.lift (Stable.ints _ _) hv5 (show Ints (Rg w2.heap.size w3.heap.size) w3 (.slice a3 x.l.length c3) x.l from SlC.of_owns hown3) (Nat.le_refl _) (by simp; omega) ((hb4.alloc hz4 _))
          have n3 := st.lift (Stable.fsl _ _) hv5 hF4 hz3 (by simp) ((Below.refl _ _).alloc (Nat.le_refl _) _)
          have n4 := st.out HB2.out
          have hct := ch_take_yes hlt HX.out HCH.out
          have hgd : (x.p.getD u.length ⟨[], false, 0⟩).n = nm := by
            rw [List.getD_eq_getElem?_getD, List.getElem?_eq_getElem (by omega)]
            exact HNM.out
          have n5 : Hid (FCs (Rx w.heap.size w5.heap.size (.slice (some ⟨g5, 0, none⟩) (((L.take k).filter (isCh u)).length + 1) c5)) w5 (toFo g u.length ((L.take (k + 1)).filter (isCh u))) (cs ++ [.string (bs nm), .slice a3 x.l.length c3, .slice a4 (g x).len c4])) := by
            rw [hct, toFo_app]
            simp only [toFo, hgd]
            exact n1.app (FCs.one n2 n3)
          have hown6 : w5.ownsRow w.heap.size 97 3 (.slice (some ⟨g5, 0, none⟩) (((L.take k).filter (isCh u)).length + 1) c5) ((L.take (k + 1)).filter (isCh u)).length (cs ++ [.string (bs nm), .slice a3 x.l.length c3, .slice a4 (g x).len c4]) := by
            rw [hct, List.length_append]; exact hown5
          clear n1 n2 n3 st hown5 hgrow5 hat5 hct
          go_wp2_with fail
          go_roundw
          case rel => exact ⟨k + 1, _, by omega, by go_num, hown6, n5, n4⟩
          case measure => simp [intOf]; omega
        · have hdec : decide (x.p.take u.length = u.take u.length) = false := by rw [List.take_length]; exact decide_eq_false hpre
          have hch : isCh u x = false := by unfold isCh; rw [decide_eq_false hpre, Bool.and_false]
          have hct := ch_take_no hlt HX.out hch
          rw [hdec] at SM
          have hz := hB.out.size
          clear hpre hch hdec
          go_wp2_with (go_at_call 73; refine SM.out.mono ?_; rintro e w2 ⟨rfl, hb2⟩)
          have hown2 := owns_below hown hb2 (Nat.le_refl _)
          have hfc2 : Hid (FCs (Rx w.heap.size w2.heap.size u5) w2 (toFo g u.length (List.filter (isCh u) (List.take k L))) cs) := (hfc.out.agree (Agree.of_below hb2 fun b hb => hb.2.1)).wide fun b hb => ⟨hb.1, by have := hb.2.1; have := hb2.size; omega, hb.2.2⟩
          go_roundw
          case rel => exact ⟨k + 1, cs, by omega, by go_num, by rw [hct]; exact hown2, by rw [hct]; exact hfc2, hB.out.trans (hb2.mono hz)⟩
          case measure => simp [intOf]; omega
      · have hlen' : ((x.p.length : Int) == (u.length : Int) + 1) = false := beq_eq_false_iff_ne.2 (by omega)
        have hch : isCh u x = false := by unfold isCh; rw [decide_eq_false hlen, Bool.false_and]
        have hct := ch_take_no hlt HX.out hch
        have w1 : IntKind.i64.wrap ((u.length : Int) + 1) = (u.length : Int) + 1 := IntWalk.i64_in _ (by omega)
        clear hlen hch
        go_wp2_with fail
        go_roundw
        case rel => exact ⟨k + 1, cs, by omega, by go_num, by rw [hct]; exact hown, by rw [hct]; exact hfc, hB⟩
        case measure => simp [intOf]; omega
    · have hlt' : ¬ (k : Int) < (L.length : Int) := by omega
      obtain rfl : k = L.length := by omega
      go_wp2_with fail
      obtain ⟨a9, c9, rfl, _, _⟩ := owns_shape hown
      go_ret
      have hfc9 := hfc.out
      rw [List.take_length] at hfc9 ⊢
      rw [List.take_length] at hown
      refine ⟨a9, c9, by rw [toFo_len]; rfl, ⟨cs, by rw [toFo_len]; exact SlC.of_owns hown, hfc9.wide fun b hb => ⟨hb.1, hb.2.1⟩⟩, hB.out⟩
theorem Tree_all (L : List Fl) (a : Option Addr) (c : Nat) (ll : L.length ≤ 1000) (lx : ∀ x ∈ L, x.p.length ≤ 900 ∧ x.l.length ≤ 900) : ∀ (f : Nat) (u : List Ky) (ua : Option Addr) (uc : Nat), u.length ≤ 900 → (∀ x ∈ L, x.p.length ≤ u.length + f) → TreeC L u a c ua uc (treR f L u)
  | 0, u, ua, uc, lu, h => by
    have h0 := Tree_step L u (fun x => treR 0 L x.p) a c ua uc ll lx lu fun x hx hch => by
      have := h x hx
      simp only [isCh, Bool.and_eq_true, decide_eq_true_eq] at hch
      omega
    rwa [treR_zero (fun x hx => by have := h x hx; omega)] at h0
  | f + 1, u, ua, uc, lu, h => by
    refine Tree_step L u (fun x => treR f L x.p) a c ua uc ll lx lu fun x hx hch ap cp => ?_
    simp only [isCh, Bool.and_eq_true, decide_eq_true_eq] at hch
    exact Tree_all L a c ll lx f x.p ap cp (lx x hx).1 fun z hz => by have := h z hz; omega
end Go.Proofs.LF
