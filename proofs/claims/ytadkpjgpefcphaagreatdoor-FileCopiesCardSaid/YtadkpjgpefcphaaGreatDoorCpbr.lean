/- Parts of the proof of a law of layer 11 (file): LfW62. The conditions stand in each theorem. -/
import Derived.BigQuiet
import Derived.Deep.AppendLies
import Derived.Deep.Cut
import Derived.Deep.CutBlock
import Derived.Deep.CutRange
import Derived.Deep.QuietTactic
import Derived.Deep.RegionHeld3
import Derived.Laws.ResultCell
import Derived.Outline
import Derived.Test.YtadkpjgpefcphaaGreatDoorProg
import Derived.WalkKit
import Derived.WalkLawsBesides
import Derived.WalkSpells
import Derived.Test.YtadkpjgpefcphaaGreatDoorCpbp
set_option linter.all false
set_option linter.unusedVariables false
set_option linter.unusedSimpArgs false
namespace Go.Proofs.LF
open Go.RowKit Go.Sort
set_option maxHeartbeats 4000000
set_option maxRecDepth 100000
attribute [local go_sem] bs_toList bs_size bs_get
theorem equal_any (a b : List Fl) (p : List Ky) (aa ab ap : Option Addr) (ca cb cp : Nat) (S : Nat → Prop) (w : World) (ha : LSl rdFl S w (.slice aa a.length ca) a) (hb : LSl rdFl S w (.slice ab b.length cb) b) (hp : Pth S w (.slice ap p.length cp) p) (hS : ∀ b, S b → b < w.heap.size)
    (la : a.length ≤ 100000 ∧ ∀ x ∈ a, x.p.length ≤ 1000 ∧ x.l.length ≤ 1000) (lb : b.length ≤ 100000 ∧ ∀ x ∈ b, x.p.length ≤ 1000 ∧ x.l.length ≤ 1000) (lp : p.length ≤ 1000) :
    Calls Tryz.prog 112 #[.slice aa a.length ca, .slice ab b.length cb, .slice ap p.length cp] w fun e w' => e = .returned (.bool (eqR a b p)) ∧ Below w.heap.size w w' := by
  have FA : ∀ w1, Below w.heap.size w w1 → Calls Tryz.prog 113 #[.slice aa a.length ca, .slice ap p.length cp] w1 fun e w' => e = .returned (.int .i64 (fiI a p)) ∧ Below w1.heap.size w1 w' := fun w1 hB => Find_any a p aa ap ca cp S w1 (ha.agree (Agree.of_below hB hS)) (hp.agree (Agree.of_below hB hS)) (fun b hb => by have := hS b hb; have := hB.size; omega) la.1 (fun x hx => (la.2 x hx).1) lp
  have FB : ∀ w1, Below w.heap.size w w1 → Calls Tryz.prog 113 #[.slice ab b.length cb, .slice ap p.length cp] w1 fun e w' => e = .returned (.int .i64 (fiI b p)) ∧ Below w1.heap.size w1 w' := fun w1 hB => Find_any b p ab ap cb cp S w1 (hb.agree (Agree.of_below hB hS)) (hp.agree (Agree.of_below hB hS)) (fun b hb => by have := hS b hb; have := hB.size; omega) lb.1 (fun x hx => (lb.2 x hx).1) lp
  have HAx := hid ha
  have HBx := hid hb
  have HS := hid hS
  have HLA := hid la.2
  have HLB := hid lb.2
  obtain ⟨la, _⟩ := la
  obtain ⟨lb, _⟩ := lb
  clear ha hb hp hS
  rcases fi_cases a p with ⟨i, hi, a1, a2, _⟩ | ⟨a1, a2⟩
  · rcases fi_cases b p with ⟨k, hk, b1, b2, _⟩ | ⟨b1, b2⟩
    · have HE := hid (eqR_some a2 b2)
      rw [a1] at FA
      rw [b1] at FB
      obtain ⟨_, _, he, _, hma, hat⟩ := HAx.out.at
      cases he
      obtain ⟨_, _, he, _, hmb, hbt⟩ := HBx.out.at
      cases he
      unfold maxLen at hma hmb
      obtain ⟨g, o, cs1, rfl, hg, ⟨ax, cx, an, cn, rfl, _, hI⟩, hcell⟩ := hat i hi
      obtain ⟨g', o', cs2, rfl, hg', ⟨ay, cy, an', cn', rfl, _, hI'⟩, hcell'⟩ := hbt k hk
      have hx9 := HLA.out a[i] (List.getElem_mem hi)
      have hy9 := HLB.out b[k] (List.getElem_mem hk)
      have e1 := hcell 1 _ rfl
      have e2 := hcell' 1 _ rfl
      obtain ⟨x, hx⟩ : ∃ x, a[i] = x := ⟨_, rfl⟩
      obtain ⟨y, hy⟩ : ∃ y, b[k] = y := ⟨_, rfl⟩
      rw [hx] at hI e1 HE hx9
      rw [hy] at hI' e2 HE hy9
      rw [← Nat.add_assoc] at e1 e2
      have AL : ∀ w1, Below w.heap.size w w1 → Calls Tryz.prog 149 #[.slice an x.l.length cn, .slice an' y.l.length cn'] w1 fun e w' => e = .returned (.bool (decide (x.l = y.l))) ∧ Below w1.heap.size w1 w' := fun w1 hB => alikeI_any x.l y.l an an' cn cn' S w1 (hI.agree (Agree.of_below hB HS.out)) (hI'.agree (Agree.of_below hB HS.out)) (by omega) (by omega)
      have FA := hid FA
      have FB := hid FB
      have AL := hid AL
      have hgl := HS.out g hg
      have hgl' := HS.out g' hg'
      have v1 : (0 : Int) ≤ (i : Int) := by omega
      have v2 : (i : Int) < (a.length : Int) := by omega
      have v3 : (0 : Int) ≤ (k : Int) := by omega
      have v4 : (k : Int) < (b.length : Int) := by omega
      have v5 : ¬ (i : Int) < 0 := by omega
      have v6 : ¬ (k : Int) < 0 := by omega
      clear hcell hcell' hI hI' a1 a2 b1 b2 hat hbt hx hy
      go_enter Tryz.func112, Tryz.ntmps112
      go_wp2_with fail
      refine (FA.out w (Below.refl _ _)).mono ?_
      rintro e w1 ⟨rfl, hb1⟩
      have HB1 := hid hb1
      clear hb1
      go_wp2_with fail
      refine (FB.out w1 HB1.out).mono ?_
      rintro e w2 ⟨rfl, hb2⟩
      have HB2 := hid (HB1.out.trans (hb2.mono HB1.out.size))
      clear hb2
      have hz2 := HB2.out.size
      have c1 := below_cell HB2.out (by omega) e1
      have d1 := below_cell HB2.out (by omega) e2
      go_wp2_with fail
      refine (wpIn_wide (n := 9)).1 ?_
      refine region_held (fun w' : World => w'.cell? ⟨g, o + i * 2 + 1, none⟩ = some (.slice an x.l.length cn) ∧ w'.cell? ⟨g', o' + k * 2 + 1, none⟩ = some (.slice an' y.l.length cn')) (by kernel_rfl) ?_
      have hS0 : (fun w' : World => w'.cell? ⟨g, o + i * 2 + 1, none⟩ = some (.slice an x.l.length cn) ∧ w'.cell? ⟨g', o' + k * 2 + 1, none⟩ = some (.slice an' y.l.length cn')) w2.drew := ⟨c1, d1⟩
      refine AnyH_takeD (fun _ => trivial) (by kernel_rfl) 0 27 (.slice (some ⟨g, o, none⟩) a.length ca) rfl rfl (by kernel_rfl) (by kernel_rfl) (by kernel_rfl) (fun _ _ _ h => h) (.inl ⟨by kernel_rfl, fun w' hs => ?_⟩) hS0 ?_
      · go_simp
      refine AnyH_takeD (fun _ => trivial) (by kernel_rfl) 1 28 (.int .i64 i) rfl rfl (by kernel_rfl) (by kernel_rfl) (by kernel_rfl) (fun _ _ _ h => h) (.inl ⟨by kernel_rfl, fun w' hs => ?_⟩) hS0 ?_
      · go_simp
      refine AnyH_takeD (fun _ => trivial) (by kernel_rfl) 2 29 (.pointer (some ⟨g, o + i * 2, none⟩)) rfl rfl (by kernel_rfl) (by kernel_rfl) (by kernel_rfl) (fun _ _ _ h => h) (.inl ⟨by kernel_rfl, fun w' hs => ?_⟩) hS0 ?_
      · go_simp
      refine AnyH_takeD (fun _ => trivial) (by kernel_rfl) 3 30 (.pointer (some ⟨g, o + i * 2 + 1, none⟩)) rfl rfl (by kernel_rfl) (by kernel_rfl) (by kernel_rfl) (fun _ _ _ h => h) (.inl ⟨by kernel_rfl, fun w' hs => ?_⟩) hS0 ?_
      · go_simp
      refine AnyH_takeD (fun _ => trivial) (by kernel_rfl) 4 31 (.slice an x.l.length cn) rfl rfl (by kernel_rfl) (by kernel_rfl) (by kernel_rfl) (fun _ _ _ h => h) (.inl ⟨by kernel_rfl, fun w' hs => ?_⟩) hS0 ?_
      · go_simp
      refine AnyH_takeD (fun _ => trivial) (by kernel_rfl) 5 32 (.slice (some ⟨g', o', none⟩) b.length cb) rfl rfl (by kernel_rfl) (by kernel_rfl) (by kernel_rfl) (fun _ _ _ h => h) (.inl ⟨by kernel_rfl, fun w' hs => ?_⟩) hS0 ?_
      · go_simp
      refine AnyH_takeD (fun _ => trivial) (by kernel_rfl) 6 33 (.int .i64 k) rfl rfl (by kernel_rfl) (by kernel_rfl) (by kernel_rfl) (fun _ _ _ h => h) (.inl ⟨by kernel_rfl, fun w' hs => ?_⟩) hS0 ?_
      · go_simp
      refine AnyH_takeD (fun _ => trivial) (by kernel_rfl) 7 34 (.pointer (some ⟨g', o' + k * 2, none⟩)) rfl rfl (by kernel_rfl) (by kernel_rfl) (by kernel_rfl) (fun _ _ _ h => h) (.inl ⟨by kernel_rfl, fun w' hs => ?_⟩) hS0 ?_
      · go_simp
      refine AnyH_takeD (fun _ => trivial) (by kernel_rfl) 8 35 (.pointer (some ⟨g', o' + k * 2 + 1, none⟩)) rfl rfl (by kernel_rfl) (by kernel_rfl) (by kernel_rfl) (fun _ _ _ h => h) (.inl ⟨by kernel_rfl, fun w' hs => ?_⟩) hS0 ?_
      · go_simp
      refine AnyH_takeD (fun _ => trivial) (by kernel_rfl) 9 36 (.slice an' y.l.length cn') rfl rfl (by kernel_rfl) (by kernel_rfl) (by kernel_rfl) (fun _ _ _ h => h) (.inl ⟨by kernel_rfl, fun w' hs => ?_⟩) hS0 ?_
      · go_simp
      refine AnyH_one (i := 10) (by kernel_rfl) rfl (by kernel_rfl) (fun K hK => ?_)
      go_simp
      refine ⟨trivial, (callsIn_wide.2 (AL.out _ ((HB2.out).drew))).mono ?_⟩
      rintro e w8 ⟨rfl, hb8⟩
      have hz8 := hb8.size
      simp at hz8
      have hS8 : (fun w' : World => w'.cell? ⟨g, o + i * 2 + 1, none⟩ = some (.slice an x.l.length cn) ∧ w'.cell? ⟨g', o' + k * 2 + 1, none⟩ = some (.slice an' y.l.length cn')) w8 := ⟨below_cell hb8 (by simp; omega) c1, below_cell hb8 (by simp; omega) d1⟩
      refine hK _ _ ⟨hS8, ?_⟩
      clear hK
      refine AnyH_takeD (fun _ => trivial) (by kernel_rfl) 11 6 (.bool (decide (x.l = y.l))) rfl rfl (by kernel_rfl) (by kernel_rfl) (by kernel_rfl) (fun _ _ _ h => h) (.inl ⟨by kernel_rfl, fun w' hs => ?_⟩) hS8 ?_
      · go_simp
      refine AnyH_done (by kernel_rfl) ?_
      go_simp
      go_wp2_with fail
      go_ret
      exact ⟨ret_bool HE.out.symm, HB2.out.trans (Below.mono ⟨hb8.os, hb8.tape, hb8.output, hb8.size, hb8.block⟩ HB2.out.size)⟩
    · have HE := hid (eqR_l a2 b2)
      rw [a1] at FA
      rw [b1] at FB
      have FA := hid FA
      have FB := hid FB
      have v5 : ¬ (i : Int) < 0 := by omega
      have v6 : (0 : Int) ≤ (i : Int) := by omega
      clear a1 a2 b1 b2
      go_enter Tryz.func112, Tryz.ntmps112
      go_wp2_with fail
      refine (FA.out w (Below.refl _ _)).mono ?_
      rintro e w1 ⟨rfl, hb1⟩
      have HB1 := hid hb1
      clear hb1
      go_wp2_with fail
      refine (FB.out w1 HB1.out).mono ?_
      rintro e w2 ⟨rfl, hb2⟩
      have HB2 := hid (HB1.out.trans (hb2.mono HB1.out.size))
      clear hb2
      go_wp2_with fail
      go_ret
      exact ⟨ret_bool HE.out.symm, HB2.out⟩
  · rcases fi_cases b p with ⟨k, hk, b1, b2, _⟩ | ⟨b1, b2⟩
    · have HE := hid (eqR_r a2 b2)
      rw [a1] at FA
      rw [b1] at FB
      have FA := hid FA
      have FB := hid FB
      have v5 : ¬ (k : Int) < 0 := by omega
      have v6 : (0 : Int) ≤ (k : Int) := by omega
      clear a1 a2 b1 b2
      go_enter Tryz.func112, Tryz.ntmps112
      go_wp2_with fail
      refine (FA.out w (Below.refl _ _)).mono ?_
      rintro e w1 ⟨rfl, hb1⟩
      have HB1 := hid hb1
      clear hb1
      go_wp2_with fail
      refine (FB.out w1 HB1.out).mono ?_
      rintro e w2 ⟨rfl, hb2⟩
      have HB2 := hid (HB1.out.trans (hb2.mono HB1.out.size))
      clear hb2
      go_wp2_with fail
      go_ret
      exact ⟨ret_bool HE.out.symm, HB2.out⟩
    · have HE := hid (eqR_no a2 b2)
      rw [a1] at FA
      rw [b1] at FB
      have FA := hid FA
      have FB := hid FB
      clear a1 a2 b1 b2
      go_enter Tryz.func112, Tryz.ntmps112
      go_wp2_with fail
      refine (FA.out w (Below.refl _ _)).mono ?_
      rintro e w1 ⟨rfl, hb1⟩
      have HB1 := hid hb1
      clear hb1
      go_wp2_with fail
      refine (FB.out w1 HB1.out).mono ?_
      rintro e w2 ⟨rfl, hb2⟩
      have HB2 := hid (HB1.out.trans (hb2.mono HB1.out.size))
      clear hb2
      go_wp2_with fail
      go_ret
      exact ⟨ret_bool HE.out.symm, HB2.out⟩
end Go.Proofs.LF
