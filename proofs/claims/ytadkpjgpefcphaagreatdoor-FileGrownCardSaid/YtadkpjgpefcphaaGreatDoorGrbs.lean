/- Parts of the proof of a law of layer 11 (file): LfW81. The conditions stand in each theorem. -/
import Derived.BigQuiet
import Derived.Deep.AppendLies
import Derived.Deep.Cut
import Derived.Deep.CutBlock
import Derived.Deep.CutRange
import Derived.Deep.QuietTactic
import Derived.Deep.RegionHeld3
import Derived.Laws.ResultCell
import Derived.Outline
import Derived.Test.YtadkpjgpefcphaaGreatDoorProg
import Derived.WalkKit
import Derived.WalkLawsBesides
import Derived.WalkSpells
import Derived.Test.YtadkpjgpefcphaaGreatDoorGral
import Derived.Test.YtadkpjgpefcphaaGreatDoorGras
import Derived.Test.YtadkpjgpefcphaaGreatDoorGrat
import Derived.Test.YtadkpjgpefcphaaGreatDoorGrbf
import Derived.Test.YtadkpjgpefcphaaGreatDoorGrbn
import Derived.Test.YtadkpjgpefcphaaGreatDoorGrbq
set_option linter.all false
set_option linter.unusedVariables false
set_option linter.unusedSimpArgs false
namespace Go.Proofs.LF
open Go.RowKit Go.Sort
set_option maxHeartbeats 4000000
set_option maxRecDepth 100000
attribute [local go_sem] bs_toList bs_size bs_get
theorem enters131 : Enters 131 := by intro args W; simp [go_sem]
def blP (q p : List Ky) : Bool := decide (q.length ≤ p.length) && decide (p.take q.length = q)
theorem drop1_any (x : Fl) (q : List Ky) (ap an aq : Option Addr) (cp cn cq F : Nat) (S : Nat → Prop) (w : World) (hp : Pth S w (.slice ap x.p.length cp) x.p) (hq : Pth S w (.slice aq q.length cq) q) (hS : ∀ b, S b → b < w.heap.size) (lp : x.p.length ≤ 1000) (lq : q.length ≤ 1000) (hF : F < w.heap.size) (hc : w.cell? ⟨F, 0, none⟩ = some (.slice aq q.length cq)) :
    Calls Tryz.prog 131 #[.agg #[.slice ap x.p.length cp, .slice an x.l.length cn], .pointer (some ⟨F, 0, none⟩)] w fun e w' => e = .returned (.bool (blP q x.p)) ∧ Below w.heap.size w w' := by
  obtain ⟨W, hW⟩ : ∃ W, w.alloc (.cells #[.slice ap x.p.length cp, .slice an x.l.length cn] 171) = W := ⟨_, rfl⟩
  have hb : Below w.heap.size w W := by rw [← hW]; exact (Below.refl _ _).alloc (Nat.le_refl _) _
  have hnew : W.heap[w.heap.size]? = some (.cells #[.slice ap x.p.length cp, .slice an x.l.length cn] 171 (0, 0)) := by rw [← hW]; exact heap_alloc_new _ _
  have c0 : W.cell? ⟨w.heap.size, 0, none⟩ = some (.slice ap x.p.length cp) := cells_get hnew (k := 0) rfl
  have d0 : W.cell? ⟨F, 0, none⟩ = some (.slice aq q.length cq) := below_cell hb hF hc
  have hcp := SlC.caps hp
  have HB := hid hb
  have HP := hid (hp.agree (Agree.of_below hb hS))
  have HQ := hid (hq.agree (Agree.of_below hb hS))
  have HW := hid hW
  have hS0 : W.cell? ⟨w.heap.size, 0, none⟩ = some (.slice ap x.p.length cp) ∧ W.cell? ⟨F, 0, none⟩ = some (.slice aq q.length cq) := ⟨c0, d0⟩
  have HS0 := hid hS0
  have hzW : W.heap.size = w.heap.size + 1 := by rw [← hW]; simp
  have HZW := hid hzW
  clear hp hq hc hb hnew c0 d0 hS0 hW hzW
  go_enter Tryz.func131, Tryz.ntmps131
  go_upto_region 1 with fail
  rw [HW.out]
  have i1 : (0 : Int) ≤ (q.length : Int) := by omega
  by_cases hle : q.length ≤ x.p.length
  · have hle' : (q.length : Int) ≤ (x.p.length : Int) := by omega
    have hlc : (q.length : Int) ≤ (cp : Int) := by omega
    have hsum : decide (q.length ≤ x.p.length) = true := by simp [hle]
    have CALL := hid (eqKeys_any (x.p.take q.length) q ap aq cp cq S W.drew (by
      have this := HP.out.pre hle
      rw [show (x.p.take q.length).length = q.length by rw [List.length_take]; omega]
      exact this.agree (fun _ _ => rfl)) (HQ.out.agree (fun _ _ => rfl)) (by rw [List.length_take]; omega) (by omega))
    have hlt : (x.p.take q.length).length = q.length := by rw [List.length_take]; omega
    rw [hlt] at CALL
    refine (wpIn_wide (n := 9)).1 ?_
    refine region_held (fun w' : World => w'.cell? ⟨w.heap.size, 0, none⟩ = some (.slice ap x.p.length cp) ∧ w'.cell? ⟨F, 0, none⟩ = some (.slice aq q.length cq)) (by kernel_rfl) ?_
    have hS0 := HS0.out
    refine AnyH_takeD (fun _ => trivial) (by kernel_rfl) 0 4 (.pointer (some ⟨w.heap.size, 0, none⟩)) rfl rfl (by kernel_rfl) (by kernel_rfl) (by kernel_rfl) (fun _ _ _ h => h) (.inl ⟨by kernel_rfl, fun w' hs => ?_⟩) hS0 ?_
    · go_simp
    refine AnyH_takeD (fun _ => trivial) (by kernel_rfl) 1 5 (.slice ap x.p.length cp) rfl rfl (by kernel_rfl) (by kernel_rfl) (by kernel_rfl) (fun _ _ _ h => h) (.inl ⟨by kernel_rfl, fun w' hs => ?_⟩) hS0 ?_
    · obtain ⟨q0, q1⟩ := hs
      go_simp
    refine AnyH_takeD (fun _ => trivial) (by kernel_rfl) 2 6 (.int .i64 x.p.length) rfl rfl (by kernel_rfl) (by kernel_rfl) (by kernel_rfl) (fun _ _ _ h => h) (.inl ⟨by kernel_rfl, fun w' hs => ?_⟩) hS0 ?_
    · go_simp
    refine AnyH_takeD (fun _ => trivial) (by kernel_rfl) 3 7 (.slice aq q.length cq) rfl rfl (by kernel_rfl) (by kernel_rfl) (by kernel_rfl) (fun _ _ _ h => h) (.inl ⟨by kernel_rfl, fun w' hs => ?_⟩) hS0 ?_
    · obtain ⟨q0, q1⟩ := hs
      go_simp
    refine AnyH_takeD (fun _ => trivial) (by kernel_rfl) 4 8 (.int .i64 q.length) rfl rfl (by kernel_rfl) (by kernel_rfl) (by kernel_rfl) (fun _ _ _ h => h) (.inl ⟨by kernel_rfl, fun w' hs => ?_⟩) hS0 ?_
    · go_simp
    refine AnyH_takeD (fun _ => trivial) (by kernel_rfl) 5 9 (.bool true) rfl rfl (by kernel_rfl) (by kernel_rfl) (by kernel_rfl) (fun _ _ _ h => h) (.inl ⟨by kernel_rfl, fun w' hs => ?_⟩) hS0 ?_
    · go_simp
    refine AnyH_takeD (fun _ => trivial) (by kernel_rfl) 6 10 (.bool true) rfl rfl (by kernel_rfl) (by kernel_rfl) (by kernel_rfl) (fun _ _ _ h => h) (.inl ⟨by kernel_rfl, fun w' hs => ?_⟩) hS0 ?_
    · go_simp
    refine AnyH_takeD (fun _ => trivial) (by kernel_rfl) 7 11 (.pointer (some ⟨w.heap.size, 0, none⟩)) rfl rfl (by kernel_rfl) (by kernel_rfl) (by kernel_rfl) (fun _ _ _ h => h) (.inl ⟨by kernel_rfl, fun w' hs => ?_⟩) hS0 ?_
    · go_simp
    refine AnyH_takeD (fun _ => trivial) (by kernel_rfl) 8 12 (.slice ap x.p.length cp) rfl rfl (by kernel_rfl) (by kernel_rfl) (by kernel_rfl) (fun _ _ _ h => h) (.inl ⟨by kernel_rfl, fun w' hs => ?_⟩) hS0 ?_
    · obtain ⟨q0, q1⟩ := hs
      go_simp
    refine AnyH_takeD (fun _ => trivial) (by kernel_rfl) 9 13 (.slice aq q.length cq) rfl rfl (by kernel_rfl) (by kernel_rfl) (by kernel_rfl) (fun _ _ _ h => h) (.inl ⟨by kernel_rfl, fun w' hs => ?_⟩) hS0 ?_
    · obtain ⟨q0, q1⟩ := hs
      go_simp
    refine AnyH_takeD (fun _ => trivial) (by kernel_rfl) 10 14 (.int .i64 q.length) rfl rfl (by kernel_rfl) (by kernel_rfl) (by kernel_rfl) (fun _ _ _ h => h) (.inl ⟨by kernel_rfl, fun w' hs => ?_⟩) hS0 ?_
    · go_simp
    refine AnyH_takeD (fun _ => trivial) (by kernel_rfl) 11 15 (.slice ap q.length cp) rfl rfl (by kernel_rfl) (by kernel_rfl) (by kernel_rfl) (fun _ _ _ h => h) (.inl ⟨by kernel_rfl, fun w' hs => ?_⟩) hS0 ?_
    · go_simp
    refine AnyH_takeD (fun _ => trivial) (by kernel_rfl) 12 16 (.slice aq q.length cq) rfl rfl (by kernel_rfl) (by kernel_rfl) (by kernel_rfl) (fun _ _ _ h => h) (.inl ⟨by kernel_rfl, fun w' hs => ?_⟩) hS0 ?_
    · obtain ⟨q0, q1⟩ := hs
      go_simp
    refine AnyH_one (i := 13) (by kernel_rfl) rfl (by kernel_rfl) (fun K hK => ?_)
    go_simp
    refine ⟨trivial, (callsIn_wide.2 CALL.out).mono ?_⟩
    rintro e w5 ⟨he5, hb5⟩
    obtain ⟨r, hr⟩ : ∃ r, decide (List.take q.length x.p = q) = r := ⟨_, rfl⟩
    rw [hr] at he5
    subst he5
    have hS5 : w5.cell? ⟨w.heap.size, 0, none⟩ = some (.slice ap x.p.length cp) ∧ w5.cell? ⟨F, 0, none⟩ = some (.slice aq q.length cq) := ⟨below_cell hb5 (by simp; have := HZW.out; omega) HS0.out.1, below_cell hb5 (by simp; have := HZW.out; omega) HS0.out.2⟩
    refine hK _ _ ⟨hS5, ?_⟩
    clear hK
    refine AnyH_takeD (fun _ => trivial) (by kernel_rfl) 14 18 (.bool r) rfl rfl (by kernel_rfl) (by kernel_rfl) (by kernel_rfl) (fun _ _ _ h => h) (.inl ⟨by kernel_rfl, fun w' hs => ?_⟩) hS5 ?_
    · go_simp
    refine AnyH_takeD (fun _ => trivial) (by kernel_rfl) 15 3 (.bool r) rfl rfl (by kernel_rfl) (by kernel_rfl) (by kernel_rfl) (fun _ _ _ h => h) (.inl ⟨by kernel_rfl, fun w' hs => ?_⟩) hS5 ?_
    · go_simp
    refine AnyH_done (by kernel_rfl) ?_
    go_simp
    have HBX := hid (HB.out.drew.trans (hb5.mono (by simp; exact HB.out.size)))
    have HR := hid hr
    clear hb5 hS5 hr
    go_wp2_with fail
    go_ret
    exact ⟨by rw [blP, hsum, HR.out]; rfl, HBX.out⟩
  · have hle' : ¬ (q.length : Int) ≤ (x.p.length : Int) := by omega
    have hsum : decide (q.length ≤ x.p.length) = false := by simp [hle]
    refine (wpIn_wide (n := 9)).1 ?_
    refine region_held (fun w' : World => w'.cell? ⟨w.heap.size, 0, none⟩ = some (.slice ap x.p.length cp) ∧ w'.cell? ⟨F, 0, none⟩ = some (.slice aq q.length cq)) (by kernel_rfl) ?_
    have hS0 := HS0.out
    refine AnyH_takeD (fun _ => trivial) (by kernel_rfl) 0 4 (.pointer (some ⟨w.heap.size, 0, none⟩)) rfl rfl (by kernel_rfl) (by kernel_rfl) (by kernel_rfl) (fun _ _ _ h => h) (.inl ⟨by kernel_rfl, fun w' hs => ?_⟩) hS0 ?_
    · go_simp
    refine AnyH_takeD (fun _ => trivial) (by kernel_rfl) 1 5 (.slice ap x.p.length cp) rfl rfl (by kernel_rfl) (by kernel_rfl) (by kernel_rfl) (fun _ _ _ h => h) (.inl ⟨by kernel_rfl, fun w' hs => ?_⟩) hS0 ?_
    · obtain ⟨q0, q1⟩ := hs
      go_simp
    refine AnyH_takeD (fun _ => trivial) (by kernel_rfl) 2 6 (.int .i64 x.p.length) rfl rfl (by kernel_rfl) (by kernel_rfl) (by kernel_rfl) (fun _ _ _ h => h) (.inl ⟨by kernel_rfl, fun w' hs => ?_⟩) hS0 ?_
    · go_simp
    refine AnyH_takeD (fun _ => trivial) (by kernel_rfl) 3 7 (.slice aq q.length cq) rfl rfl (by kernel_rfl) (by kernel_rfl) (by kernel_rfl) (fun _ _ _ h => h) (.inl ⟨by kernel_rfl, fun w' hs => ?_⟩) hS0 ?_
    · obtain ⟨q0, q1⟩ := hs
      go_simp
    refine AnyH_takeD (fun _ => trivial) (by kernel_rfl) 4 8 (.int .i64 q.length) rfl rfl (by kernel_rfl) (by kernel_rfl) (by kernel_rfl) (fun _ _ _ h => h) (.inl ⟨by kernel_rfl, fun w' hs => ?_⟩) hS0 ?_
    · go_simp
    refine AnyH_takeD (fun _ => trivial) (by kernel_rfl) 5 9 (.bool false) rfl rfl (by kernel_rfl) (by kernel_rfl) (by kernel_rfl) (fun _ _ _ h => h) (.inl ⟨by kernel_rfl, fun w' hs => ?_⟩) hS0 ?_
    · go_simp
    refine AnyH_takeD (fun _ => trivial) (by kernel_rfl) 6 10 (.bool false) rfl rfl (by kernel_rfl) (by kernel_rfl) (by kernel_rfl) (fun _ _ _ h => h) (.inl ⟨by kernel_rfl, fun w' hs => ?_⟩) hS0 ?_
    · go_simp
    refine AnyH_takeD (fun _ => trivial) (by kernel_rfl) 7 11 undef rfl rfl (by kernel_rfl) (by kernel_rfl) (by kernel_rfl) (fun _ _ _ h => h) (.inr ⟨by kernel_rfl, rfl⟩) hS0 ?_
    refine AnyH_takeD (fun _ => trivial) (by kernel_rfl) 8 12 undef rfl rfl (by kernel_rfl) (by kernel_rfl) (by kernel_rfl) (fun _ _ _ h => h) (.inr ⟨by kernel_rfl, rfl⟩) hS0 ?_
    refine AnyH_takeD (fun _ => trivial) (by kernel_rfl) 9 13 undef rfl rfl (by kernel_rfl) (by kernel_rfl) (by kernel_rfl) (fun _ _ _ h => h) (.inr ⟨by kernel_rfl, rfl⟩) hS0 ?_
    refine AnyH_takeD (fun _ => trivial) (by kernel_rfl) 10 14 undef rfl rfl (by kernel_rfl) (by kernel_rfl) (by kernel_rfl) (fun _ _ _ h => h) (.inr ⟨by kernel_rfl, rfl⟩) hS0 ?_
    refine AnyH_takeD (fun _ => trivial) (by kernel_rfl) 11 15 undef rfl rfl (by kernel_rfl) (by kernel_rfl) (by kernel_rfl) (fun _ _ _ h => h) (.inr ⟨by kernel_rfl, rfl⟩) hS0 ?_
    refine AnyH_takeD (fun _ => trivial) (by kernel_rfl) 12 16 undef rfl rfl (by kernel_rfl) (by kernel_rfl) (by kernel_rfl) (fun _ _ _ h => h) (.inr ⟨by kernel_rfl, rfl⟩) hS0 ?_
    refine AnyH_takeD (fun _ => trivial) (by kernel_rfl) 13 17 undef rfl rfl (by kernel_rfl) (by kernel_rfl) (by kernel_rfl) (fun _ _ _ h => h) (.inr ⟨by kernel_rfl, rfl⟩) hS0 ?_
    refine AnyH_takeD (fun _ => trivial) (by kernel_rfl) 14 18 (.bool false) rfl rfl (by kernel_rfl) (by kernel_rfl) (by kernel_rfl) (fun _ _ _ h => h) (.inl ⟨by kernel_rfl, fun w' hs => ?_⟩) hS0 ?_
    · go_simp
    refine AnyH_takeD (fun _ => trivial) (by kernel_rfl) 15 3 (.bool false) rfl rfl (by kernel_rfl) (by kernel_rfl) (by kernel_rfl) (fun _ _ _ h => h) (.inl ⟨by kernel_rfl, fun w' hs => ?_⟩) hS0 ?_
    · go_simp
    refine AnyH_done (by kernel_rfl) ?_
    go_simp
    go_wp2_with fail
    go_ret
    exact ⟨by rw [blP, hsum]; rfl, HB.out.drew⟩
end Go.Proofs.LF
