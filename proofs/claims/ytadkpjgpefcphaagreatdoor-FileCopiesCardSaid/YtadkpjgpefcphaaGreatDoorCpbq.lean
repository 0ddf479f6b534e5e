/- Parts of the proof of a law of layer 11 (file): LfW61. The conditions stand in each theorem. -/
import Derived.BigQuiet
import Derived.Deep.AppendLies
import Derived.Deep.Cut
import Derived.Deep.CutBlock
import Derived.Deep.CutRange
import Derived.Deep.QuietTactic
import Derived.Deep.RegionHeld3
import Derived.Laws.ResultCell
import Derived.Outline
import Derived.Test.YtadkpjgpefcphaaGreatDoorProg
import Derived.WalkKit
import Derived.WalkLawsBesides
import Derived.WalkSpells
import Derived.Test.YtadkpjgpefcphaaGreatDoorCpaf
import Derived.Test.YtadkpjgpefcphaaGreatDoorCpbp
set_option linter.all false
set_option linter.unusedVariables false
set_option linter.unusedSimpArgs false
namespace Go.Proofs.LF
open Go.RowKit Go.Sort
set_option maxHeartbeats 4000000
set_option maxRecDepth 100000
attribute [local go_sem] bs_toList bs_size bs_get
theorem putR_any (l : List Fl) (x : Fl) (al ap an : Option Addr) (cl cp cn : Nat) (S : Nat → Prop) (w : World) (hl : LSl rdFl S w (.slice al l.length cl) l) (hp : Pth S w (.slice ap x.p.length cp) x.p) (hi : Ints S w (.slice an x.l.length cn) x.l) (hS : ∀ b, S b → b < w.heap.size) (ll : l.length ≤ 100000) (lx : ∀ y ∈ l, y.p.length ≤ 1000) (lp : x.p.length ≤ 1000) :
    Calls Tryz.prog 141 #[.slice al l.length cl, .agg #[.slice ap x.p.length cp, .slice an x.l.length cn]] w fun e w' => ∃ v, e = .returned v ∧ RowS rdFl 159 S (w.heap.size + 1) w' v (putR x l) ∧ Below w.heap.size w w' := by
  obtain ⟨_, _, he, hc, hm, hat⟩ := hl.at
  cases he
  obtain ⟨i0, hi0, hz0, hz1, hz2⟩ := info_parts Tryz.info159
  have HAT := hid hat
  have HP := hid hp
  have HI := hid hi
  have HS := hid hS
  have hS1 : Hid (∀ b, S b → b < w.heap.size + 1) := fun b hb => by have := hS b hb; omega
  have HLX := hid lx
  have HPG := hid (putG_false x l [])
  unfold maxLen at hm
  clear hl hat hp hi hS lx
  obtain ⟨W1, hW1⟩ : ∃ W1, w.alloc (.cells #[.slice ap x.p.length cp, .slice an x.l.length cn] 159) = W1 := ⟨_, rfl⟩
  obtain ⟨B0, hB0⟩ : ∃ B0, w.heap.size = B0 := ⟨_, rfl⟩
  have hblk : W1.heap[B0]? = some (.cells #[.slice ap x.p.length cp, .slice an x.l.length cn] 159 (0, 0)) := by rw [← hW1, ← hB0]; exact heap_alloc_new _ _
  have f0 : W1.cell? ⟨B0, 0, none⟩ = some (.slice ap x.p.length cp) := cells_get hblk (k := 0) rfl
  have f1 : W1.cell? ⟨B0, 1, none⟩ = some (.slice an x.l.length cn) := cells_get hblk (k := 1) rfl
  have hbw : Below w.heap.size w W1 := by rw [← hW1]; exact (Below.refl _ _).alloc (Nat.le_refl _) _
  have hz1' : W1.heap.size = w.heap.size + 1 := by rw [← hW1]; simp
  have F0 := hid f0
  have F1 := hid f1
  have HBW := hid hbw
  have HZ1 := hid hz1'
  have HB0 := hid hB0
  clear hblk f0 f1 hbw hz1'
  go_enter Tryz.func141, Tryz.ntmps141
  go_wp2_with fail
  go_loopw [5, 6, 7] (fun v dv iv wr => ∃ (k : Nat) (d : Bool) (acc : List Fl), k ≤ l.length ∧ iv = .int .i64 k ∧ dv = .bool d ∧ RowS rdFl 159 S (w.heap.size + 1) wr v acc ∧ acc.length ≤ 2 * k + 1 ∧ Hid (putG x false [] l = putG x d acc (l.drop k)) ∧ Hid (Below (w.heap.size + 1) W1 wr)) (fun _ _ i _ => l.length - (intOf i).toNat)
  case atStart => exact ⟨0, false, [], by omega, rfl, rfl, by have := HZ1.out; rw [← this]; exact RowS.nil _, by simp, rfl, Below.refl _ _⟩
  case round =>
    obtain ⟨k, d, acc, hk, rfl, rfl, hrow, hacc, hput, hB⟩ := hrel
    have hzr := hB.out.size
    have hz1w := HZ1.out
    have hb0 := HB0.out
    have hBw : Below w.heap.size w wr := HBW.out.trans (hB.out.mono (by omega))
    have e0 : wr.cell? ⟨B0, 0, none⟩ = some (.slice ap x.p.length cp) := below_cell hB.out (by omega) F0.out
    have e1 : wr.cell? ⟨B0, 1, none⟩ = some (.slice an x.l.length cn) := below_cell hB.out (by omega) F1.out
    have ha : Agree S w wr := Agree.of_below hBw HS.out
    have HX : Hid (∀ W, Below w.heap.size w W → rdFl.R S W x [.slice ap x.p.length cp, .slice an x.l.length cn]) := fun W hW => ⟨ap, cp, an, cn, rfl, HP.out.agree (Agree.of_below hW HS.out), HI.out.agree (Agree.of_below hW HS.out)⟩
    by_cases hlt : k < l.length
    · have hlt' : (k : Int) < (l.length : Int) := by omega
      have i1 : (0 : Int) ≤ (k : Int) := by omega
      obtain ⟨g, o, cs1, rfl, hg, ⟨ay, cy, am, cm, rfl, hPy, hIy⟩, hcell⟩ := HAT.out k hlt
      have hdk : l.drop k = l[k] :: l.drop (k + 1) := List.drop_eq_getElem_cons hlt
      have hmem : l[k] ∈ l := List.getElem_mem hlt
      have c0 := ha.cell hg (hcell 0 _ rfl)
      have c1 := ha.cell hg (hcell 1 _ rfl)
      rw [Nat.add_zero] at c0
      rw [← Nat.add_assoc] at c1
      have hgl := HS.out g hg
      obtain ⟨y, hy⟩ : ∃ y, l[k] = y := ⟨_, rfl⟩
      rw [hy] at hPy hIy c0 c1 hdk hmem
      have ly := HLX.out y hmem
      have hp1 := hput.out
      rw [hdk] at hp1
      have HY : Hid (∀ W, Below w.heap.size w W → rdFl.R S W y [.slice ay y.p.length cy, .slice am y.l.length cm]) := fun W hW => ⟨ay, cy, am, cm, rfl, hPy.agree (Agree.of_below hW HS.out), hIy.agree (Agree.of_below hW HS.out)⟩
      have hSr : ∀ b, S b → b < wr.heap.size := fun b hb => by have := HS.out b hb; omega
      have HSr := hid hSr
      have HPU := hid hp1
      have HBW2 := hid hBw
      have AHx : ∀ W, Below wr.heap.size wr W → Calls Tryz.prog 150 #[.slice ap x.p.length cp, .slice ay y.p.length cy] W fun e w' => e = .returned (.bool (decide (cmpP x.p y.p < 0))) ∧ Below W.heap.size W w' := fun W hW => Ahead_any x.p y.p ap ay cp cy S W (HP.out.agree (Agree.of_below (hBw.trans (hW.mono (by omega))) HS.out)) (hPy.agree (Agree.of_below (hBw.trans (hW.mono (by omega))) HS.out)) (fun b hb => by have := HS.out b hb; have := hW.size; omega) (by omega) (by omega)
      have AH := hid AHx
      have HCS : Hid (∀ W, Below wr.heap.size wr W → (fun w' : World => w'.cell? ⟨B0, 0, none⟩ = some (.slice ap x.p.length cp) ∧ w'.cell? ⟨B0, 1, none⟩ = some (.slice an x.l.length cn) ∧ w'.cell? ⟨g, o + k * 2, none⟩ = some (.slice ay y.p.length cy)) W) := fun W hW => ⟨below_cell hW (by omega) e0, below_cell hW (by omega) e1, below_cell hW (by omega) c0⟩
      clear hcell hPy hIy hdk hmem hp1 hy hBw hSr AHx ha hput
      cases d with
      | true =>
        have hrow2 := hid (hrow.below HSr.out (Below.refl _ _).drew)
        go_wp2_with fail
        refine (wpIn_wide (n := 9)).1 ?_
        refine region_held (fun w' : World => w'.cell? ⟨B0, 0, none⟩ = some (.slice ap x.p.length cp) ∧ w'.cell? ⟨B0, 1, none⟩ = some (.slice an x.l.length cn) ∧ w'.cell? ⟨g, o + k * 2, none⟩ = some (.slice ay y.p.length cy)) (by kernel_rfl) ?_
        have hS0 : (fun w' : World => w'.cell? ⟨B0, 0, none⟩ = some (.slice ap x.p.length cp) ∧ w'.cell? ⟨B0, 1, none⟩ = some (.slice an x.l.length cn) ∧ w'.cell? ⟨g, o + k * 2, none⟩ = some (.slice ay y.p.length cy)) wr.drew := ⟨e0, e1, c0⟩
        refine AnyH_takeD (fun _ => trivial) (by kernel_rfl) 0 14 (.bool true) rfl rfl (by kernel_rfl) (by kernel_rfl) (by kernel_rfl) (fun _ _ _ h => h) (.inl ⟨by kernel_rfl, fun w' hs => ?_⟩) hS0 ?_
        · go_simp
        refine AnyH_takeD (fun _ => trivial) (by kernel_rfl) 1 15 (.bool false) rfl rfl (by kernel_rfl) (by kernel_rfl) (by kernel_rfl) (fun _ _ _ h => h) (.inl ⟨by kernel_rfl, fun w' hs => ?_⟩) hS0 ?_
        · go_simp
        refine AnyH_takeD (fun _ => trivial) (by kernel_rfl) 2 16 (.bool false) rfl rfl (by kernel_rfl) (by kernel_rfl) (by kernel_rfl) (fun _ _ _ h => h) (.inl ⟨by kernel_rfl, fun w' hs => ?_⟩) hS0 ?_
        · go_simp
        refine AnyH_takeD (fun _ => trivial) (by kernel_rfl) 3 17 undef rfl rfl (by kernel_rfl) (by kernel_rfl) (by kernel_rfl) (fun _ _ _ h => h) (.inr ⟨by kernel_rfl, rfl⟩) hS0 ?_
        refine AnyH_takeD (fun _ => trivial) (by kernel_rfl) 4 18 undef rfl rfl (by kernel_rfl) (by kernel_rfl) (by kernel_rfl) (fun _ _ _ h => h) (.inr ⟨by kernel_rfl, rfl⟩) hS0 ?_
        refine AnyH_takeD (fun _ => trivial) (by kernel_rfl) 5 19 undef rfl rfl (by kernel_rfl) (by kernel_rfl) (by kernel_rfl) (fun _ _ _ h => h) (.inr ⟨by kernel_rfl, rfl⟩) hS0 ?_
        refine AnyH_takeD (fun _ => trivial) (by kernel_rfl) 6 20 undef rfl rfl (by kernel_rfl) (by kernel_rfl) (by kernel_rfl) (fun _ _ _ h => h) (.inr ⟨by kernel_rfl, rfl⟩) hS0 ?_
        refine AnyH_takeD (fun _ => trivial) (by kernel_rfl) 7 21 undef rfl rfl (by kernel_rfl) (by kernel_rfl) (by kernel_rfl) (fun _ _ _ h => h) (.inr ⟨by kernel_rfl, rfl⟩) hS0 ?_
        refine AnyH_takeD (fun _ => trivial) (by kernel_rfl) 8 22 undef rfl rfl (by kernel_rfl) (by kernel_rfl) (by kernel_rfl) (fun _ _ _ h => h) (.inr ⟨by kernel_rfl, rfl⟩) hS0 ?_
        refine AnyH_takeD (fun _ => trivial) (by kernel_rfl) 9 23 undef rfl rfl (by kernel_rfl) (by kernel_rfl) (by kernel_rfl) (fun _ _ _ h => h) (.inr ⟨by kernel_rfl, rfl⟩) hS0 ?_
        refine AnyH_takeD (fun _ => trivial) (by kernel_rfl) 10 24 undef rfl rfl (by kernel_rfl) (by kernel_rfl) (by kernel_rfl) (fun _ _ _ h => h) (.inr ⟨by kernel_rfl, rfl⟩) hS0 ?_
        refine AnyH_takeD (fun _ => trivial) (by kernel_rfl) 11 25 (.bool false) rfl rfl (by kernel_rfl) (by kernel_rfl) (by kernel_rfl) (fun _ _ _ h => h) (.inl ⟨by kernel_rfl, fun w' hs => ?_⟩) hS0 ?_
        · go_simp
        refine AnyH_done (by kernel_rfl) ?_
        go_simp
        go_wp2_with (at_builtin; (refine (wpList_push (r := rdFl) (e := 159) (S := S) (lo := w.heap.size + 1) rfl _ _ _ rfl i0 _ 48 Tryz.underlying38 hi0 hz0 hz1 hz2 rfl (by omega) rfl (hrow.below HSr.out (((Below.refl _ _).alloc (Nat.le_refl _) _).drew)) hS1.out ?_ y [.slice ay y.p.length cy, .slice am y.l.length cm] wr.heap.size rfl ?_ (HY.out _ ((HBW2.out.alloc (by omega) _).drew)) ?_ ?_ ?_); (simp; omega); exact heap_alloc_new _ _; (try simp only [List.length_append, List.length_cons, List.length_nil]); (unfold maxLen; omega); (try simp only [List.length_append, List.length_cons, List.length_nil]); omega; intro V1 W1 HR1 HG1 HT1 HL1))
        have hp2 := HPU.out
        simp only [putG, Bool.not_true, Bool.false_and, Bool.false_eq_true, if_false] at hp2
        have hp2 := hid hp2
        go_roundw
        case rel => exact ⟨k + 1, true, acc ++ [y], by omega, by go_num, rfl, HR1, by simp; omega, hp2, HL1 _ ((hB.out.alloc (by omega) _).drew)⟩
        case measure => simp [intOf]; omega
      | false =>
        by_cases hah : cmpP x.p y.p < 0
        · have HTK := hid (decide_eq_true hah)
          have hp2 := HPU.out
          rw [putG, decide_eq_true hah] at hp2
          simp only [Bool.not_false, Bool.and_true, if_true] at hp2
          have hp2 := hid hp2
          clear hah
          go_wp2_with fail
          refine (wpIn_wide (n := 9)).1 ?_
          refine region_held (fun w' : World => w'.cell? ⟨B0, 0, none⟩ = some (.slice ap x.p.length cp) ∧ w'.cell? ⟨B0, 1, none⟩ = some (.slice an x.l.length cn) ∧ w'.cell? ⟨g, o + k * 2, none⟩ = some (.slice ay y.p.length cy)) (by kernel_rfl) ?_
          have hS0 : (fun w' : World => w'.cell? ⟨B0, 0, none⟩ = some (.slice ap x.p.length cp) ∧ w'.cell? ⟨B0, 1, none⟩ = some (.slice an x.l.length cn) ∧ w'.cell? ⟨g, o + k * 2, none⟩ = some (.slice ay y.p.length cy)) wr.drew := ⟨e0, e1, c0⟩
          refine AnyH_takeD (fun _ => trivial) (by kernel_rfl) 0 14 (.bool false) rfl rfl (by kernel_rfl) (by kernel_rfl) (by kernel_rfl) (fun _ _ _ h => h) (.inl ⟨by kernel_rfl, fun w' hs => ?_⟩) hS0 ?_
          · go_simp
          refine AnyH_takeD (fun _ => trivial) (by kernel_rfl) 1 15 (.bool true) rfl rfl (by kernel_rfl) (by kernel_rfl) (by kernel_rfl) (fun _ _ _ h => h) (.inl ⟨by kernel_rfl, fun w' hs => ?_⟩) hS0 ?_
          · go_simp
          refine AnyH_takeD (fun _ => trivial) (by kernel_rfl) 2 16 (.bool true) rfl rfl (by kernel_rfl) (by kernel_rfl) (by kernel_rfl) (fun _ _ _ h => h) (.inl ⟨by kernel_rfl, fun w' hs => ?_⟩) hS0 ?_
          · go_simp
          refine AnyH_takeD (fun _ => trivial) (by kernel_rfl) 3 17 (.pointer (some ⟨B0, 0, none⟩)) rfl rfl (by kernel_rfl) (by kernel_rfl) (by kernel_rfl) (fun _ _ _ h => h) (.inl ⟨by kernel_rfl, fun w' hs => ?_⟩) hS0 ?_
          · go_simp
          refine AnyH_takeD (fun _ => trivial) (by kernel_rfl) 4 18 (.slice ap x.p.length cp) rfl rfl (by kernel_rfl) (by kernel_rfl) (by kernel_rfl) (fun _ _ _ h => h) (.inl ⟨by kernel_rfl, fun w' hs => ?_⟩) hS0 ?_
          · go_simp
          refine AnyH_takeD (fun _ => trivial) (by kernel_rfl) 5 19 (.slice (some ⟨g, o, none⟩) l.length cl) rfl rfl (by kernel_rfl) (by kernel_rfl) (by kernel_rfl) (fun _ _ _ h => h) (.inl ⟨by kernel_rfl, fun w' hs => ?_⟩) hS0 ?_
          · go_simp
          refine AnyH_takeD (fun _ => trivial) (by kernel_rfl) 6 20 (.int .i64 k) rfl rfl (by kernel_rfl) (by kernel_rfl) (by kernel_rfl) (fun _ _ _ h => h) (.inl ⟨by kernel_rfl, fun w' hs => ?_⟩) hS0 ?_
          · go_simp
          refine AnyH_takeD (fun _ => trivial) (by kernel_rfl) 7 21 (.pointer (some ⟨g, o + k * 2, none⟩)) rfl rfl (by kernel_rfl) (by kernel_rfl) (by kernel_rfl) (fun _ _ _ h => h) (.inl ⟨by kernel_rfl, fun w' hs => ?_⟩) hS0 ?_
          · go_simp
          refine AnyH_takeD (fun _ => trivial) (by kernel_rfl) 8 22 (.pointer (some ⟨g, o + k * 2, none⟩)) rfl rfl (by kernel_rfl) (by kernel_rfl) (by kernel_rfl) (fun _ _ _ h => h) (.inl ⟨by kernel_rfl, fun w' hs => ?_⟩) hS0 ?_
          · go_simp
          refine AnyH_takeD (fun _ => trivial) (by kernel_rfl) 9 23 (.slice ay y.p.length cy) rfl rfl (by kernel_rfl) (by kernel_rfl) (by kernel_rfl) (fun _ _ _ h => h) (.inl ⟨by kernel_rfl, fun w' hs => ?_⟩) hS0 ?_
          · go_simp
          refine AnyH_one (i := 10) (by kernel_rfl) rfl (by kernel_rfl) (fun K hK => ?_)
          go_simp
          refine ⟨trivial, (callsIn_wide.2 (AH.out _ (Below.refl _ _).drew)).mono ?_⟩
          rintro e w8 ⟨rfl, hb8⟩
          have hb8' : Below wr.heap.size wr w8 := (Below.refl _ _).drew.trans hb8
          have hS8 := HCS.out w8 hb8'
          rw [HTK.out]
          refine hK _ _ ⟨hS8, ?_⟩
          clear hK
          refine AnyH_takeD (fun _ => trivial) (by kernel_rfl) 11 25 (.bool true) rfl rfl (by kernel_rfl) (by kernel_rfl) (by kernel_rfl) (fun _ _ _ h => h) (.inl ⟨by kernel_rfl, fun w' hs => ?_⟩) hS8 ?_
          · go_simp
          refine AnyH_done (by kernel_rfl) ?_
          go_simp
          have hz8 := hb8'.size
          have HB8 := hid (HBW2.out.trans (hb8'.mono (by omega)))
          have hrow8 := hid (hrow.below HSr.out hb8')
          have hS88 : ∀ b, S b → b < w8.heap.size := fun b hb => by have := HSr.out b hb; omega
          have HS88 := hid hS88
          have HC1 := hid (below_cell hb8' (by omega) c1)
          obtain ⟨q0, q1, q2⟩ := hS8
          have q3 := below_cell hb8' (by omega) e1
          clear hS88 hS0 e0 e1 c0 c1
          go_wp2_with (at_builtin; first
            | ((refine (wpList_push (r := rdFl) (e := 159) (S := S) (lo := w.heap.size + 1) rfl _ _ _ rfl i0 _ 48 Tryz.underlying38 hi0 hz0 hz1 hz2 rfl (by omega) rfl (hrow8.out.below HS88.out ((Below.refl _ _).alloc (Nat.le_refl _) _)) hS1.out ?_ x [.slice ap x.p.length cp, .slice an x.l.length cn] w8.heap.size rfl ?_ (HX.out _ (HB8.out.alloc (by omega) _)) ?_ ?_ ?_); (simp; omega); exact heap_alloc_new _ _; (try simp only [List.length_append, List.length_cons, List.length_nil]); (unfold maxLen; omega); (try simp only [List.length_append, List.length_cons, List.length_nil]); omega; intro V1 W1 HR1 HG1 HT1 HL1);
               have hl1 := hid (HL1 _ (((Below.refl w8.heap.size w8).alloc (Nat.le_refl _) _).mono (by omega)));
               have hzl1 := hl1.out.size;
               have y0 := below_cell hl1.out (by omega) q2;
               have y1 := below_cell hl1.out (by omega) HC1.out)
            | (refine (wpList_push (r := rdFl) (e := 159) (S := S) (lo := w.heap.size + 1) rfl _ _ _ rfl i0 _ 48 Tryz.underlying38 hi0 hz0 hz1 hz2 rfl (by omega) rfl (HR1.below (fun b hb => by have := HS88.out b hb; omega) ((Below.refl _ _).alloc (Nat.le_refl _) _)) hS1.out ?_ y [.slice ay y.p.length cy, .slice am y.l.length cm] W1.heap.size rfl ?_ (HY.out _ ((HB8.out.trans (hl1.out.mono (by omega))).alloc (by omega) _)) ?_ ?_ ?_); (simp; omega); exact heap_alloc_new _ _; (try simp only [List.length_append, List.length_cons, List.length_nil]); (unfold maxLen; omega); (try simp only [List.length_append, List.length_cons, List.length_nil]); omega; intro V2 W2 HR2 HG2 HT2 HL2))
          go_roundw
          case rel => exact ⟨k + 1, true, acc ++ [x] ++ [y], by omega, by go_num, rfl, HR2, by simp; omega, hp2, HL2 _ (((hB.out.trans (hb8'.mono (by omega))).trans hl1.out).alloc (by omega) _)⟩
          case measure => simp [intOf]; omega
        · have HTK := hid (decide_eq_false hah)
          have hp2 := HPU.out
          rw [putG, decide_eq_false hah] at hp2
          simp only [Bool.not_false, Bool.and_false, Bool.false_eq_true, if_false] at hp2
          have hp2 := hid hp2
          clear hah
          go_wp2_with fail
          refine (wpIn_wide (n := 9)).1 ?_
          refine region_held (fun w' : World => w'.cell? ⟨B0, 0, none⟩ = some (.slice ap x.p.length cp) ∧ w'.cell? ⟨B0, 1, none⟩ = some (.slice an x.l.length cn) ∧ w'.cell? ⟨g, o + k * 2, none⟩ = some (.slice ay y.p.length cy)) (by kernel_rfl) ?_
          have hS0 : (fun w' : World => w'.cell? ⟨B0, 0, none⟩ = some (.slice ap x.p.length cp) ∧ w'.cell? ⟨B0, 1, none⟩ = some (.slice an x.l.length cn) ∧ w'.cell? ⟨g, o + k * 2, none⟩ = some (.slice ay y.p.length cy)) wr.drew := ⟨e0, e1, c0⟩
          refine AnyH_takeD (fun _ => trivial) (by kernel_rfl) 0 14 (.bool false) rfl rfl (by kernel_rfl) (by kernel_rfl) (by kernel_rfl) (fun _ _ _ h => h) (.inl ⟨by kernel_rfl, fun w' hs => ?_⟩) hS0 ?_
          · go_simp
          refine AnyH_takeD (fun _ => trivial) (by kernel_rfl) 1 15 (.bool true) rfl rfl (by kernel_rfl) (by kernel_rfl) (by kernel_rfl) (fun _ _ _ h => h) (.inl ⟨by kernel_rfl, fun w' hs => ?_⟩) hS0 ?_
          · go_simp
          refine AnyH_takeD (fun _ => trivial) (by kernel_rfl) 2 16 (.bool true) rfl rfl (by kernel_rfl) (by kernel_rfl) (by kernel_rfl) (fun _ _ _ h => h) (.inl ⟨by kernel_rfl, fun w' hs => ?_⟩) hS0 ?_
          · go_simp
          refine AnyH_takeD (fun _ => trivial) (by kernel_rfl) 3 17 (.pointer (some ⟨B0, 0, none⟩)) rfl rfl (by kernel_rfl) (by kernel_rfl) (by kernel_rfl) (fun _ _ _ h => h) (.inl ⟨by kernel_rfl, fun w' hs => ?_⟩) hS0 ?_
          · go_simp
          refine AnyH_takeD (fun _ => trivial) (by kernel_rfl) 4 18 (.slice ap x.p.length cp) rfl rfl (by kernel_rfl) (by kernel_rfl) (by kernel_rfl) (fun _ _ _ h => h) (.inl ⟨by kernel_rfl, fun w' hs => ?_⟩) hS0 ?_
          · go_simp
          refine AnyH_takeD (fun _ => trivial) (by kernel_rfl) 5 19 (.slice (some ⟨g, o, none⟩) l.length cl) rfl rfl (by kernel_rfl) (by kernel_rfl) (by kernel_rfl) (fun _ _ _ h => h) (.inl ⟨by kernel_rfl, fun w' hs => ?_⟩) hS0 ?_
          · go_simp
          refine AnyH_takeD (fun _ => trivial) (by kernel_rfl) 6 20 (.int .i64 k) rfl rfl (by kernel_rfl) (by kernel_rfl) (by kernel_rfl) (fun _ _ _ h => h) (.inl ⟨by kernel_rfl, fun w' hs => ?_⟩) hS0 ?_
          · go_simp
          refine AnyH_takeD (fun _ => trivial) (by kernel_rfl) 7 21 (.pointer (some ⟨g, o + k * 2, none⟩)) rfl rfl (by kernel_rfl) (by kernel_rfl) (by kernel_rfl) (fun _ _ _ h => h) (.inl ⟨by kernel_rfl, fun w' hs => ?_⟩) hS0 ?_
          · go_simp
          refine AnyH_takeD (fun _ => trivial) (by kernel_rfl) 8 22 (.pointer (some ⟨g, o + k * 2, none⟩)) rfl rfl (by kernel_rfl) (by kernel_rfl) (by kernel_rfl) (fun _ _ _ h => h) (.inl ⟨by kernel_rfl, fun w' hs => ?_⟩) hS0 ?_
          · go_simp
          refine AnyH_takeD (fun _ => trivial) (by kernel_rfl) 9 23 (.slice ay y.p.length cy) rfl rfl (by kernel_rfl) (by kernel_rfl) (by kernel_rfl) (fun _ _ _ h => h) (.inl ⟨by kernel_rfl, fun w' hs => ?_⟩) hS0 ?_
          · go_simp
          refine AnyH_one (i := 10) (by kernel_rfl) rfl (by kernel_rfl) (fun K hK => ?_)
          go_simp
          refine ⟨trivial, (callsIn_wide.2 (AH.out _ (Below.refl _ _).drew)).mono ?_⟩
          rintro e w8 ⟨rfl, hb8⟩
          have hb8' : Below wr.heap.size wr w8 := (Below.refl _ _).drew.trans hb8
          have hS8 := HCS.out w8 hb8'
          rw [HTK.out]
          refine hK _ _ ⟨hS8, ?_⟩
          clear hK
          refine AnyH_takeD (fun _ => trivial) (by kernel_rfl) 11 25 (.bool false) rfl rfl (by kernel_rfl) (by kernel_rfl) (by kernel_rfl) (fun _ _ _ h => h) (.inl ⟨by kernel_rfl, fun w' hs => ?_⟩) hS8 ?_
          · go_simp
          refine AnyH_done (by kernel_rfl) ?_
          go_simp
          have hz8 := hb8'.size
          have HB8 := hid (HBW2.out.trans (hb8'.mono (by omega)))
          have hrow8 := hid (hrow.below HSr.out hb8')
          have hS88 : ∀ b, S b → b < w8.heap.size := fun b hb => by have := HSr.out b hb; omega
          have HS88 := hid hS88
          have q1 := below_cell hb8' (by omega) c1
          obtain ⟨q0, q3, q2⟩ := hS8
          clear hS88 hS0 e0 e1 c0 c1
          go_wp2_with (at_builtin; (refine (wpList_push (r := rdFl) (e := 159) (S := S) (lo := w.heap.size + 1) rfl _ _ _ rfl i0 _ 48 Tryz.underlying38 hi0 hz0 hz1 hz2 rfl (by omega) rfl (hrow8.out.below HS88.out ((Below.refl _ _).alloc (Nat.le_refl _) _)) hS1.out ?_ y [.slice ay y.p.length cy, .slice am y.l.length cm] w8.heap.size rfl ?_ (HY.out _ (HB8.out.alloc (by omega) _)) ?_ ?_ ?_); (simp; omega); exact heap_alloc_new _ _; (try simp only [List.length_append, List.length_cons, List.length_nil]); (unfold maxLen; omega); (try simp only [List.length_append, List.length_cons, List.length_nil]); omega; intro V1 W1 HR1 HG1 HT1 HL1))
          go_roundw
          case rel => exact ⟨k + 1, false, acc ++ [y], by omega, by go_num, rfl, HR1, by simp; omega, hp2, HL1 _ ((hB.out.trans (hb8'.mono (by omega))).alloc (by omega) _)⟩
          case measure => simp [intOf]; omega
    · have hlt' : ¬ (k : Int) < (l.length : Int) := by omega
      obtain rfl : k = l.length := by omega
      have hp1 := hput.out
      have hpg := HPG.out
      rw [List.drop_length] at hp1
      rw [hp1, List.nil_append] at hpg
      have hSr : ∀ b, S b → b < wr.heap.size := fun b hb => by have := HS.out b hb; omega
      have HBW2 := hid hBw
      cases d with
      | true =>
        simp only [putG, if_true] at hpg
        subst hpg
        go_wp2_with fail
        go_ret
        have hbb := HB0.out
        subst hbb
        exact ⟨_, rfl, hrow, HBW2.out⟩
      | false =>
        simp only [putG, Bool.false_eq_true, if_false] at hpg
        have HPGG := hid hpg
        have hrow2 := hid hrow
        clear hpg hp1
        go_wp2_with (at_builtin; (refine (wpList_push (r := rdFl) (e := 159) (S := S) (lo := w.heap.size + 1) rfl _ _ _ rfl i0 _ 48 Tryz.underlying38 hi0 hz0 hz1 hz2 rfl (by omega) rfl (hrow2.out.below hSr ((Below.refl _ _).alloc (Nat.le_refl _) _)) hS1.out ?_ x [.slice ap x.p.length cp, .slice an x.l.length cn] wr.heap.size rfl ?_ (HX.out _ (HBW2.out.alloc (by omega) _)) ?_ ?_ ?_); (simp; omega); exact heap_alloc_new _ _; (try simp only [List.length_append, List.length_cons, List.length_nil]); (unfold maxLen; omega); (try simp only [List.length_append, List.length_cons, List.length_nil]); omega; intro V1 W1 HR1 HG1 HT1 HL1))
        go_ret
        have hbb := HB0.out
        subst hbb
        refine ⟨_, rfl, by rw [← HPGG.out]; exact HR1, (HBW.out.trans ((HL1 _ (hB.out.alloc (by omega) _)).mono (by omega)))⟩
end Go.Proofs.LF
