/- Parts of the proof of a law of layer 11 (file): LfW57. The conditions stand in each theorem. -/
import Derived.BigQuiet
import Derived.Deep.AppendLies
import Derived.Deep.Cut
import Derived.Deep.CutBlock
import Derived.Deep.CutRange
import Derived.Deep.QuietTactic
import Derived.Deep.RegionHeld3
import Derived.Laws.ResultCell
import Derived.Outline
import Derived.Test.YtadkpjgpefcphaaGreatDoorProg
import Derived.WalkKit
import Derived.WalkLawsBesides
import Derived.WalkSpells
import Derived.Test.YtadkpjgpefcphaaGreatDoorCpam
import Derived.Test.YtadkpjgpefcphaaGreatDoorCpan
set_option linter.all false
set_option linter.unusedVariables false
set_option linter.unusedSimpArgs false
namespace Go.Proofs.LF
open Go.RowKit
set_option maxHeartbeats 4000000
set_option maxRecDepth 100000
attribute [local go_sem] bs_toList bs_size bs_get
theorem enters110 : ∀ (args : Array Value) (W : World), (callFunc 110 args).run Tryz.prog W = .ok (.enter 110 args) W := by
  intro args W
  simp [go_sem]
theorem eqNodesR_any (m : Nat) (hcl : NodeEqC 110 m) (y z : Fo) (ay : Option Addr) (cy : Nat) (az : Option Addr) (cz : Nat) (S : Nat → Prop) (w : World) (hm : y.cnt < m + 1) (hy : FSl S w (.slice ay y.len cy) y) (hz : FSl S w (.slice az z.len cz) z) (hS : ∀ b, S b → b < w.heap.size) (ly : y.len ≤ 1000) (lz : z.len ≤ 1000) (sy : y.Sm) (sz : z.Sm) :
    Calls Tryz.prog 109 #[.slice ay y.len cy, .slice az z.len cz, .func (.func 110) #[] #[]] w fun e w' => e = .returned (.bool (decide (y = z))) ∧ Below w.heap.size w w' := by
  obtain ⟨_, _, he, hc, hm1, hat⟩ := hy.at
  cases he
  obtain ⟨_, _, he, hc', hm2, hat'⟩ := hz.at
  cases he
  unfold maxLen at hm1 hm2
  have HC := hid hcl
  clear hcl
  have hE := enters110
  by_cases hne : y.len = z.len
  · have hne' : ((y.len : Int) != (z.len : Int)) = false := by simp; omega
    have HN := hid hne
    clear hne
    go_enter Tryz.func109, Tryz.ntmps109
    go_wp2_with fail
    go_loopw [17] (fun i wr => ∃ k : Nat, k ≤ y.len ∧ i = .int .i64 k ∧ Hid (y.take k = z.take k) ∧ Below w.heap.size w wr) (fun i _ => y.len - (intOf i).toNat)
    case atStart => exact ⟨0, by omega, rfl, by simp [Hid, Fo.take], Below.refl _ _⟩
    case round =>
      obtain ⟨k, hk, rfl, H2, hB⟩ := hrel
      have HAT := hid hat
      have HAT' := hid hat'
      clear hat hat'
      by_cases hlt : k < y.len
      · obtain ⟨g, o, n, l, s, r, an, cn, ab, cb, rfl, hg1, hd, hc0, hc1, hc2, hI, hF⟩ := HAT.out k hlt
        obtain ⟨g', o', n', l', s', r', an', cn', ab', cb', rfl, hg1', hd', hc0', hc1', hc2', hI', hF'⟩ := HAT'.out k (by have := HN.out; omega)
        have hlt' : (k : Int) < (z.len : Int) := by have := HN.out; omega
        have ha : Agree S w wr := Agree.of_below hB hS
        have c0 := ha.cell hg1 hc0
        have c1 := ha.cell hg1 hc1
        have c2 := ha.cell hg1 hc2
        have d0 := ha.cell hg1' hc0'
        have d1 := ha.cell hg1' hc1'
        have d2 := ha.cell hg1' hc2'
        obtain ⟨s1, s2, s3, s4, _⟩ : n.length ≤ 1000 ∧ l.length ≤ 1000 ∧ s.len ≤ 1000 ∧ s.Sm ∧ r.Sm := by have := sy.drop (i := k); rwa [hd] at this
        obtain ⟨p1, p2, p3, p4, _⟩ : n'.length ≤ 1000 ∧ l'.length ≤ 1000 ∧ s'.len ≤ 1000 ∧ s'.Sm ∧ r'.Sm := by have := sz.drop (i := k); rwa [hd'] at this
        have s5 := Fo.cnt_at hd
        have HD := hid hd
        have HD' := hid hd'
        have hsz := hB.size
        have lg := hS _ hg1'
        have lg' : g' < wr.heap.size := by omega
        have hbx : Below w.heap.size w (wr.alloc (.cells #[.string (bs n), .slice an l.length cn, .slice ab s.len cb] 85)) := hB.alloc hsz _
        have e0 := (Agree.of_below hbx hS).cell hg1' hc0'
        have e1 := (Agree.of_below hbx hS).cell hg1' hc1'
        have e2 := (Agree.of_below hbx hS).cell hg1' hc2'
        clear hbx
        clear hc0 hc1 hc2 hd hc0' hc1' hc2' hd'
        go_wp2_with fail
        have hb2 : Below w.heap.size w ((wr.alloc (.cells #[.string (bs n), .slice an l.length cn, .slice ab s.len cb] 85)).alloc (.cells #[.string (bs n'), .slice an' l'.length cn', .slice ab' s'.len cb'] 97)) := (hB.alloc hsz _).alloc (by simp; omega) _
        have ha2 := Agree.of_below hb2 hS
        have HB2 := hid hb2
        refine (HC.out n l s an cn ab cb n' l' s' an' cn' ab' cb' S _ (by omega) (hI.agree ha2) (hF.agree ha2) (hI'.agree ha2) (hF'.agree ha2) (fun b h => by have := hS b h; simp; omega) s2 s3 s4 p2 p3 p4).mono ?_
        rintro e w1 ⟨rfl, hb1⟩
        clear hb2 ha2
        by_cases he : n = n' ∧ l = l' ∧ s = s'
        · have he' : decide (n = n' ∧ l = l' ∧ s = s') = true := decide_eq_true he
          have HE := hid he
          clear he
          rw [he']
          go_wp2_with fail
          go_roundw
          case rel => exact ⟨k + 1, by omega, by go_num, by obtain ⟨rfl, rfl, rfl⟩ := HE.out; exact Fo.take_eq HD.out HD'.out H2.out, HB2.out.trans (hb1.mono HB2.out.size)⟩
          case measure => simp [intOf]; omega
        · have he' : decide (n = n' ∧ l = l' ∧ s = s') = false := decide_eq_false he
          have HE := hid he
          clear he
          rw [he']
          go_wp2_with fail
          go_ret
          refine ⟨ret_bool ?_, HB2.out.trans (hb1.mono HB2.out.size)⟩
          symm
          rw [decide_eq_false_iff_not]
          exact fun e => HE.out (Fo.drop_eq HD.out HD'.out e)
      · go_wp2_with fail
        go_ret
        obtain rfl : k = y.len := by omega
        refine ⟨ret_bool ?_, hB⟩
        symm
        have := H2.out
        rw [Fo.take_len, HN.out, Fo.take_len] at this
        exact decide_eq_true this
  · have hne' : ((y.len : Int) != (z.len : Int)) = true := by simp; omega
    have HN := hid hne
    clear hne
    go_enter Tryz.func109, Tryz.ntmps109
    go_wp2_with fail
    go_ret
    refine ⟨ret_bool ?_, Below.refl _ _⟩
    symm
    rw [decide_eq_false_iff_not]
    rintro rfl
    exact HN.out rfl
theorem sameNodes_any (m : Nat) : NodeEqC 110 m ∧ ∀ (y z : Fo) (ay : Option Addr) (cy : Nat) (az : Option Addr) (cz : Nat) (S : Nat → Prop) (w : World), y.cnt < m → FSl S w (.slice ay y.len cy) y → FSl S w (.slice az z.len cz) z → (∀ b, S b → b < w.heap.size) → y.len ≤ 1000 → z.len ≤ 1000 → y.Sm → z.Sm →
    Calls Tryz.prog 28 #[.slice ay y.len cy, .slice az z.len cz] w fun e w' => e = .returned (.bool (decide (y = z))) ∧ Below w.heap.size w w' := by
  induction m with
  | zero => exact ⟨fun _ _ _ _ _ _ _ _ _ _ _ _ _ _ _ _ h => by omega, fun _ _ _ _ _ _ _ _ h => by omega⟩
  | succ m ih =>
    have key : ∀ (y z : Fo) (ay : Option Addr) (cy : Nat) (az : Option Addr) (cz : Nat) (S : Nat → Prop) (w : World), y.cnt < m + 1 → FSl S w (.slice ay y.len cy) y → FSl S w (.slice az z.len cz) z → (∀ b, S b → b < w.heap.size) → y.len ≤ 1000 → z.len ≤ 1000 → y.Sm → z.Sm →
        Calls Tryz.prog 28 #[.slice ay y.len cy, .slice az z.len cz] w fun e w' => e = .returned (.bool (decide (y = z))) ∧ Below w.heap.size w w' := by
      intro y z ay cy az cz S w hm hy hz hS ly lz sy sz
      have hq := eqNodesR_any m ih.1 y z ay cy az cz S w hm hy hz hS ly lz sy sz
      have HQ := hid hq
      clear hq ih
      go_enter Tryz.func28, Tryz.ntmps28
      go_wp2_with fail
      refine HQ.out.mono ?_
      rintro e w1 ⟨rfl, hb1⟩
      go_wp2_with fail
      go_ret
      exact ⟨rfl, hb1⟩
    refine ⟨?_, key⟩
    have KEY := hid key
    clear key ih
    intro n l s an cn ab cb n' l' s' an' cn' ab' cb' S w hm hI hF hI' hF' hS l1 l2 sm1 l3 l4 sm2
    have hb : Below w.heap.size w ((w.alloc (.cells #[.string (bs n), .slice an l.length cn, .slice ab s.len cb] 85)).alloc (.cells #[.string (bs n'), .slice an' l'.length cn', .slice ab' s'.len cb'] 97)) := ((Below.refl _ _).alloc (Nat.le_refl _) _).alloc (by simp) _
    have HB := hid hb
    clear hb
    by_cases h1 : n = n'
    · have t1 : (n == n') = true := by simpa using h1
      have H1 := hid h1
      clear h1
      go_enter Tryz.func110, Tryz.ntmps110
      go_wp2_with fail
      refine (eqInts_any l l' an an' cn cn' S _ (hI.agree (Agree.of_below HB.out hS)) (hI'.agree (Agree.of_below HB.out hS)) (by omega) (by omega)).mono ?_
      rintro e w1 ⟨rfl, hb1⟩
      have x2 := below_cell hb1 (b := w.heap.size) (o := 2) (v := .slice ab s.len cb) (by simp; omega) (by simp)
      have x2' := below_cell hb1 (b := w.heap.size + 1) (o := 2) (v := .slice ab' s'.len cb') (by simp) (by simp)
      have HB1 := hid (HB.out.trans (hb1.mono HB.out.size))
      by_cases h2 : l = l'
      · have t2 : decide (l = l') = true := decide_eq_true h2
        have H2 := hid h2
        clear h2
        rw [t2]
        go_wp2_with fail
        refine (KEY.out s s' ab cb ab' cb' S _ hm (hF.agree (Agree.of_below HB1.out hS)) (hF'.agree (Agree.of_below HB1.out hS)) (fun b h => by have := hS b h; have := HB1.out.size; omega) l2 l4 sm1 sm2).mono ?_
        rintro e w2 ⟨rfl, hb2⟩
        go_wp2_with fail
        go_ret
        exact ⟨ret_bool (by have := H1.out; have := H2.out; subst n'; subst l'; simp), HB1.out.trans (hb2.mono HB1.out.size)⟩
      · have t2 : decide (l = l') = false := decide_eq_false h2
        have H2 := hid h2
        clear h2
        rw [t2]
        go_wp2_with fail
        go_ret
        exact ⟨ret_bool (by symm; rw [decide_eq_false_iff_not]; exact fun e => H2.out e.2.1), HB1.out⟩
    · have t1 : (n == n') = false := by simpa using h1
      have H1 := hid h1
      clear h1
      go_enter Tryz.func110, Tryz.ntmps110
      go_wp2_with fail
      go_ret
      exact ⟨ret_bool (by symm; rw [decide_eq_false_iff_not]; exact fun e => H1.out e.1), HB.out⟩
end Go.Proofs.LF
