/- Parts of the proof of a law of layer 11 (file): LfW31. The conditions stand in each theorem. -/
import Derived.BigQuiet
import Derived.Deep.AppendLies
import Derived.Deep.QuietTactic
import Derived.Deep.RegionHeld3
import Derived.Laws.ResultCell
import Derived.Outline
import Derived.Shelf.Spec.SlicesGrow
import Derived.Test.YtadkpjgpefcphaaGreatDoorProg
import Derived.WalkKit
import Derived.WalkLawsBesides
import Derived.WalkSpells
import Derived.Test.YtadkpjgpefcphaaGreatDoorYrac
import Derived.Test.YtadkpjgpefcphaaGreatDoorYraw
set_option linter.all false
set_option linter.unusedVariables false
set_option linter.unusedSimpArgs false
namespace Go.Proofs
def Tryz.laysGrow_ren : Go.Shelf.Ren := ⟨fun | 4 => 228 | n => n, fun | 22 => 167 | 25 => 171 | 3 => 3 | 4 => 4 | 9 => 9 | 0 => 0 | 20 => 20 | n => n, fun | n => n⟩
theorem Tryz.laysGrow : Go.Proofs.Lays8.n4 Tryz.prog Tryz.laysGrow_ren := {
  mixed := by kernel_rfl
  f4 := ⟨Tryz.f228.name, by decide, Tryz.func228.trans (congrArg some (by kernel_rfl))⟩
  t0 := Tryz.underlying0
  a0 := Tryz.isAgg0
  z0 := Tryz.sizeOf0
  v0 := Tryz.zeroValue0
  t3 := Tryz.underlying3
  a3 := Tryz.isAgg3
  z3 := Tryz.sizeOf3
  v3 := Tryz.zeroValue3
  t4 := Tryz.underlying4
  a4 := Tryz.isAgg4
  z4 := Tryz.sizeOf4
  v4 := Tryz.zeroValue4
  t9 := Tryz.underlying9
  a9 := Tryz.isAgg9
  z9 := Tryz.sizeOf9
  v9 := Tryz.zeroValue9
  t20 := Tryz.underlying20
  a20 := Tryz.isAgg20
  z20 := Tryz.sizeOf20
  v20 := Tryz.zeroValue20
  t22 := Tryz.underlying167
  a22 := Tryz.isAgg167
  z22 := Tryz.sizeOf167
  v22 := Tryz.zeroValue167 }
namespace LF
open Go.RowKit Go.Sort
set_option maxHeartbeats 4000000
set_option maxRecDepth 100000
attribute [local go_sem] bs_toList bs_size bs_get
def rdLs : Rd (List Fl) 1 where
  R S w x cs := ∃ ap cp, cs = [.slice ap x.length cp] ∧ FlSl S w (.slice ap x.length cp) x
  len := by rintro S w x cs ⟨_, _, rfl, _⟩; rfl
  one := by rintro S w x cs ⟨_, _, rfl, _⟩ u hu; simp at hu; rcases hu with rfl; rfl
  agree := by rintro S w w' x cs ⟨a, b, rfl, h1⟩ ha; exact ⟨a, b, rfl, h1.agree ha⟩
  wide := by rintro S w w' x cs ⟨a, b, rfl, h1⟩ ha; exact ⟨a, b, rfl, h1.wide ha⟩
theorem growNil_any (n : Nat) (w : World) (hn : n ≤ 1000000) : Calls Tryz.prog 228 #[.slice none 0 0, .int .i64 n] w fun e w' => ∃ v, e = .returned v ∧ w'.ownsRow w.heap.size 171 2 v 0 [] ∧ Below w.heap.size w w' := by
  by_cases h0 : n = 0
  · subst h0
    refine (Any8.slices_Grow_room Tryz.laysGrow none 0 0 0 w (Nat.le_refl _) (by omega) (by omega) (by omega)).mono ?_
    rintro e w' ⟨rfl, rfl⟩
    exact ⟨_, rfl, World.ownsRow_nil _ _ _ _, Below.refl _ _⟩
  · obtain ⟨i0, hi0, hz0, hz1, hz2⟩ := info_parts Tryz.info171''
    refine (Any8.slices_Grow_grow Tryz.laysGrow i0 _ hi0 hz0 (by rw [hz1]; omega) none 0 0 n [] w (Nat.le_refl _) (by omega) (by rw [hz2]; omega) (by omega) (by simp) (fun _ => rfl) (fun a h => by cases h)).mono ?_
    rintro e w' ⟨rfl, rfl⟩
    refine ⟨_, rfl, ?_, ((Below.refl w.heap.size w).drew).alloc (Nat.le_refl _) _⟩
    have hge := grownCap_ge w (0 + n) 0 171
    have hle := grownCap_le_maxLen w (0 + n) 0 171 (by unfold maxLen; omega)
    exact owns_of_row (g := w.heap.size) (cap := grownCap w (0 + n) 0 171) (Nat.le_refl _) (heap_alloc_new w.drew _) (Nat.zero_le _) hle (by have e25 : Tryz.laysGrow_ren.t 25 = 171 := rfl; simp only [Nat.zero_add] at hge hle; simp [Builtin.zeroCells, Value.cells, e25]; omega) (by simp)
theorem concat_any (ls : List (List Fl)) (a : Option Addr) (c : Nat) (S : Nat → Prop) (w : World) (hv : LSl rdLs S w (.slice a ls.length c) ls) (hS : ∀ b, S b → b < w.heap.size) (hl : ls.length ≤ 1000) (hn : (ls.map List.length).sum ≤ 100000) :
    Calls Tryz.prog 195 #[.slice a ls.length c] w fun e w' => ∃ a' c', e = .returned (.slice a' ls.flatten.length c') ∧ FlSl (fun b => S b ∨ Rg w.heap.size w'.heap.size b) w' (.slice a' ls.flatten.length c') ls.flatten ∧ Below w.heap.size w w' := by
  obtain ⟨a', c', he, hc, hcm, hat⟩ := hv.at
  obtain ⟨rfl, rfl⟩ : a = a' ∧ c = c' := by cases he; exact ⟨rfl, rfl⟩
  obtain ⟨i0, hi0, hz0, hz1, hz2⟩ := info_parts Tryz.info171''
  have HAT := hid hat
  have HS := hid hS
  have HN := hid hn
  clear hat hS he hv hn
  unfold maxLen at hcm
  have hsum : ∀ k, ((ls.take k).map List.length).sum ≤ 100000 := fun k => by
    have h1 := HN.out
    have : (ls.map List.length).sum = ((ls.take k).map List.length).sum + ((ls.drop k).map List.length).sum := by
      rw [← List.sum_append, ← List.map_append, List.take_append_drop]
    omega
  have HSUM := hid hsum
  clear hsum
  go_enter Tryz.func195, Tryz.ntmps195
  go_wp2_with fail
  go_loopw [3, 11] (fun sz i wr => ∃ k : Nat, k ≤ ls.length ∧ i = .int .i64 k ∧ sz = .int .i64 (((ls.take k).map List.length).sum : Nat) ∧ Below w.heap.size w wr) (fun _ i _ => ls.length - (intOf i).toNat)
  case atStart => exact ⟨0, by omega, rfl, by simp, Below.refl _ _⟩
  case round =>
    obtain ⟨k, hk, rfl, rfl, hB⟩ := hrel
    have hsz := hB.size
    have hs1 := HSUM.out k
    by_cases hlt : k < ls.length
    · have hlt' : (k : Int) < (ls.length : Int) := by omega
      obtain ⟨g, o, cs1, rfl, hg, ⟨ap, cp, rfl, hF⟩, hcell⟩ := HAT.out k hlt
      have c0 := (Agree.of_below hB HS.out).cell hg (hcell 0 _ rfl)
      rw [Nat.mul_one, Nat.add_zero] at c0
      have hs2 := HSUM.out (k + 1)
      have hst : ((ls.take (k + 1)).map List.length).sum = ((ls.take k).map List.length).sum + ls[k].length := by
        rw [List.take_succ_eq_append_getElem hlt, List.map_append, List.sum_append]; simp only [List.map_cons, List.map_nil, List.sum_cons, List.sum_nil, Nat.add_zero]
      obtain ⟨s1, hs⟩ : ∃ s, ((ls.take k).map List.length).sum = s := ⟨_, rfl⟩
      rw [hs] at hst hs1 ⊢
      rw [hst] at hs2
      have hnn : ¬ ((s1 : Int) + (ls[k].length : Int) < 0) := by omega
      have HST := hid hst
      clear hst hcell hs
      go_wp2_with fail
      go_roundw
      case rel => exact ⟨k + 1, by omega, by go_num, by rw [HST.out]; go_num, hB⟩
      case measure => simp [intOf]; omega
    · obtain rfl : k = ls.length := by omega
      have hlt' : ¬ (ls.length : Int) < (ls.length : Int) := by omega
      rw [List.take_length] at *
      obtain ⟨s1, hs⟩ : ∃ s, (ls.map List.length).sum = s := ⟨_, rfl⟩
      rw [hs] at hs1 ⊢
      go_wp2_with fail
      refine (growNil_any s1 wr (by omega)).mono ?_
      rintro e w1 ⟨v1, rfl, how1, hb1⟩
      have hB1 := hB.trans (hb1.mono hsz)
      have how1 : w1.ownsRow w.heap.size 171 2 v1 0 [] := owns_base how1 (fun g hg => by have := (how1.lt g hg).1; omega)
      have HOW1 := hid how1
      have HB1 := hid hB1
      clear how1 hb1 hB1 hB
      go_wp2_with fail
      go_loopw [6, 27] (fun v i wr => ∃ (k : Nat) (cs : List Value), k ≤ ls.length ∧ i = .int .i64 k ∧ wr.ownsRow w.heap.size 171 2 v (ls.take k).flatten.length cs ∧ LCs rdFl (fun b => S b) wr (ls.take k).flatten cs ∧ Below w.heap.size w wr) (fun _ i _ => ls.length - (intOf i).toNat)
      case atStart => exact ⟨0, [], by omega, rfl, by simpa using HOW1.out, rfl, HB1.out⟩
      case round =>
        obtain ⟨k, cs, hk, rfl, hown, hlc, hB⟩ := hrel
        have hsz2 := hB.size
        by_cases hlt : k < ls.length
        · have hlt' : (k : Int) < (ls.length : Int) := by omega
          obtain ⟨g, o, cs1, rfl, hg, ⟨ap, cp, rfl, hF⟩, hcell⟩ := HAT.out k hlt
          have c0 := (Agree.of_below hB HS.out).cell hg (hcell 0 _ rfl)
          rw [Nat.mul_one, Nat.add_zero] at c0
          obtain ⟨ds, hd1, hd2⟩ := hF
          have hcap := SlC.caps hd1
          have hnews := SlC.news hd1 (Agree.of_below hB HS.out)
          have hone := hd2.one
          have hlen := hd1.1
          have hfl : (ls.take k).flatten.length = ((ls.take k).map List.length).sum := List.length_flatten
          have hfl2 : (ls.take (k + 1)).flatten.length = (ls.take k).flatten.length + ls[k].length := by
            rw [List.take_succ_eq_append_getElem hlt, List.flatten_append]; simp
          have hs2 := HSUM.out (k + 1)
          rw [← List.length_flatten, hfl2] at hs2
          have HN2 := hid hnews
          have HD2 := hid (hd2.agree (Agree.of_below hB HS.out))
          have HO := hid hone
          have HL := hid hlen
          have HFL := hid hfl2
          have HLC := hid hlc
          obtain ⟨q, hq⟩ : ∃ q, (ls.take k).flatten.length = q := ⟨_, rfl⟩
          rw [hq] at hown hs2
          have HQ := hid hq
          have hcapn : ap = none → ls[k].length = 0 ∧ cp = 0 := hcap.2.2
          have HCN := hid hcapn
          clear hcell hd1 hd2 hnews hone hlen hfl hfl2 hlc hq hcap hcapn
          go_wp2_with (at_builtin; refine (wpList_append_ao _ rfl _ _ _ rfl w.heap.size 171 i0 _ 2 48 Tryz.underlying167 hi0 hz0 hz1 hz2 rfl (by omega) u6 q cs rfl hown ap ls[k].length cp ds rfl HL.out HCN.out HN2.out HO.out (by unfold maxLen; omega) (by omega) hsz2 ?_); intro a4 c4 w4 hown4 hgrow4 hat4)
          have hag : Agree S wr w4 := fun b hb => hgrow4.block b (by have := HS.out b hb; omega) (fun e => by have := (hown.lt b e.symm).1; have := HS.out b hb; omega)
          have hm := (HLC.out.agree hag).app (HD2.out.agree hag)
          have hfe : (ls.take (k + 1)).flatten = (ls.take k).flatten ++ ls[k] := by
            rw [List.take_succ_eq_append_getElem hlt, List.flatten_append]; simp
          have hB4 := hB.grown hgrow4 hsz2 (fun k hk => (hown.lt k hk).1)
          go_roundw
          case rel => exact ⟨k + 1, cs ++ ds, by omega, by go_num, by rw [HFL.out, HQ.out]; exact hown4, by rw [hfe]; exact hm, hB4⟩
          case measure => simp [intOf]; omega
        · obtain rfl : k = ls.length := by omega
          have hlt' : ¬ (ls.length : Int) < (ls.length : Int) := by omega
          rw [List.take_length] at hown hlc
          obtain ⟨a9, c9, rfl, _, _⟩ := owns_shape hown
          go_wp2_with fail
          go_ret
          have hq : ls.flatten.length = s1 := by rw [List.length_flatten, hs]
          exact ⟨a9, c9, by simp [hq], ⟨cs, by have := (SlC.of_owns hown).wide (S' := fun b => S b ∨ Rg w.heap.size wr.heap.size b) (fun b hb => Or.inr hb); simp only [hq] at this ⊢; exact this, hlc.wide (S' := fun b => S b ∨ Rg w.heap.size wr.heap.size b) (fun b hb => Or.inl hb)⟩, hB⟩
end LF
end Go.Proofs
