/- Parts of the proof of a law of layer 11 (file): LfW89. The conditions stand in each theorem. -/
import Derived.BigQuiet
import Derived.Deep.AppendLies
import Derived.Deep.Cut
import Derived.Deep.CutBlock
import Derived.Deep.CutRange
import Derived.Deep.QuietTactic
import Derived.Deep.RegionHeld3
import Derived.Laws.ResultCell
import Derived.Outline
import Derived.Test.YtadkpjgpefcphaaGreatDoorProg
import Derived.WalkKit
import Derived.WalkLawsBesides
import Derived.WalkSpells
import Derived.Test.YtadkpjgpefcphaaGreatDoorPuaf
import Derived.Test.YtadkpjgpefcphaaGreatDoorPubq
import Derived.Test.YtadkpjgpefcphaaGreatDoorPubs
set_option linter.all false
set_option linter.unusedVariables false
set_option linter.unusedSimpArgs false
namespace Go.Proofs.LF
open Go.RowKit Go.Sort
set_option maxHeartbeats 4000000
set_option maxRecDepth 100000
attribute [local go_sem] bs_toList bs_size bs_get
def caN : List UInt8 := [99, 97, 114, 116]
theorem made2_c (W w1 : World) (h : PAt W w1) : Calls Tryz.prog 37 #[.pointer (some ⟨W.heap.size, 0, none⟩), .int .i64 2] w1 fun e w' => ∃ y a c, e = .returned (.slice a y.len c) ∧ FRow (W.heap.size + 1) w' (.slice a y.len c) y ∧ (OkF 1 y ∧ y.len ≤ 6) ∧ Below W.heap.size W w' := by
  obtain ⟨h1, h2, h3⟩ := h
  refine (Made_row 2 W.heap.size _ w1 (by omega) (by omega) h1 (by omega) (fun q hq => by omega)).mono ?_
  rintro e w' ⟨y, a, c, he, hF, ho, hl, _, _, hk⟩
  rw [h2] at hF
  exact ⟨y, a, c, he, hF, ⟨ho, hl⟩, h3.trans (Keep.below hk (by omega) (fun b hb => by omega))⟩
theorem AnyH_three {F : Fence} {n : Nat} {P : Program} {ops : Array Oper} {Q : Exit → Act → World → Prop} {md : Region.Mode} {S : World → Prop} {i j k : Nat} {oi oj ok : Oper} {fuel : Nat} {listed : Array Bool} {a : Act} {w : World} (hr : Region.ready md ops listed = [i, j, k]) (hi : ops[i]? = some oi) (hj : ops[j]? = some oj) (hk : ops[k]? = some ok)
    (hwi : Region.wanted oi (yielded ops a.tmps) = true) (hwj : Region.wanted oj (yielded ops a.tmps) = true) (hwk : Region.wanted ok (yielded ops a.tmps) = true)
    (h1 : ∀ K : Act → World → Prop, (∀ a w, S w ∧ AnyH F n P md ops Q S fuel (listed.setIfInBounds i true) a w → K a w) → Oper.wpIn F n P oi a w K Q)
    (h2 : ∀ K : Act → World → Prop, (∀ a w, S w ∧ AnyH F n P md ops Q S fuel (listed.setIfInBounds j true) a w → K a w) → Oper.wpIn F n P oj a w K Q)
    (h3 : ∀ K : Act → World → Prop, (∀ a w, S w ∧ AnyH F n P md ops Q S fuel (listed.setIfInBounds k true) a w → K a w) → Oper.wpIn F n P ok a w K Q) : AnyH F n P md ops Q S (fuel + 1) listed a w :=
  ⟨fun h0 => (by rw [hr] at h0; cases h0), hr ▸ fun x hx => by
    simp only [List.mem_cons, List.not_mem_nil, or_false] at hx
    rcases hx with rfl | rfl | rfl
    · unfold wpOpIn
      rw [hi]
      simp only [hwi, if_true]
      exact h1 _ fun _ _ h => h
    · unfold wpOpIn
      rw [hj]
      simp only [hwj, if_true]
      exact h2 _ fun _ _ h => h
    · unfold wpOpIn
      rw [hk]
      simp only [hwk, if_true]
      exact h3 _ fun _ _ h => h⟩
theorem blk_on {w w' : World} {b : Nat} {o : Obj} (h : w.heap[b]? = some o) (hb : Below w.heap.size w w') : w'.heap[b]? = some o := (hb.block b (Array.getElem?_eq_some_iff.1 h).1).trans h
theorem noS_read {S S' : Nat → Prop} {w w' : World} (ha : Agree S w w') (hS : ∀ b, S b → S' b) : ∀ {y : Fo} {cs cs' : List Value}, FCs S w y cs → cs'.length = cs.length → (∀ q, q < cs.length → cs'[q]? = if q % 3 = 2 then some (.slice none 0 0) else cs[q]?) → FCs S' w' (noS y) cs'
  | .nil, cs, cs', h, hl, _ => by
    rw [show cs = [] from h] at hl
    exact List.eq_nil_of_length_eq_zero hl
  | .cons n l s r, cs, cs', ⟨vn, vs, ds, h1, h2, _, h4⟩, hl, hq => by
    subst h1
    match cs', hl, hq with
    | [], hl, _ => simp at hl
    | [_], hl, _ => simp at hl
    | [_, _], hl, _ => simp at hl
    | a :: b :: c :: ds', hl, hq =>
      have q0 := hq 0 (by simp)
      have q1 := hq 1 (by simp)
      have q2 := hq 2 (by simp)
      simp at q0 q1 q2
      subst q0 q1 q2
      refine ⟨_, _, ds', rfl, (h2.agree ha).wide hS, ⟨[], ⟨rfl, none, 0, rfl, Nat.le_refl _, by simp [maxLen], fun _ => rfl, .inl rfl⟩, rfl⟩, noS_read ha hS h4 (by simpa using hl) fun q hq' => ?_⟩
      have := hq (q + 3) (by simp; omega)
      rw [show (q + 3) % 3 = q % 3 by omega] at this
      simpa using this
theorem noS_sl {B g c : Nat} {w w' : World} {y : Fo} {cs : List Value} {cur cur' : Array Value} (hf : FCs (Rx B w.heap.size (.slice (some ⟨g, 0, none⟩) y.len c)) w y cs) (hl : cs.length = y.len * 3) (hc : y.len ≤ c) (hcm : c ≤ maxLen) (htk : cur.toList.take (y.len * 3) = cs) (hg : w'.heap[g]? = some (.cells cur' 85 (0, 0))) (hs : cur'.size = cur.size)
    (hq : ∀ q, q < y.len * 3 → cur'[q]? = if q % 3 = 2 then some (.slice none 0 0) else cur[q]?) (hz : w.heap.size ≤ w'.heap.size) (ha : ∀ b, B ≤ b → b < w.heap.size → b ≠ g → w'.heap[b]? = w.heap[b]?) : In w' (.slice (some ⟨g, 0, none⟩) (noS y).len c) (noS y) := by
  have hgl : g < w'.heap.size := (Array.getElem?_eq_some_iff.1 hg).1
  have hcs : y.len * 3 ≤ cur.size := by
    have := congrArg List.length htk
    rw [List.length_take, Array.length_toList, hl] at this
    omega
  have hq' : ∀ q, q < cs.length → (cur'.toList.take (y.len * 3))[q]? = if q % 3 = 2 then some (.slice none 0 0) else cs[q]? := fun q h => by
    rw [hl] at h
    rw [List.getElem?_take, if_pos h, Array.getElem?_toList, hq q h]
    split
    · rfl
    · rw [← htk, List.getElem?_take, if_pos h, Array.getElem?_toList]
  rw [(noS_len y).1]
  refine ⟨cur'.toList.take (y.len * 3), ?_, ?_⟩
  · rw [(noS_len y).1]
    refine ⟨by rw [List.length_take, Array.length_toList]; omega, _, c, rfl, hc, hcm, (fun h => by cases h), .inr ⟨g, 0, rfl, hgl, fun j u hj => ?_⟩⟩
    rw [List.getElem?_take] at hj
    split at hj
    · rw [Nat.zero_add]
      exact cells_get hg (by simpa using hj)
    · cases hj
  · refine noS_read (S' := fun q => q < w'.heap.size) (fun b hb => ha b hb.1 hb.2.1 (fun e => hb.2.2 (by rw [e]; rfl))) (fun b hb => by have := hb.2.1; omega) hf (by rw [List.length_take, Array.length_toList, hl]; omega) hq'
theorem FilePut_any (l1 l2 : List Int) (wh : Int) (i1 i2 : Option Addr) (k1 k2 : Nat) (w : World) (h1 : ByIn w (.slice i1 l1.length k1) l1) (h2 : ByIn w (.slice i2 l2.length k2) l2) (hd : 0 ≤ wh ∧ wh ≤ 255) (ht : Pow w) :
    Calls Tryz.prog 9 #[.slice i1 l1.length k1, .slice i2 l2.length k2, .int .u8 wh] w fun e w' => e = .returned (.bool true) ∧ Below w.heap.size w w' := by
  have HT := hid ht
  have B1 := hid h1
  have B2 := hid h2
  have BW := hid (Below.refl w.heap.size w)
  obtain ⟨hd0, hd1⟩ := hd
  obtain ⟨i0, hi0, hz0, hz1, hz2⟩ := info_parts Tryz.info71'
  clear ht h1 h2
  go_enter Tryz.func9, Tryz.ntmps9
  go_wp2_with fail
  refine (pile_c l1 i1 k1 w B1.out).mono ?_
  rintro e p1 ⟨rfl, hp⟩
  have HP := hid hp
  clear hp
  clear B1
  go_wp2_with fail
  refine (made1_c w p1 HP.out).mono ?_
  rintro e w1 ⟨y, ay, cy, rfl, hF, ho, hb⟩
  replace B2 := hid (B2.out.on hb)
  replace BW := hid (BW.out.trans (hb.mono BW.out.size))
  have Hy := hid hF
  have Oy := hid ho
  have ny := ho.2
  have BDy := hid (okF_bd (okF_down ho.1) (by omega))
  clear hF ho hb HP
  go_wp2_with fail
  refine (paths_c y ay cy w1 Hy.out BDy.out).mono ?_
  rintro e w2 ⟨a1, c1, a2, c2, rfl, hP, hb⟩
  replace B2 := hid (B2.out.on hb)
  replace Hy := hid (Hy.out.on hb)
  replace BW := hid (BW.out.trans (hb.mono BW.out.size))
  have HPS := hid hP
  clear hP hb
  have wd : IntKind.i64.wrap wh = wh := by rw [IntKind.wrap_i64]; omega
  obtain ⟨mm, hmm, em⟩ : ∃ mm : Nat, mm < y.cnt + 1 ∧ Int.tmod wh ((y.cnt : Int) + 1) = mm := ⟨wh.toNat % (y.cnt + 1), Nat.mod_lt _ (by omega), by rw [Int.tmod_eq_emod_of_nonneg hd0, Int.natCast_emod, Int.toNat_of_nonneg hd0]; rfl⟩
  go_upto_region 4 with fail
  go_cut [51] from 38 to 50 (fun vb wx => vb = .bool (decide (mm < y.cnt)) ∧ Hid (Below w2.heap.size w2 wx))
  case first =>
    as_aux_lemma =>
      by_cases c0 : y.cnt = 0
      · have c0' : (y.cnt : Int) = 0 := by omega
        have e0 : decide (mm < y.cnt) = false := by simp; omega
        go_wp2_with fail
        go_meet
        case rel => exact ⟨by rw [e0], Below.refl _ _⟩
      have cpos : (0 : Int) < (y.cnt : Int) := by omega
      by_cases c2 : mm < y.cnt
      rotate_left
      · have c2' : ¬ (mm : Int) < (y.cnt : Int) := by omega
        have e0 : decide (mm < y.cnt) = false := by simp; omega
        go_wp2_with fail
        go_meet
        case rel => exact ⟨by rw [e0], Below.refl _ _⟩
      have c2' : (mm : Int) < (y.cnt : Int) := by omega
      have e0 : decide (mm < y.cnt) = true := by simp; omega
      go_wp2_with fail
      go_meet
      case rel => exact ⟨by rw [e0], Below.refl _ _⟩
  case rest =>
    obtain ⟨rfl, hbc⟩ := hcut
    obtain ⟨wb, hwb⟩ : ∃ wb, wb = wc := ⟨_, rfl⟩
    subst hwb
    have hb := hbc.out
    clear hbc
    replace B2 := hid (B2.out.on hb)
    replace Hy := hid (Hy.out.on hb)
    replace HPS := hid (HPS.out.on hb)
    replace BW := hid (BW.out.trans (hb.mono BW.out.size))
    clear hb
    obtain ⟨qb, hqb⟩ : ∃ qb, decide (mm < y.cnt) = qb := ⟨_, rfl⟩
    rw [hqb]
    have HQB := hid hqb
    clear hqb
    go_upto_if 51 with fail
    go_cut [10] from 52 to 60 (fun va wx => ∃ (p : List Ky) (ap : Option Addr) (cp : Nat), va = .slice ap p.length cp ∧ (p = [] ∨ p ∈ evP [] y) ∧ Hid (PtIn wx (.slice ap p.length cp) p) ∧ Hid (Below wb.heap.size wb wx))
    case first =>
      as_aux_lemma =>
        cases qb with
        | false =>
          go_wp2_with fail
          go_meet
          case rel => exact ⟨[], none, 0, rfl, .inl rfl, nil_pth _ _, Below.refl _ _⟩
        | true =>
          have c2 : mm < y.cnt := by simpa using HQB.out
          have c2' : (mm : Int) < (y.cnt : Int) := by omega
          have hpl : (evP [] y).length = y.cnt := evP_length [] y
          have hps := HPS.out
          obtain ⟨g1, o1, c1', ap1, cp1, ee, hg1, hc1, hp1⟩ := hps.get (k := mm) (by omega)
          rw [hpl] at ee
          have ee1 : a1 = some ⟨g1, o1, none⟩ := by cases ee; rfl
          subst ee1
          have hq1 : (evP [] y)[mm] ∈ evP [] y := List.getElem_mem _
          obtain ⟨q, hq⟩ : ∃ q, (evP [] y)[mm] = q := ⟨_, rfl⟩
          rw [hq] at hc1 hp1 hq1
          have HQ := hid hp1
          have MQ := hid hq1
          clear ee hps hp1 hq1 hq hpl
          go_wp2_with fail
          go_meet
          case rel => exact ⟨q, ap1, cp1, rfl, .inr MQ.out, HQ, Below.refl _ _⟩
    case rest =>
      obtain ⟨p, ap, cp, rfl, hpp, HP, hbc⟩ := hcut
      obtain ⟨w5, hw5⟩ : ∃ w5, w5 = wc := ⟨_, rfl⟩
      subst hw5
      clear HQB
      have HPP := hid hpp
      have hb := hbc.out
      clear hpp hbc wd em hmm HPS
      replace B2 := hid (B2.out.on hb)
      replace Hy := hid (Hy.out.on hb)
      replace BW := hid (BW.out.trans (hb.mono BW.out.size))
      clear hb
      obtain ⟨x3, hx3, em3⟩ : ∃ x3 : Nat, x3 < 3 ∧ Int.tmod wh 3 = x3 := ⟨wh.toNat % 3, Nat.mod_lt _ (by omega), by rw [Int.tmod_eq_emod_of_nonneg hd0]; omega⟩
      have wd : IntKind.i64.wrap wh = wh := by rw [IntKind.wrap_i64]; omega
      have hpl : p.length ≤ 3 := by
        rcases HPP.out with h | h
        · rw [h]; simp
        · obtain ⟨x, hx, hxp⟩ := List.mem_map.1 h
          obtain ⟨v, k, e1, _, e3⟩ := okF_names y 1 [] Oy.out.1 x hx
          rw [← hxp, e1]; simp; omega
      have hbA := (Below.refl w5.heap.size w5).alloc (Nat.le_refl _) (.cells #[.int .i64 x3, .int .i64 7] 3)
      have hblA := heap_alloc_new w5 (.cells #[.int .i64 x3, .int .i64 7] 3)
      obtain ⟨b1, hb1⟩ : ∃ b1, w5.heap.size = b1 := ⟨_, rfl⟩
      obtain ⟨wA, hwA⟩ : ∃ wA, w5.alloc (.cells #[.int .i64 x3, .int .i64 7] 3) = wA := ⟨_, rfl⟩
      have hzA : wA.heap.size = b1 + 1 := by rw [← hwA, ← hb1]; simp
      have hbB := (Below.refl wA.heap.size wA).alloc (Nat.le_refl _) (.cells #[.string (bs caN), .slice (some ⟨b1, 0, none⟩) 2 2, .slice none 0 0] 85)
      have hblB := heap_alloc_new wA (.cells #[.string (bs caN), .slice (some ⟨b1, 0, none⟩) 2 2, .slice none 0 0] 85)
      obtain ⟨wB, hwB⟩ : ∃ wB, wA.alloc (.cells #[.string (bs caN), .slice (some ⟨b1, 0, none⟩) 2 2, .slice none 0 0] 85) = wB := ⟨_, rfl⟩
      have hzB : wB.heap.size = b1 + 1 + 1 := by rw [← hwB]; simp [hzA]
      rw [hwA, hb1] at hblA
      rw [hwB, hzA] at hblB
      rw [hwA] at hbA
      rw [hwB] at hbB
      have hblA' : wB.heap[b1]? = some (.cells #[.int .i64 x3, .int .i64 7] 3 (0, 0)) := (hbB.block b1 (by omega)).trans hblA
      have HWA := hid hwA
      have HWB := hid hwB
      have HZB := hid hzB
      have HB1 := hid hb1
      have hb := hbA.trans (hbB.mono (by omega))
      have BN := hid hblB
      have BI := hid hblA'
      clear hwA hwB hzA hbA hbB hblA hblB hblA' hzB hb1
      go_upto_if 68 with fail
      rw [HB1.out, HWA.out]
      have e9 : (⟨#[99, 97, 114, 116]⟩ : ByteArray) = bs caN := rfl
      rw [e9, HWB.out]
      clear e9
      have HyC := Hy
      have HPC := HP
      have BWC := BW
      have HBB := hid hb
      replace B2 := hid (B2.out.on hb)
      replace Hy := hid (Hy.out.on hb)
      replace HP := hid (HP.out.on hb)
      replace BW := hid (BW.out.trans (hb.mono BW.out.size))
      clear hb
      obtain ⟨q3, hq3⟩ : ∃ q3, decide ((p.length : Int) < 3) = q3 := ⟨_, rfl⟩
      rw [hq3]
      have HQ3 := hid hq3
      clear hq3
      go_cut [12] from 69 to 84 (fun v12 wx => ∃ (s : Fo) (as_ : Option Addr) (cs_ : Nat), Hid (wx.heap[b1 + 1]? = some (.cells #[.string (bs caN), .slice (some ⟨b1, 0, none⟩) 2 2, .slice as_ s.len cs_] 85 (0, 0))) ∧ Hid (In wx (.slice as_ s.len cs_) s) ∧ (OkG (p.length + 1) s ∧ s.cnt = s.len ∧ s.len ≤ 6) ∧ Hid (Below (b1 + 1) wB wx) ∧ wB.heap.size ≤ wx.heap.size)
      case first =>
        as_aux_lemma =>
          cases q3
          · go_wp2_with fail
            go_meet
            case rel => exact ⟨.nil, none, 0, BN, In.nil _ _ rfl, ⟨trivial, rfl, Nat.zero_le _⟩, Below.refl _ _, Nat.le_refl _⟩
          have hlt : p.length < 3 := by
            have := HQ3.out
            simp at this
            omega
          go_wp2_with fail
          refine (pile_c l2 i2 k2 wB B2.out).mono ?_
          rintro e p2 ⟨rfl, hp⟩
          have HP_ := hid hp
          clear hp
          go_wp2_with fail
          refine (made2_c wB p2 HP_.out).mono ?_
          rintro e w7 ⟨y2, a7, c7, rfl, hF7, ho7, hb7⟩
          have hz7 := hb7.size
          obtain ⟨cs7, how7, hfc7⟩ := hF7
          have BN7 := hid ((hb7.block (b1 + 1) (by have := HZB.out; omega)).trans BN.out)
          have HF7 := hid hfc7
          have HO7 := hid how7
          have HOK := hid ho7.1
          have hl7 := ho7.2
          have HB7 := hid hb7
          have fz := cells_frz BN7.out (k := 2)
          have k2 := cells_get BN7.out (k := 2) rfl
          clear hfc7 how7 ho7 hb7 HP_
          have hblS : (w7.setCell ⟨b1 + 1, 2, none⟩ (.slice a7 y2.len c7)).heap[b1 + 1]? = some (.cells #[.string (bs caN), .slice (some ⟨b1, 0, none⟩) 2 2, .slice a7 y2.len c7] 85 (0, 0)) := setCell_at BN7.out
          have hbS : Below (b1 + 1) w7 (w7.setCell ⟨b1 + 1, 2, none⟩ (.slice a7 y2.len c7)) := (Below.refl _ _).setCell (p := ⟨b1 + 1, 2, none⟩) (Nat.le_refl _) _
          have hgS : ∀ b, b ≠ b1 + 1 → (w7.setCell ⟨b1 + 1, 2, none⟩ (.slice a7 y2.len c7)).heap[b]? = w7.heap[b]? := fun b h => Below.heap_setCell _ _ _ _ h
          have hzS : (w7.setCell ⟨b1 + 1, 2, none⟩ (.slice a7 y2.len c7)).heap.size = w7.heap.size := by simp [World.setCell]
          have hsos : (w7.setCell ⟨b1 + 1, 2, none⟩ (.slice a7 y2.len c7)).os = w7.os ∧ (w7.setCell ⟨b1 + 1, 2, none⟩ (.slice a7 y2.len c7)).tape = w7.tape ∧ (w7.setCell ⟨b1 + 1, 2, none⟩ (.slice a7 y2.len c7)).output = w7.output := ⟨rfl, rfl, rfl⟩
          obtain ⟨w8, hw8⟩ : ∃ w8, w7.setCell ⟨b1 + 1, 2, none⟩ (.slice a7 y2.len c7) = w8 := ⟨_, rfl⟩
          rw [hw8] at hblS hbS hgS hzS hsos
          have HW8 := hid hw8
          have BN8 := hid hblS
          have HGS := hid hgS
          have HZS := hid hzS
          have HB8 := hid ((HB7.out.mono (by have := HZB.out; omega)).trans hbS)
          clear hw8 hblS hgS hzS hbS
          go_upto_region 9 with fail
          rw [HW8.out]
          have m2 := cells_get BN8.out (k := 2) rfl
          go_wp2_with fail
          have hcap7 := SlC.caps (SlC.of_owns HO7.out)
          go_loopw [12, 76] (fun v12 vi wr => ∃ (k : Nat), k ≤ y2.len ∧ vi = .int .i64 k ∧ Hid (w8.heap.size = wr.heap.size ∧ wr.os = w8.os ∧ wr.tape = w8.tape ∧ wr.output = w8.output ∧ ∀ b, some b ≠ (Value.slice a7 y2.len c7).ownBlock → wr.heap[b]? = w8.heap[b]?) ∧ Hid (y2.len = 0 ∨ ∃ g cur cur', a7 = some ⟨g, 0, none⟩ ∧ wB.heap.size + 1 ≤ g ∧ w8.heap[g]? = some (.cells cur 85 (0, 0)) ∧ cur.toList.take (y2.len * 3) = cs7 ∧ cur.size = c7 * 3 ∧ wr.heap[g]? = some (.cells cur' 85 (0, 0)) ∧ cur'.size = cur.size ∧ ∀ q, q < y2.len * 3 → cur'[q]? = if q % 3 = 2 ∧ q < k * 3 then some (.slice none 0 0) else cur[q]?)) (fun _ vi _ => y2.len - (intOf vi).toNat)
          case atStart =>
            refine ⟨0, by omega, rfl, ⟨rfl, rfl, rfl, rfl, fun _ _ => rfl⟩, ?_⟩
            rcases HO7.out.2 with ⟨_, h0⟩ | ⟨g, cap, cur, he, hbg, hg, hnc, hcm, hcs, htk⟩
            · exact .inl h0
            · right
              cases he
              have hg8 := (HGS.out g (by have := HZB.out; omega)).trans hg
              exact ⟨g, cur, cur, rfl, hbg, hg8, htk, hcs, hg8, rfl, fun q _ => by rw [if_neg (by omega)]⟩
          case round =>
            obtain ⟨k, hk, rfl, HW, HC⟩ := hrel
            by_cases hkl : k < y2.len
            · have hkl' : (k : Int) < (y2.len : Int) := by omega
              obtain ⟨g, cur, cur', rfl, hbg, hg8, htk, hcs, hgr, hsz, hq⟩ := HC.out.resolve_left (by omega)
              have hne : (some (b1 + 1) : Option Nat) ≠ (Value.slice (some ⟨g, 0, none⟩) y2.len c7).ownBlock := fun e => by
                have : b1 + 1 = g := by simpa [Value.ownBlock] using e
                have := HZB.out
                omega
              have BNr := hid ((HW.out.2.2.2.2 (b1 + 1) hne).trans BN8.out)
              have m2r := cells_get BNr.out (k := 2) rfl
              have hd2 : k * 3 + 2 < cur'.size := by rw [hsz, hcs]; omega
              have fz2 := cells_frz hgr (k := k * 3 + 2)
              have e2 := cells_get hgr (k := k * 3 + 2) (Array.getElem?_eq_getElem hd2)
              have HQ := hid hq
              have HGR := hid hgr
              have HG8 := hid hg8
              have HTK := hid htk
              have HSZ := hid hsz
              have HCS := hid hcs
              clear hq hgr hg8 htk hsz hcs
              go_wp2_with fail
              go_roundw
              case rel =>
                refine ⟨k + 1, by omega, by go_num, ⟨by simpa [World.setCell] using HW.out.1, HW.out.2.1, HW.out.2.2.1, HW.out.2.2.2.1, fun b hb => (Below.heap_setCell _ _ _ _ (fun e => hb (by rw [e]; rfl))).trans (HW.out.2.2.2.2 b hb)⟩, .inr ⟨g, cur, cur'.setIfInBounds (k * 3 + 2) (.slice none 0 0), rfl, hbg, HG8.out, HTK.out, HCS.out, setCell_at HGR.out, by simpa using HSZ.out, fun q hql => ?_⟩⟩
                rw [Array.getElem?_setIfInBounds]
                have hsz' := HSZ.out
                by_cases hqe : k * 3 + 2 = q
                · subst hqe
                  rw [if_pos rfl, if_pos hd2, if_pos (by omega)]
                · rw [if_neg hqe, HQ.out q hql]
                  by_cases h1 : q % 3 = 2 ∧ q < k * 3
                  · rw [if_pos h1, if_pos (by omega)]
                  · rw [if_neg h1, if_neg (by omega)]
              case measure => simp [intOf]; omega
            · have hkl' : ¬ (k : Int) < (y2.len : Int) := by omega
              obtain rfl : k = y2.len := by omega
              have hzz := HZS.out
              have hw1 := HW.out.1
              go_wp2_with fail
              go_meet
              case rel =>
                have hnl := noS_len y2
                have hok : OkG (p.length + 1) (noS y2) ∧ (noS y2).cnt = (noS y2).len ∧ (noS y2).len ≤ 6 := ⟨noS_ok HOK.out (by omega), by omega, by omega⟩
                have hne : (some (b1 + 1) : Option Nat) ≠ (Value.slice a7 y2.len c7).ownBlock := fun e => by
                  have := (HO7.out.lt _ e.symm).1
                  have := HZB.out
                  omega
                have hbel : Below (b1 + 1) wB wr := ⟨HW.out.2.1.trans HB8.out.os, HW.out.2.2.1.trans HB8.out.tape, HW.out.2.2.2.1.trans HB8.out.output, by have := HB8.out.size; omega, fun b hb => (HW.out.2.2.2.2 b (fun e => by have := (HO7.out.lt b e.symm).1; have := HZB.out; omega)).trans (HB8.out.block b hb)⟩
                refine ⟨noS y2, a7, c7, ?_, ?_, hok, hbel, by have := HB8.out.size; omega⟩
                · rw [Hid, hnl.1]
                  exact (HW.out.2.2.2.2 (b1 + 1) hne).trans BN8.out
                · rcases HC.out with h0 | ⟨g, cur, cur', rfl, hbg, hg8, htk, hcs, hgr, hsz, hq⟩
                  · have : noS y2 = .nil := by
                      cases y2 with
                      | nil => rfl
                      | cons => simp [Fo.len] at h0
                    rw [Hid, this]
                    have hca := hcap7
                    rw [h0] at hca
                    exact ⟨[], ⟨rfl, a7, c7, rfl, Nat.zero_le _, by unfold maxLen; omega, (fun h => (hca.2.2 h).2), .inl rfl⟩, rfl⟩
                  · have hgl7 : g < w7.heap.size := by
                      have := (Array.getElem?_eq_some_iff.1 hg8).1
                      omega
                    refine noS_sl (w := w7) (B := wB.heap.size + 1) HF7.out HO7.out.1 hcap7.1 (by unfold maxLen; omega) htk hgr hsz (fun q hql => ?_) (by omega) (fun b hb1 hb2 hb3 => (HW.out.2.2.2.2 b (fun e => hb3 (by simpa [Value.ownBlock] using e))).trans (HGS.out b (by have := HZB.out; omega)))
                    rw [hq q hql]
                    by_cases h1 : q % 3 = 2
                    · rw [if_pos ⟨h1, hql⟩, if_pos h1]
                    · rw [if_neg (fun h => h1 h.1), if_neg h1]
      case rest =>
        obtain ⟨s, as_, cs_, hbn, hIs, hok, hbel, hszB⟩ := hcut
        obtain ⟨wD, hwD⟩ : ∃ wD, wD = wc := ⟨_, rfl⟩
        subst hwD
        have hz5 := HB1.out
        have hb := HBB.out.trans (hbel.out.mono (by omega))
        have BID := hid ((hbel.out.block b1 (by omega)).trans BI.out)
        have HOKS := hid hok
        have Hs := hIs
        have BND := hbn
        clear Hy HP BW
        have Hy := hid (HyC.out.on hb)
        have HP := hid (HPC.out.on hb)
        have BW := hid (BWC.out.trans (hb.mono BWC.out.size))
        have hbD : b1 + 1 < wD.heap.size := by have := HZB.out; omega
        clear HyC HPC BWC hb hz5 HBB hbel hbn hIs hok BN BI HWA HWB B2 hszB HQ3 HZB HB1
        obtain ⟨kn, hkn⟩ : ∃ kn, kyOf caN [(x3 : Int)] = kn := ⟨_, rfl⟩
        have HKN := hid hkn
        obtain ⟨B0, hB0⟩ : ∃ B0, wD.heap.size = B0 := ⟨_, rfl⟩
        have HB0 := hid hB0
        have lp : p.length ≤ 1000 := by omega
        go_upto_region 14 with fail
        go_cut [13] from 85 to 94 (fun v13 wx => ∃ (bb : Nat) (a5 : Option Addr) (c5 : Nat), v13 = .pointer (some ⟨bb, 0, none⟩) ∧ Hid (wx.heap[bb]? = some (.cells #[.slice a5 (p.length + 1) c5] 65 (0, 0))) ∧ Hid (PtIn wx (.slice a5 (p ++ [kn]).length c5) (p ++ [kn])) ∧ Hid (Below B0 wD wx))
        case first =>
          as_aux_lemma =>
            have hS0 : wD.drew.cell? ⟨b1 + 1, 1, none⟩ = some (.slice (some ⟨b1, 0, none⟩) 2 2) ∧ wD.drew.cell? ⟨b1, 0, none⟩ = some (.int .i64 x3) := ⟨cells_get BND.out (k := 1) rfl, cells_get BID.out (k := 0) rfl⟩
            have HS0 := hid hS0
            have hbD' : b1 + 1 < B0 := by omega
            have SC := hid (fun (W : World) (h : Below B0 wD.drew W) => show W.cell? ⟨b1 + 1, 1, none⟩ = some (.slice (some ⟨b1, 0, none⟩) 2 2) ∧ W.cell? ⟨b1, 0, none⟩ = some (.int .i64 x3) from ⟨below_cell h hbD' HS0.out.1, below_cell h (by omega) HS0.out.2⟩)
            have HPB := hid (show Pth (fun q => q < B0) wD.drew (.slice ap p.length cp) p from by rw [← hB0]; exact HP.out.agree (fun _ _ => rfl))
            have BZ := hid (Below.refl B0 wD.drew)
            have HZ0 := hid (show wD.drew.heap.size = B0 from hB0)
            have BZD := hid (show Below B0 wD wD.drew from (Below.refl B0 wD).drew)
            have hS1 := HS0.out
            clear hS0 hB0 hkn
            refine (wpIn_wide (n := 9)).1 ?_
            refine region_held (fun w' : World => w'.cell? ⟨b1 + 1, 1, none⟩ = some (.slice (some ⟨b1, 0, none⟩) 2 2) ∧ w'.cell? ⟨b1, 0, none⟩ = some (.int .i64 x3)) (by kernel_rfl) ?_
            refine AnyH_takeD (fun _ => trivial) (by kernel_rfl) 0 85 (.slice ap p.length cp) rfl rfl (by kernel_rfl) (by kernel_rfl) (by kernel_rfl) (fun _ _ _ h => h) (.inl ⟨by kernel_rfl, fun w' hs => ?_⟩) hS1 ?_
            · go_simp
            refine AnyH_takeD (fun _ => trivial) (by kernel_rfl) 2 87 (.pointer (some ⟨b1 + 1, 1, none⟩)) rfl rfl (by kernel_rfl) (by kernel_rfl) (by kernel_rfl) (fun _ _ _ h => h) (.inl ⟨by kernel_rfl, fun w' hs => ?_⟩) hS1 ?_
            · go_simp
            refine AnyH_takeD (fun _ => trivial) (by kernel_rfl) 3 88 (.slice (some ⟨b1, 0, none⟩) 2 2) rfl rfl (by kernel_rfl) (by kernel_rfl) (by kernel_rfl) (fun _ _ _ h => h) (.inl ⟨by kernel_rfl, fun w' hs => ?_⟩) hS1 ?_
            · obtain ⟨q0, q1⟩ := hs
              go_simp
            refine AnyH_takeD (fun _ => trivial) (by kernel_rfl) 4 89 (.pointer (some ⟨b1, 0, none⟩)) rfl rfl (by kernel_rfl) (by kernel_rfl) (by kernel_rfl) (fun _ _ _ h => h) (.inl ⟨by kernel_rfl, fun w' hs => ?_⟩) hS1 ?_
            · go_simp
            refine AnyH_takeD (fun _ => trivial) (by kernel_rfl) 5 90 (.int .i64 x3) rfl rfl (by kernel_rfl) (by kernel_rfl) (by kernel_rfl) (fun _ _ _ h => h) (.inl ⟨by kernel_rfl, fun w' hs => ?_⟩) hS1 ?_
            · obtain ⟨q0, q1⟩ := hs
              go_simp
            obtain ⟨W0, hW0⟩ : ∃ W0, wD.drew = W0 := ⟨_, rfl⟩
            rw [hW0] at SC HPB BZ BZD HZ0 ⊢
            clear hW0 hS1 HS0
            refine AnyH_three (i := 1) (j := 6) (k := 10) (by kernel_rfl) rfl rfl rfl (by kernel_rfl) (by kernel_rfl) (by kernel_rfl) (fun K hK => ?_) (fun K hK => ?_) (fun K hK => ?_)
            · go_simp
              refine ⟨trivial, (callsIn_wide.2 (dupK_own p ap cp (fun q => q < B0) W0 (HPB.out.agree (Agree.of_below BZ.out (fun _ h => h))) (fun q h => by have := BZ.out.size; have := HZ0.out; omega) lp)).mono ?_⟩
              rintro e W1 ⟨a86, c86, rfl, hown, hb⟩
              have OWN := hid (owns_base (base' := B0) hown (fun g hg => by have := (hown.lt g hg).1; have := BZ.out.size; have := HZ0.out; omega))
              replace BZ := hid (BZ.out.trans (hb.mono (by have := BZ.out.size; have := HZ0.out; omega)))
              refine hK _ _ ⟨SC.out _ BZ.out, ?_⟩
              clear hK hb hown
              refine AnyH_two (i := 6) (j := 10) (by kernel_rfl) rfl rfl (by kernel_rfl) (by kernel_rfl) (fun K hK => ?_) (fun K hK => ?_)
              · go_simp
                have hb := (Below.refl W1.heap.size W1).alloc (Nat.le_refl _) (.cells #[.int .i64 x3] 3)
                have hblk := heap_alloc_new W1 (.cells #[.int .i64 x3] 3)
                obtain ⟨bn, hbn⟩ : ∃ b, W1.heap.size = b := ⟨_, rfl⟩
                obtain ⟨W2, hnew⟩ : ∃ w', W1.alloc (.cells #[.int .i64 x3] 3) = w' := ⟨_, rfl⟩
                rw [hnew] at hb hblk ⊢
                have hge : B0 ≤ bn := by rw [← hbn]; have := BZ.out.size; have := HZ0.out; omega
                rw [hbn] at hblk ⊢
                replace OWN := hid (owns_below OWN.out hb (Nat.le_refl _))
                replace BZ := hid (BZ.out.trans (hb.mono (by have := BZ.out.size; have := HZ0.out; omega)))
                have N := hid (IsIn.one hblk)
                refine hK _ _ ⟨SC.out _ BZ.out, ?_⟩
                clear hK hb hblk hbn hnew hge
                refine AnyH_two (i := 7) (j := 10) (by kernel_rfl) rfl rfl (by kernel_rfl) (by kernel_rfl) (fun K hK => ?_) (fun K hK => ?_)
                · go_simp
                  refine ⟨trivial, (callsIn_wide.2 (kOf_any caN [(x3 : Int)] (some ⟨bn, 0, none⟩) 1 (fun q => q < W2.heap.size) W2 N.out (fun _ h => h))).mono ?_⟩
                  rintro e W3 ⟨he, hb⟩
                  rw [HKN.out] at he
                  subst he
                  replace OWN := hid (owns_below OWN.out hb (Nat.le_refl _))
                  replace BZ := hid (BZ.out.trans (hb.mono (by have := BZ.out.size; have := HZ0.out; omega)))
                  refine hK _ _ ⟨SC.out _ BZ.out, ?_⟩
                  clear hK hb N
                  refine AnyH_two (i := 8) (j := 10) (by kernel_rfl) rfl rfl (by kernel_rfl) (by kernel_rfl) (fun K hK => ?_) (fun K hK => ?_)
                  · go_simp
                    have hb := (Below.refl W3.heap.size W3).alloc (Nat.le_refl _) (.cells #[.string (bs kn.n), .bool kn.h, .int .i64 kn.x] 71)
                    have hblk := heap_alloc_new W3 (.cells #[.string (bs kn.n), .bool kn.h, .int .i64 kn.x] 71)
                    obtain ⟨bk, hbn⟩ : ∃ b, W3.heap.size = b := ⟨_, rfl⟩
                    obtain ⟨W4, hnew⟩ : ∃ w', W3.alloc (.cells #[.string (bs kn.n), .bool kn.h, .int .i64 kn.x] 71) = w' := ⟨_, rfl⟩
                    rw [hnew] at hb hblk ⊢
                    have hge : B0 ≤ bk := by rw [← hbn]; have := BZ.out.size; have := HZ0.out; omega
                    rw [hbn] at hblk ⊢
                    replace OWN := hid (owns_below OWN.out hb (Nat.le_refl _))
                    replace BZ := hid (BZ.out.trans (hb.mono (by have := BZ.out.size; have := HZ0.out; omega)))
                    have KB := hid hblk
                    refine hK _ _ ⟨SC.out _ BZ.out, ?_⟩
                    clear hK hb hblk hbn hnew hge
                    refine AnyH_two (i := 9) (j := 10) (by kernel_rfl) rfl rfl (by kernel_rfl) (by kernel_rfl) (fun K hK => ?_) (fun K hK => ?_)
                    · obtain ⟨a5, c5, W5, hr, hown5, hg5, hat5⟩ := run_append_ao (P := Tryz.prog) W4 65 65 B0 71 i0 _ 3 32 Tryz.underlying65 hi0 hz0 hz1 hz2 rfl (by omega) (.slice a86 p.length c86) p.length _ OWN.out (some ⟨bk, 0, none⟩) 1 1 [Value.string (bs kn.n), .bool kn.h, .int .i64 kn.x] rfl (fun h => by cases h) (fun ad had => by cases had; exact World.news_of_block (cs := #[.string (bs kn.n), .bool kn.h, .int .i64 kn.x]) (t := 71) (fr := (0, 0)) KB.out) (by simp [Value.oneCell']) (by unfold maxLen; omega) (by omega) (by have := BZ.out.size; have := HZ0.out; omega)
                      refine wpIn_value (fun _ => trivial) rfl (exec_append rfl rfl rfl hr) ?_
                      replace BZ := hid (BZ.out.grown hg5 (by have := BZ.out.size; have := HZ0.out; omega) (fun b hb => (OWN.out.lt b hb).1))
                      have OWN5 := hid hown5
                      refine hK _ _ ⟨SC.out _ BZ.out, ?_⟩
                      clear hK hr hown5 hg5 hat5 OWN KB
                      refine AnyH_one (i := 10) (by kernel_rfl) rfl (by kernel_rfl) (fun K hK => ?_)
                      go_simp
                      have hb := (Below.refl W5.heap.size W5).alloc (Nat.le_refl _) (.cells #[.slice none 0 0] 65)
                      have hblk := heap_alloc_new W5 (.cells #[.slice none 0 0] 65)
                      obtain ⟨bb, hbn⟩ : ∃ b, W5.heap.size = b := ⟨_, rfl⟩
                      obtain ⟨W6, hnew⟩ : ∃ w', W5.alloc (.cells #[.slice none 0 0] 65) = w' := ⟨_, rfl⟩
                      rw [hnew] at hb hblk ⊢
                      have hge : B0 ≤ bb := by rw [← hbn]; have := BZ.out.size; have := HZ0.out; omega
                      have NE5 := hid (fun e => show False from by have := (OWN5.out.lt bb e).2; omega)
                      rw [hbn] at hblk ⊢
                      replace OWN5 := hid (owns_below OWN5.out hb (Nat.le_refl _))
                      replace BZ := hid (BZ.out.trans (hb.mono (by have := BZ.out.size; have := HZ0.out; omega)))
                      have BX := hid hblk
                      have HGE := hid hge
                      refine hK _ _ ⟨SC.out _ BZ.out, ?_⟩
                      clear hK hb hblk hbn hnew hge
                      refine AnyH_one (i := 11) (by kernel_rfl) rfl (by kernel_rfl) (fun K hK => ?_)
                      have cB := cells_get BX.out (k := 0) rfl
                      have fB := cells_frz BX.out (k := 0)
                      go_simp
                      have hX := setCell_at (o := 0) (v := .slice a5 (p.length + 1) c5) BX.out
                      have hZ := BZ.out.setCell (p := ⟨bb, 0, none⟩) HGE.out (.slice a5 (p.length + 1) c5)
                      have hO : (W6.setCell ⟨bb, 0, none⟩ (.slice a5 (p.length + 1) c5)).ownsRow B0 71 3 (.slice a5 (p.length + 1) c5) (p.length + 1) _ := owns_agree OWN5.out fun g hg => Below.heap_setCell _ _ _ _ (fun e => NE5.out (by rw [hg, e]))
                      refine hK _ _ ⟨SC.out _ hZ, ?_⟩
                      refine AnyH_done (by kernel_rfl) ?_
                      have HX := hid hX
                      have HZ := hid hZ
                      have HO := hid hO
                      clear hK cB fB hX hZ hO
                      go_simp
                      go_wp2_with fail
                      go_meet
                      case rel => exact ⟨bb, a5, c5, rfl, HX.out, PtIn.snoc (k := kn) HO.out, BZD.out.trans HZ.out⟩
                    · go_simp
                      have hb := (Below.refl W4.heap.size W4).alloc (Nat.le_refl _) (.cells #[.slice none 0 0] 65)
                      have hblk := heap_alloc_new W4 (.cells #[.slice none 0 0] 65)
                      obtain ⟨bb, hbn⟩ : ∃ b, W4.heap.size = b := ⟨_, rfl⟩
                      obtain ⟨W8, hnew⟩ : ∃ w', W4.alloc (.cells #[.slice none 0 0] 65) = w' := ⟨_, rfl⟩
                      rw [hnew] at hb hblk ⊢
                      have hge : B0 ≤ bb := by rw [← hbn]; have := BZ.out.size; have := HZ0.out; omega
                      have NE := hid (fun e => show False from by have := (OWN.out.lt bb e).2; omega)
                      rw [hbn] at hblk ⊢
                      replace OWN := hid (owns_below OWN.out hb (Nat.le_refl _))
                      replace KB := hid (blk_on KB.out hb)
                      replace BZ := hid (BZ.out.trans (hb.mono (by have := BZ.out.size; have := HZ0.out; omega)))
                      have BX := hid hblk
                      have HGE := hid hge
                      refine hK _ _ ⟨SC.out _ BZ.out, ?_⟩
                      clear hK hb hblk hbn hnew hge
                      refine AnyH_one (i := 9) (by kernel_rfl) rfl (by kernel_rfl) (fun K hK => ?_)
                      obtain ⟨a5, c5, W9, hr, hown5, hg5, hat5⟩ := run_append_ao (P := Tryz.prog) W8 65 65 B0 71 i0 _ 3 32 Tryz.underlying65 hi0 hz0 hz1 hz2 rfl (by omega) (.slice a86 p.length c86) p.length _ OWN.out (some ⟨bk, 0, none⟩) 1 1 [Value.string (bs kn.n), .bool kn.h, .int .i64 kn.x] rfl (fun h => by cases h) (fun ad had => by cases had; exact World.news_of_block (cs := #[.string (bs kn.n), .bool kn.h, .int .i64 kn.x]) (t := 71) (fr := (0, 0)) KB.out) (by simp [Value.oneCell']) (by unfold maxLen; omega) (by omega) (by have := BZ.out.size; have := HZ0.out; omega)
                      refine wpIn_value (fun _ => trivial) rfl (exec_append rfl rfl rfl hr) ?_
                      have hbl := (Array.getElem?_eq_some_iff.1 BX.out).1
                      have NE5 := hid (fun (e : (Value.slice a5 (p.length + 1) c5).ownBlock = some bb) => show False from by
                        rcases hat5 bb e with h | h
                        · exact NE.out h
                        · omega)
                      replace BX := hid ((hg5.block bb hbl (fun e => NE.out e.symm)).trans BX.out)
                      replace BZ := hid (BZ.out.grown hg5 (by have := BZ.out.size; have := HZ0.out; omega) (fun b hb => (OWN.out.lt b hb).1))
                      have OWN5 := hid hown5
                      refine hK _ _ ⟨SC.out _ BZ.out, ?_⟩
                      clear hK hr hown5 hg5 hat5 OWN KB NE hbl
                      refine AnyH_one (i := 11) (by kernel_rfl) rfl (by kernel_rfl) (fun K hK => ?_)
                      have cB := cells_get BX.out (k := 0) rfl
                      have fB := cells_frz BX.out (k := 0)
                      go_simp
                      have hX := setCell_at (o := 0) (v := .slice a5 (p.length + 1) c5) BX.out
                      have hZ := BZ.out.setCell (p := ⟨bb, 0, none⟩) HGE.out (.slice a5 (p.length + 1) c5)
                      have hO : (W9.setCell ⟨bb, 0, none⟩ (.slice a5 (p.length + 1) c5)).ownsRow B0 71 3 (.slice a5 (p.length + 1) c5) (p.length + 1) _ := owns_agree OWN5.out fun g hg => Below.heap_setCell _ _ _ _ (fun e => NE5.out (by rw [hg, e]))
                      refine hK _ _ ⟨SC.out _ hZ, ?_⟩
                      refine AnyH_done (by kernel_rfl) ?_
                      have HX := hid hX
                      have HZ := hid hZ
                      have HO := hid hO
                      clear hK cB fB hX hZ hO
                      go_simp
                      go_wp2_with fail
                      go_meet
                      case rel => exact ⟨bb, a5, c5, rfl, HX.out, PtIn.snoc (k := kn) HO.out, BZD.out.trans HZ.out⟩
                  · go_simp
                    have hb := (Below.refl W3.heap.size W3).alloc (Nat.le_refl _) (.cells #[.slice none 0 0] 65)
                    have hblk := heap_alloc_new W3 (.cells #[.slice none 0 0] 65)
                    obtain ⟨bb, hbn⟩ : ∃ b, W3.heap.size = b := ⟨_, rfl⟩
                    obtain ⟨W11, hnew⟩ : ∃ w', W3.alloc (.cells #[.slice none 0 0] 65) = w' := ⟨_, rfl⟩
                    rw [hnew] at hb hblk ⊢
                    have hge : B0 ≤ bb := by rw [← hbn]; have := BZ.out.size; have := HZ0.out; omega
                    have NE := hid (fun e => show False from by have := (OWN.out.lt bb e).2; omega)
                    rw [hbn] at hblk ⊢
                    replace OWN := hid (owns_below OWN.out hb (Nat.le_refl _))
                    replace BZ := hid (BZ.out.trans (hb.mono (by have := BZ.out.size; have := HZ0.out; omega)))
                    have BX := hid hblk
                    have HGE := hid hge
                    refine hK _ _ ⟨SC.out _ BZ.out, ?_⟩
                    clear hK hb hblk hbn hnew hge
                    refine AnyH_one (i := 8) (by kernel_rfl) rfl (by kernel_rfl) (fun K hK => ?_)
                    go_simp
                    have hb := (Below.refl W11.heap.size W11).alloc (Nat.le_refl _) (.cells #[.string (bs kn.n), .bool kn.h, .int .i64 kn.x] 71)
                    have hblk := heap_alloc_new W11 (.cells #[.string (bs kn.n), .bool kn.h, .int .i64 kn.x] 71)
                    obtain ⟨bk, hbn⟩ : ∃ b, W11.heap.size = b := ⟨_, rfl⟩
                    obtain ⟨W12, hnew⟩ : ∃ w', W11.alloc (.cells #[.string (bs kn.n), .bool kn.h, .int .i64 kn.x] 71) = w' := ⟨_, rfl⟩
                    rw [hnew] at hb hblk ⊢
                    have hge : B0 ≤ bk := by rw [← hbn]; have := BZ.out.size; have := HZ0.out; omega
                    rw [hbn] at hblk ⊢
                    replace OWN := hid (owns_below OWN.out hb (Nat.le_refl _))
                    replace BX := hid (blk_on BX.out hb)
                    replace BZ := hid (BZ.out.trans (hb.mono (by have := BZ.out.size; have := HZ0.out; omega)))
                    have KB := hid hblk
                    refine hK _ _ ⟨SC.out _ BZ.out, ?_⟩
                    clear hK hb hblk hbn hnew hge
                    refine AnyH_one (i := 9) (by kernel_rfl) rfl (by kernel_rfl) (fun K hK => ?_)
                    obtain ⟨a5, c5, W13, hr, hown5, hg5, hat5⟩ := run_append_ao (P := Tryz.prog) W12 65 65 B0 71 i0 _ 3 32 Tryz.underlying65 hi0 hz0 hz1 hz2 rfl (by omega) (.slice a86 p.length c86) p.length _ OWN.out (some ⟨bk, 0, none⟩) 1 1 [Value.string (bs kn.n), .bool kn.h, .int .i64 kn.x] rfl (fun h => by cases h) (fun ad had => by cases had; exact World.news_of_block (cs := #[.string (bs kn.n), .bool kn.h, .int .i64 kn.x]) (t := 71) (fr := (0, 0)) KB.out) (by simp [Value.oneCell']) (by unfold maxLen; omega) (by omega) (by have := BZ.out.size; have := HZ0.out; omega)
                    refine wpIn_value (fun _ => trivial) rfl (exec_append rfl rfl rfl hr) ?_
                    have hbl := (Array.getElem?_eq_some_iff.1 BX.out).1
                    have NE5 := hid (fun (e : (Value.slice a5 (p.length + 1) c5).ownBlock = some bb) => show False from by
                      rcases hat5 bb e with h | h
                      · exact NE.out h
                      · omega)
                    replace BX := hid ((hg5.block bb hbl (fun e => NE.out e.symm)).trans BX.out)
                    replace BZ := hid (BZ.out.grown hg5 (by have := BZ.out.size; have := HZ0.out; omega) (fun b hb => (OWN.out.lt b hb).1))
                    have OWN5 := hid hown5
                    refine hK _ _ ⟨SC.out _ BZ.out, ?_⟩
                    clear hK hr hown5 hg5 hat5 OWN KB NE hbl
                    refine AnyH_one (i := 11) (by kernel_rfl) rfl (by kernel_rfl) (fun K hK => ?_)
                    have cB := cells_get BX.out (k := 0) rfl
                    have fB := cells_frz BX.out (k := 0)
                    go_simp
                    have hX := setCell_at (o := 0) (v := .slice a5 (p.length + 1) c5) BX.out
                    have hZ := BZ.out.setCell (p := ⟨bb, 0, none⟩) HGE.out (.slice a5 (p.length + 1) c5)
                    have hO : (W13.setCell ⟨bb, 0, none⟩ (.slice a5 (p.length + 1) c5)).ownsRow B0 71 3 (.slice a5 (p.length + 1) c5) (p.length + 1) _ := owns_agree OWN5.out fun g hg => Below.heap_setCell _ _ _ _ (fun e => NE5.out (by rw [hg, e]))
                    refine hK _ _ ⟨SC.out _ hZ, ?_⟩
                    refine AnyH_done (by kernel_rfl) ?_
                    have HX := hid hX
                    have HZ := hid hZ
                    have HO := hid hO
                    clear hK cB fB hX hZ hO
                    go_simp
                    go_wp2_with fail
                    go_meet
                    case rel => exact ⟨bb, a5, c5, rfl, HX.out, PtIn.snoc (k := kn) HO.out, BZD.out.trans HZ.out⟩
                · go_simp
                  have hb := (Below.refl W2.heap.size W2).alloc (Nat.le_refl _) (.cells #[.slice none 0 0] 65)
                  have hblk := heap_alloc_new W2 (.cells #[.slice none 0 0] 65)
                  obtain ⟨bb, hbn⟩ : ∃ b, W2.heap.size = b := ⟨_, rfl⟩
                  obtain ⟨W15, hnew⟩ : ∃ w', W2.alloc (.cells #[.slice none 0 0] 65) = w' := ⟨_, rfl⟩
                  rw [hnew] at hb hblk ⊢
                  have hge : B0 ≤ bb := by rw [← hbn]; have := BZ.out.size; have := HZ0.out; omega
                  have NE := hid (fun e => show False from by have := (OWN.out.lt bb e).2; omega)
                  rw [hbn] at hblk ⊢
                  replace OWN := hid (owns_below OWN.out hb (Nat.le_refl _))
                  replace N := hid (N.out.on hb)
                  replace BZ := hid (BZ.out.trans (hb.mono (by have := BZ.out.size; have := HZ0.out; omega)))
                  have BX := hid hblk
                  have HGE := hid hge
                  refine hK _ _ ⟨SC.out _ BZ.out, ?_⟩
                  clear hK hb hblk hbn hnew hge
                  refine AnyH_one (i := 7) (by kernel_rfl) rfl (by kernel_rfl) (fun K hK => ?_)
                  go_simp
                  refine ⟨trivial, (callsIn_wide.2 (kOf_any caN [(x3 : Int)] (some ⟨bn, 0, none⟩) 1 (fun q => q < W15.heap.size) W15 N.out (fun _ h => h))).mono ?_⟩
                  rintro e W16 ⟨he, hb⟩
                  rw [HKN.out] at he
                  subst he
                  replace OWN := hid (owns_below OWN.out hb (Nat.le_refl _))
                  replace BX := hid (blk_on BX.out hb)
                  replace BZ := hid (BZ.out.trans (hb.mono (by have := BZ.out.size; have := HZ0.out; omega)))
                  refine hK _ _ ⟨SC.out _ BZ.out, ?_⟩
                  clear hK hb N
                  refine AnyH_one (i := 8) (by kernel_rfl) rfl (by kernel_rfl) (fun K hK => ?_)
                  go_simp
                  have hb := (Below.refl W16.heap.size W16).alloc (Nat.le_refl _) (.cells #[.string (bs kn.n), .bool kn.h, .int .i64 kn.x] 71)
                  have hblk := heap_alloc_new W16 (.cells #[.string (bs kn.n), .bool kn.h, .int .i64 kn.x] 71)
                  obtain ⟨bk, hbn⟩ : ∃ b, W16.heap.size = b := ⟨_, rfl⟩
                  obtain ⟨W17, hnew⟩ : ∃ w', W16.alloc (.cells #[.string (bs kn.n), .bool kn.h, .int .i64 kn.x] 71) = w' := ⟨_, rfl⟩
                  rw [hnew] at hb hblk ⊢
                  have hge : B0 ≤ bk := by rw [← hbn]; have := BZ.out.size; have := HZ0.out; omega
                  rw [hbn] at hblk ⊢
                  replace OWN := hid (owns_below OWN.out hb (Nat.le_refl _))
                  replace BX := hid (blk_on BX.out hb)
                  replace BZ := hid (BZ.out.trans (hb.mono (by have := BZ.out.size; have := HZ0.out; omega)))
                  have KB := hid hblk
                  refine hK _ _ ⟨SC.out _ BZ.out, ?_⟩
                  clear hK hb hblk hbn hnew hge
                  refine AnyH_one (i := 9) (by kernel_rfl) rfl (by kernel_rfl) (fun K hK => ?_)
                  obtain ⟨a5, c5, W18, hr, hown5, hg5, hat5⟩ := run_append_ao (P := Tryz.prog) W17 65 65 B0 71 i0 _ 3 32 Tryz.underlying65 hi0 hz0 hz1 hz2 rfl (by omega) (.slice a86 p.length c86) p.length _ OWN.out (some ⟨bk, 0, none⟩) 1 1 [Value.string (bs kn.n), .bool kn.h, .int .i64 kn.x] rfl (fun h => by cases h) (fun ad had => by cases had; exact World.news_of_block (cs := #[.string (bs kn.n), .bool kn.h, .int .i64 kn.x]) (t := 71) (fr := (0, 0)) KB.out) (by simp [Value.oneCell']) (by unfold maxLen; omega) (by omega) (by have := BZ.out.size; have := HZ0.out; omega)
                  refine wpIn_value (fun _ => trivial) rfl (exec_append rfl rfl rfl hr) ?_
                  have hbl := (Array.getElem?_eq_some_iff.1 BX.out).1
                  have NE5 := hid (fun (e : (Value.slice a5 (p.length + 1) c5).ownBlock = some bb) => show False from by
                    rcases hat5 bb e with h | h
                    · exact NE.out h
                    · omega)
                  replace BX := hid ((hg5.block bb hbl (fun e => NE.out e.symm)).trans BX.out)
                  replace BZ := hid (BZ.out.grown hg5 (by have := BZ.out.size; have := HZ0.out; omega) (fun b hb => (OWN.out.lt b hb).1))
                  have OWN5 := hid hown5
                  refine hK _ _ ⟨SC.out _ BZ.out, ?_⟩
                  clear hK hr hown5 hg5 hat5 OWN KB NE hbl
                  refine AnyH_one (i := 11) (by kernel_rfl) rfl (by kernel_rfl) (fun K hK => ?_)
                  have cB := cells_get BX.out (k := 0) rfl
                  have fB := cells_frz BX.out (k := 0)
                  go_simp
                  have hX := setCell_at (o := 0) (v := .slice a5 (p.length + 1) c5) BX.out
                  have hZ := BZ.out.setCell (p := ⟨bb, 0, none⟩) HGE.out (.slice a5 (p.length + 1) c5)
                  have hO : (W18.setCell ⟨bb, 0, none⟩ (.slice a5 (p.length + 1) c5)).ownsRow B0 71 3 (.slice a5 (p.length + 1) c5) (p.length + 1) _ := owns_agree OWN5.out fun g hg => Below.heap_setCell _ _ _ _ (fun e => NE5.out (by rw [hg, e]))
                  refine hK _ _ ⟨SC.out _ hZ, ?_⟩
                  refine AnyH_done (by kernel_rfl) ?_
                  have HX := hid hX
                  have HZ := hid hZ
                  have HO := hid hO
                  clear hK cB fB hX hZ hO
                  go_simp
                  go_wp2_with fail
                  go_meet
                  case rel => exact ⟨bb, a5, c5, rfl, HX.out, PtIn.snoc (k := kn) HO.out, BZD.out.trans HZ.out⟩
              · go_simp
                have hb := (Below.refl W1.heap.size W1).alloc (Nat.le_refl _) (.cells #[.slice none 0 0] 65)
                have hblk := heap_alloc_new W1 (.cells #[.slice none 0 0] 65)
                obtain ⟨bb, hbn⟩ : ∃ b, W1.heap.size = b := ⟨_, rfl⟩
                obtain ⟨W20, hnew⟩ : ∃ w', W1.alloc (.cells #[.slice none 0 0] 65) = w' := ⟨_, rfl⟩
                rw [hnew] at hb hblk ⊢
                have hge : B0 ≤ bb := by rw [← hbn]; have := BZ.out.size; have := HZ0.out; omega
                have NE := hid (fun e => show False from by have := (OWN.out.lt bb e).2; omega)
                rw [hbn] at hblk ⊢
                replace OWN := hid (owns_below OWN.out hb (Nat.le_refl _))
                replace BZ := hid (BZ.out.trans (hb.mono (by have := BZ.out.size; have := HZ0.out; omega)))
                have BX := hid hblk
                have HGE := hid hge
                refine hK _ _ ⟨SC.out _ BZ.out, ?_⟩
                clear hK hb hblk hbn hnew hge
                refine AnyH_one (i := 6) (by kernel_rfl) rfl (by kernel_rfl) (fun K hK => ?_)
                go_simp
                have hb := (Below.refl W20.heap.size W20).alloc (Nat.le_refl _) (.cells #[.int .i64 x3] 3)
                have hblk := heap_alloc_new W20 (.cells #[.int .i64 x3] 3)
                obtain ⟨bn, hbn⟩ : ∃ b, W20.heap.size = b := ⟨_, rfl⟩
                obtain ⟨W21, hnew⟩ : ∃ w', W20.alloc (.cells #[.int .i64 x3] 3) = w' := ⟨_, rfl⟩
                rw [hnew] at hb hblk ⊢
                have hge : B0 ≤ bn := by rw [← hbn]; have := BZ.out.size; have := HZ0.out; omega
                rw [hbn] at hblk ⊢
                replace OWN := hid (owns_below OWN.out hb (Nat.le_refl _))
                replace BX := hid (blk_on BX.out hb)
                replace BZ := hid (BZ.out.trans (hb.mono (by have := BZ.out.size; have := HZ0.out; omega)))
                have N := hid (IsIn.one hblk)
                refine hK _ _ ⟨SC.out _ BZ.out, ?_⟩
                clear hK hb hblk hbn hnew hge
                refine AnyH_one (i := 7) (by kernel_rfl) rfl (by kernel_rfl) (fun K hK => ?_)
                go_simp
                refine ⟨trivial, (callsIn_wide.2 (kOf_any caN [(x3 : Int)] (some ⟨bn, 0, none⟩) 1 (fun q => q < W21.heap.size) W21 N.out (fun _ h => h))).mono ?_⟩
                rintro e W22 ⟨he, hb⟩
                rw [HKN.out] at he
                subst he
                replace OWN := hid (owns_below OWN.out hb (Nat.le_refl _))
                replace BX := hid (blk_on BX.out hb)
                replace BZ := hid (BZ.out.trans (hb.mono (by have := BZ.out.size; have := HZ0.out; omega)))
                refine hK _ _ ⟨SC.out _ BZ.out, ?_⟩
                clear hK hb N
                refine AnyH_one (i := 8) (by kernel_rfl) rfl (by kernel_rfl) (fun K hK => ?_)
                go_simp
                have hb := (Below.refl W22.heap.size W22).alloc (Nat.le_refl _) (.cells #[.string (bs kn.n), .bool kn.h, .int .i64 kn.x] 71)
                have hblk := heap_alloc_new W22 (.cells #[.string (bs kn.n), .bool kn.h, .int .i64 kn.x] 71)
                obtain ⟨bk, hbn⟩ : ∃ b, W22.heap.size = b := ⟨_, rfl⟩
                obtain ⟨W23, hnew⟩ : ∃ w', W22.alloc (.cells #[.string (bs kn.n), .bool kn.h, .int .i64 kn.x] 71) = w' := ⟨_, rfl⟩
                rw [hnew] at hb hblk ⊢
                have hge : B0 ≤ bk := by rw [← hbn]; have := BZ.out.size; have := HZ0.out; omega
                rw [hbn] at hblk ⊢
                replace OWN := hid (owns_below OWN.out hb (Nat.le_refl _))
                replace BX := hid (blk_on BX.out hb)
                replace BZ := hid (BZ.out.trans (hb.mono (by have := BZ.out.size; have := HZ0.out; omega)))
                have KB := hid hblk
                refine hK _ _ ⟨SC.out _ BZ.out, ?_⟩
                clear hK hb hblk hbn hnew hge
                refine AnyH_one (i := 9) (by kernel_rfl) rfl (by kernel_rfl) (fun K hK => ?_)
                obtain ⟨a5, c5, W24, hr, hown5, hg5, hat5⟩ := run_append_ao (P := Tryz.prog) W23 65 65 B0 71 i0 _ 3 32 Tryz.underlying65 hi0 hz0 hz1 hz2 rfl (by omega) (.slice a86 p.length c86) p.length _ OWN.out (some ⟨bk, 0, none⟩) 1 1 [Value.string (bs kn.n), .bool kn.h, .int .i64 kn.x] rfl (fun h => by cases h) (fun ad had => by cases had; exact World.news_of_block (cs := #[.string (bs kn.n), .bool kn.h, .int .i64 kn.x]) (t := 71) (fr := (0, 0)) KB.out) (by simp [Value.oneCell']) (by unfold maxLen; omega) (by omega) (by have := BZ.out.size; have := HZ0.out; omega)
                refine wpIn_value (fun _ => trivial) rfl (exec_append rfl rfl rfl hr) ?_
                have hbl := (Array.getElem?_eq_some_iff.1 BX.out).1
                have NE5 := hid (fun (e : (Value.slice a5 (p.length + 1) c5).ownBlock = some bb) => show False from by
                  rcases hat5 bb e with h | h
                  · exact NE.out h
                  · omega)
                replace BX := hid ((hg5.block bb hbl (fun e => NE.out e.symm)).trans BX.out)
                replace BZ := hid (BZ.out.grown hg5 (by have := BZ.out.size; have := HZ0.out; omega) (fun b hb => (OWN.out.lt b hb).1))
                have OWN5 := hid hown5
                refine hK _ _ ⟨SC.out _ BZ.out, ?_⟩
                clear hK hr hown5 hg5 hat5 OWN KB NE hbl
                refine AnyH_one (i := 11) (by kernel_rfl) rfl (by kernel_rfl) (fun K hK => ?_)
                have cB := cells_get BX.out (k := 0) rfl
                have fB := cells_frz BX.out (k := 0)
                go_simp
                have hX := setCell_at (o := 0) (v := .slice a5 (p.length + 1) c5) BX.out
                have hZ := BZ.out.setCell (p := ⟨bb, 0, none⟩) HGE.out (.slice a5 (p.length + 1) c5)
                have hO : (W24.setCell ⟨bb, 0, none⟩ (.slice a5 (p.length + 1) c5)).ownsRow B0 71 3 (.slice a5 (p.length + 1) c5) (p.length + 1) _ := owns_agree OWN5.out fun g hg => Below.heap_setCell _ _ _ _ (fun e => NE5.out (by rw [hg, e]))
                refine hK _ _ ⟨SC.out _ hZ, ?_⟩
                refine AnyH_done (by kernel_rfl) ?_
                have HX := hid hX
                have HZ := hid hZ
                have HO := hid hO
                clear hK cB fB hX hZ hO
                go_simp
                go_wp2_with fail
                go_meet
                case rel => exact ⟨bb, a5, c5, rfl, HX.out, PtIn.snoc (k := kn) HO.out, BZD.out.trans HZ.out⟩
            · go_simp
              have hb := (Below.refl W0.heap.size W0).alloc (Nat.le_refl _) (.cells #[.int .i64 x3] 3)
              have hblk := heap_alloc_new W0 (.cells #[.int .i64 x3] 3)
              obtain ⟨bn, hbn⟩ : ∃ b, W0.heap.size = b := ⟨_, rfl⟩
              obtain ⟨W26, hnew⟩ : ∃ w', W0.alloc (.cells #[.int .i64 x3] 3) = w' := ⟨_, rfl⟩
              rw [hnew] at hb hblk ⊢
              have hge : B0 ≤ bn := by rw [← hbn]; have := BZ.out.size; have := HZ0.out; omega
              rw [hbn] at hblk ⊢
              replace BZ := hid (BZ.out.trans (hb.mono (by have := BZ.out.size; have := HZ0.out; omega)))
              have N := hid (IsIn.one hblk)
              refine hK _ _ ⟨SC.out _ BZ.out, ?_⟩
              clear hK hb hblk hbn hnew hge
              refine AnyH_two (i := 1) (j := 10) (by kernel_rfl) rfl rfl (by kernel_rfl) (by kernel_rfl) (fun K hK => ?_) (fun K hK => ?_)
              · go_simp
                refine ⟨trivial, (callsIn_wide.2 (dupK_own p ap cp (fun q => q < B0) W26 (HPB.out.agree (Agree.of_below BZ.out (fun _ h => h))) (fun q h => by have := BZ.out.size; have := HZ0.out; omega) lp)).mono ?_⟩
                rintro e W27 ⟨a86, c86, rfl, hown, hb⟩
                have OWN := hid (owns_base (base' := B0) hown (fun g hg => by have := (hown.lt g hg).1; have := BZ.out.size; have := HZ0.out; omega))
                replace N := hid (N.out.on hb)
                replace BZ := hid (BZ.out.trans (hb.mono (by have := BZ.out.size; have := HZ0.out; omega)))
                refine hK _ _ ⟨SC.out _ BZ.out, ?_⟩
                clear hK hb hown
                refine AnyH_two (i := 7) (j := 10) (by kernel_rfl) rfl rfl (by kernel_rfl) (by kernel_rfl) (fun K hK => ?_) (fun K hK => ?_)
                · go_simp
                  refine ⟨trivial, (callsIn_wide.2 (kOf_any caN [(x3 : Int)] (some ⟨bn, 0, none⟩) 1 (fun q => q < W27.heap.size) W27 N.out (fun _ h => h))).mono ?_⟩
                  rintro e W28 ⟨he, hb⟩
                  rw [HKN.out] at he
                  subst he
                  replace OWN := hid (owns_below OWN.out hb (Nat.le_refl _))
                  replace BZ := hid (BZ.out.trans (hb.mono (by have := BZ.out.size; have := HZ0.out; omega)))
                  refine hK _ _ ⟨SC.out _ BZ.out, ?_⟩
                  clear hK hb N
                  refine AnyH_two (i := 8) (j := 10) (by kernel_rfl) rfl rfl (by kernel_rfl) (by kernel_rfl) (fun K hK => ?_) (fun K hK => ?_)
                  · go_simp
                    have hb := (Below.refl W28.heap.size W28).alloc (Nat.le_refl _) (.cells #[.string (bs kn.n), .bool kn.h, .int .i64 kn.x] 71)
                    have hblk := heap_alloc_new W28 (.cells #[.string (bs kn.n), .bool kn.h, .int .i64 kn.x] 71)
                    obtain ⟨bk, hbn⟩ : ∃ b, W28.heap.size = b := ⟨_, rfl⟩
                    obtain ⟨W29, hnew⟩ : ∃ w', W28.alloc (.cells #[.string (bs kn.n), .bool kn.h, .int .i64 kn.x] 71) = w' := ⟨_, rfl⟩
                    rw [hnew] at hb hblk ⊢
                    have hge : B0 ≤ bk := by rw [← hbn]; have := BZ.out.size; have := HZ0.out; omega
                    rw [hbn] at hblk ⊢
                    replace OWN := hid (owns_below OWN.out hb (Nat.le_refl _))
                    replace BZ := hid (BZ.out.trans (hb.mono (by have := BZ.out.size; have := HZ0.out; omega)))
                    have KB := hid hblk
                    refine hK _ _ ⟨SC.out _ BZ.out, ?_⟩
                    clear hK hb hblk hbn hnew hge
                    refine AnyH_two (i := 9) (j := 10) (by kernel_rfl) rfl rfl (by kernel_rfl) (by kernel_rfl) (fun K hK => ?_) (fun K hK => ?_)
                    · obtain ⟨a5, c5, W30, hr, hown5, hg5, hat5⟩ := run_append_ao (P := Tryz.prog) W29 65 65 B0 71 i0 _ 3 32 Tryz.underlying65 hi0 hz0 hz1 hz2 rfl (by omega) (.slice a86 p.length c86) p.length _ OWN.out (some ⟨bk, 0, none⟩) 1 1 [Value.string (bs kn.n), .bool kn.h, .int .i64 kn.x] rfl (fun h => by cases h) (fun ad had => by cases had; exact World.news_of_block (cs := #[.string (bs kn.n), .bool kn.h, .int .i64 kn.x]) (t := 71) (fr := (0, 0)) KB.out) (by simp [Value.oneCell']) (by unfold maxLen; omega) (by omega) (by have := BZ.out.size; have := HZ0.out; omega)
                      refine wpIn_value (fun _ => trivial) rfl (exec_append rfl rfl rfl hr) ?_
                      replace BZ := hid (BZ.out.grown hg5 (by have := BZ.out.size; have := HZ0.out; omega) (fun b hb => (OWN.out.lt b hb).1))
                      have OWN5 := hid hown5
                      refine hK _ _ ⟨SC.out _ BZ.out, ?_⟩
                      clear hK hr hown5 hg5 hat5 OWN KB
                      refine AnyH_one (i := 10) (by kernel_rfl) rfl (by kernel_rfl) (fun K hK => ?_)
                      go_simp
                      have hb := (Below.refl W30.heap.size W30).alloc (Nat.le_refl _) (.cells #[.slice none 0 0] 65)
                      have hblk := heap_alloc_new W30 (.cells #[.slice none 0 0] 65)
                      obtain ⟨bb, hbn⟩ : ∃ b, W30.heap.size = b := ⟨_, rfl⟩
                      obtain ⟨W31, hnew⟩ : ∃ w', W30.alloc (.cells #[.slice none 0 0] 65) = w' := ⟨_, rfl⟩
                      rw [hnew] at hb hblk ⊢
                      have hge : B0 ≤ bb := by rw [← hbn]; have := BZ.out.size; have := HZ0.out; omega
                      have NE5 := hid (fun e => show False from by have := (OWN5.out.lt bb e).2; omega)
                      rw [hbn] at hblk ⊢
                      replace OWN5 := hid (owns_below OWN5.out hb (Nat.le_refl _))
                      replace BZ := hid (BZ.out.trans (hb.mono (by have := BZ.out.size; have := HZ0.out; omega)))
                      have BX := hid hblk
                      have HGE := hid hge
                      refine hK _ _ ⟨SC.out _ BZ.out, ?_⟩
                      clear hK hb hblk hbn hnew hge
                      refine AnyH_one (i := 11) (by kernel_rfl) rfl (by kernel_rfl) (fun K hK => ?_)
                      have cB := cells_get BX.out (k := 0) rfl
                      have fB := cells_frz BX.out (k := 0)
                      go_simp
                      have hX := setCell_at (o := 0) (v := .slice a5 (p.length + 1) c5) BX.out
                      have hZ := BZ.out.setCell (p := ⟨bb, 0, none⟩) HGE.out (.slice a5 (p.length + 1) c5)
                      have hO : (W31.setCell ⟨bb, 0, none⟩ (.slice a5 (p.length + 1) c5)).ownsRow B0 71 3 (.slice a5 (p.length + 1) c5) (p.length + 1) _ := owns_agree OWN5.out fun g hg => Below.heap_setCell _ _ _ _ (fun e => NE5.out (by rw [hg, e]))
                      refine hK _ _ ⟨SC.out _ hZ, ?_⟩
                      refine AnyH_done (by kernel_rfl) ?_
                      have HX := hid hX
                      have HZ := hid hZ
                      have HO := hid hO
                      clear hK cB fB hX hZ hO
                      go_simp
                      go_wp2_with fail
                      go_meet
                      case rel => exact ⟨bb, a5, c5, rfl, HX.out, PtIn.snoc (k := kn) HO.out, BZD.out.trans HZ.out⟩
                    · go_simp
                      have hb := (Below.refl W29.heap.size W29).alloc (Nat.le_refl _) (.cells #[.slice none 0 0] 65)
                      have hblk := heap_alloc_new W29 (.cells #[.slice none 0 0] 65)
                      obtain ⟨bb, hbn⟩ : ∃ b, W29.heap.size = b := ⟨_, rfl⟩
                      obtain ⟨W33, hnew⟩ : ∃ w', W29.alloc (.cells #[.slice none 0 0] 65) = w' := ⟨_, rfl⟩
                      rw [hnew] at hb hblk ⊢
                      have hge : B0 ≤ bb := by rw [← hbn]; have := BZ.out.size; have := HZ0.out; omega
                      have NE := hid (fun e => show False from by have := (OWN.out.lt bb e).2; omega)
                      rw [hbn] at hblk ⊢
                      replace OWN := hid (owns_below OWN.out hb (Nat.le_refl _))
                      replace KB := hid (blk_on KB.out hb)
                      replace BZ := hid (BZ.out.trans (hb.mono (by have := BZ.out.size; have := HZ0.out; omega)))
                      have BX := hid hblk
                      have HGE := hid hge
                      refine hK _ _ ⟨SC.out _ BZ.out, ?_⟩
                      clear hK hb hblk hbn hnew hge
                      refine AnyH_one (i := 9) (by kernel_rfl) rfl (by kernel_rfl) (fun K hK => ?_)
                      obtain ⟨a5, c5, W34, hr, hown5, hg5, hat5⟩ := run_append_ao (P := Tryz.prog) W33 65 65 B0 71 i0 _ 3 32 Tryz.underlying65 hi0 hz0 hz1 hz2 rfl (by omega) (.slice a86 p.length c86) p.length _ OWN.out (some ⟨bk, 0, none⟩) 1 1 [Value.string (bs kn.n), .bool kn.h, .int .i64 kn.x] rfl (fun h => by cases h) (fun ad had => by cases had; exact World.news_of_block (cs := #[.string (bs kn.n), .bool kn.h, .int .i64 kn.x]) (t := 71) (fr := (0, 0)) KB.out) (by simp [Value.oneCell']) (by unfold maxLen; omega) (by omega) (by have := BZ.out.size; have := HZ0.out; omega)
                      refine wpIn_value (fun _ => trivial) rfl (exec_append rfl rfl rfl hr) ?_
                      have hbl := (Array.getElem?_eq_some_iff.1 BX.out).1
                      have NE5 := hid (fun (e : (Value.slice a5 (p.length + 1) c5).ownBlock = some bb) => show False from by
                        rcases hat5 bb e with h | h
                        · exact NE.out h
                        · omega)
                      replace BX := hid ((hg5.block bb hbl (fun e => NE.out e.symm)).trans BX.out)
                      replace BZ := hid (BZ.out.grown hg5 (by have := BZ.out.size; have := HZ0.out; omega) (fun b hb => (OWN.out.lt b hb).1))
                      have OWN5 := hid hown5
                      refine hK _ _ ⟨SC.out _ BZ.out, ?_⟩
                      clear hK hr hown5 hg5 hat5 OWN KB NE hbl
                      refine AnyH_one (i := 11) (by kernel_rfl) rfl (by kernel_rfl) (fun K hK => ?_)
                      have cB := cells_get BX.out (k := 0) rfl
                      have fB := cells_frz BX.out (k := 0)
                      go_simp
                      have hX := setCell_at (o := 0) (v := .slice a5 (p.length + 1) c5) BX.out
                      have hZ := BZ.out.setCell (p := ⟨bb, 0, none⟩) HGE.out (.slice a5 (p.length + 1) c5)
                      have hO : (W34.setCell ⟨bb, 0, none⟩ (.slice a5 (p.length + 1) c5)).ownsRow B0 71 3 (.slice a5 (p.length + 1) c5) (p.length + 1) _ := owns_agree OWN5.out fun g hg => Below.heap_setCell _ _ _ _ (fun e => NE5.out (by rw [hg, e]))
                      refine hK _ _ ⟨SC.out _ hZ, ?_⟩
                      refine AnyH_done (by kernel_rfl) ?_
                      have HX := hid hX
                      have HZ := hid hZ
                      have HO := hid hO
                      clear hK cB fB hX hZ hO
                      go_simp
                      go_wp2_with fail
                      go_meet
                      case rel => exact ⟨bb, a5, c5, rfl, HX.out, PtIn.snoc (k := kn) HO.out, BZD.out.trans HZ.out⟩
                  · go_simp
                    have hb := (Below.refl W28.heap.size W28).alloc (Nat.le_refl _) (.cells #[.slice none 0 0] 65)
                    have hblk := heap_alloc_new W28 (.cells #[.slice none 0 0] 65)
                    obtain ⟨bb, hbn⟩ : ∃ b, W28.heap.size = b := ⟨_, rfl⟩
                    obtain ⟨W36, hnew⟩ : ∃ w', W28.alloc (.cells #[.slice none 0 0] 65) = w' := ⟨_, rfl⟩
                    rw [hnew] at hb hblk ⊢
                    have hge : B0 ≤ bb := by rw [← hbn]; have := BZ.out.size; have := HZ0.out; omega
                    have NE := hid (fun e => show False from by have := (OWN.out.lt bb e).2; omega)
                    rw [hbn] at hblk ⊢
                    replace OWN := hid (owns_below OWN.out hb (Nat.le_refl _))
                    replace BZ := hid (BZ.out.trans (hb.mono (by have := BZ.out.size; have := HZ0.out; omega)))
                    have BX := hid hblk
                    have HGE := hid hge
                    refine hK _ _ ⟨SC.out _ BZ.out, ?_⟩
                    clear hK hb hblk hbn hnew hge
                    refine AnyH_one (i := 8) (by kernel_rfl) rfl (by kernel_rfl) (fun K hK => ?_)
                    go_simp
                    have hb := (Below.refl W36.heap.size W36).alloc (Nat.le_refl _) (.cells #[.string (bs kn.n), .bool kn.h, .int .i64 kn.x] 71)
                    have hblk := heap_alloc_new W36 (.cells #[.string (bs kn.n), .bool kn.h, .int .i64 kn.x] 71)
                    obtain ⟨bk, hbn⟩ : ∃ b, W36.heap.size = b := ⟨_, rfl⟩
                    obtain ⟨W37, hnew⟩ : ∃ w', W36.alloc (.cells #[.string (bs kn.n), .bool kn.h, .int .i64 kn.x] 71) = w' := ⟨_, rfl⟩
                    rw [hnew] at hb hblk ⊢
                    have hge : B0 ≤ bk := by rw [← hbn]; have := BZ.out.size; have := HZ0.out; omega
                    rw [hbn] at hblk ⊢
                    replace OWN := hid (owns_below OWN.out hb (Nat.le_refl _))
                    replace BX := hid (blk_on BX.out hb)
                    replace BZ := hid (BZ.out.trans (hb.mono (by have := BZ.out.size; have := HZ0.out; omega)))
                    have KB := hid hblk
                    refine hK _ _ ⟨SC.out _ BZ.out, ?_⟩
                    clear hK hb hblk hbn hnew hge
                    refine AnyH_one (i := 9) (by kernel_rfl) rfl (by kernel_rfl) (fun K hK => ?_)
                    obtain ⟨a5, c5, W38, hr, hown5, hg5, hat5⟩ := run_append_ao (P := Tryz.prog) W37 65 65 B0 71 i0 _ 3 32 Tryz.underlying65 hi0 hz0 hz1 hz2 rfl (by omega) (.slice a86 p.length c86) p.length _ OWN.out (some ⟨bk, 0, none⟩) 1 1 [Value.string (bs kn.n), .bool kn.h, .int .i64 kn.x] rfl (fun h => by cases h) (fun ad had => by cases had; exact World.news_of_block (cs := #[.string (bs kn.n), .bool kn.h, .int .i64 kn.x]) (t := 71) (fr := (0, 0)) KB.out) (by simp [Value.oneCell']) (by unfold maxLen; omega) (by omega) (by have := BZ.out.size; have := HZ0.out; omega)
                    refine wpIn_value (fun _ => trivial) rfl (exec_append rfl rfl rfl hr) ?_
                    have hbl := (Array.getElem?_eq_some_iff.1 BX.out).1
                    have NE5 := hid (fun (e : (Value.slice a5 (p.length + 1) c5).ownBlock = some bb) => show False from by
                      rcases hat5 bb e with h | h
                      · exact NE.out h
                      · omega)
                    replace BX := hid ((hg5.block bb hbl (fun e => NE.out e.symm)).trans BX.out)
                    replace BZ := hid (BZ.out.grown hg5 (by have := BZ.out.size; have := HZ0.out; omega) (fun b hb => (OWN.out.lt b hb).1))
                    have OWN5 := hid hown5
                    refine hK _ _ ⟨SC.out _ BZ.out, ?_⟩
                    clear hK hr hown5 hg5 hat5 OWN KB NE hbl
                    refine AnyH_one (i := 11) (by kernel_rfl) rfl (by kernel_rfl) (fun K hK => ?_)
                    have cB := cells_get BX.out (k := 0) rfl
                    have fB := cells_frz BX.out (k := 0)
                    go_simp
                    have hX := setCell_at (o := 0) (v := .slice a5 (p.length + 1) c5) BX.out
                    have hZ := BZ.out.setCell (p := ⟨bb, 0, none⟩) HGE.out (.slice a5 (p.length + 1) c5)
                    have hO : (W38.setCell ⟨bb, 0, none⟩ (.slice a5 (p.length + 1) c5)).ownsRow B0 71 3 (.slice a5 (p.length + 1) c5) (p.length + 1) _ := owns_agree OWN5.out fun g hg => Below.heap_setCell _ _ _ _ (fun e => NE5.out (by rw [hg, e]))
                    refine hK _ _ ⟨SC.out _ hZ, ?_⟩
                    refine AnyH_done (by kernel_rfl) ?_
                    have HX := hid hX
                    have HZ := hid hZ
                    have HO := hid hO
                    clear hK cB fB hX hZ hO
                    go_simp
                    go_wp2_with fail
                    go_meet
                    case rel => exact ⟨bb, a5, c5, rfl, HX.out, PtIn.snoc (k := kn) HO.out, BZD.out.trans HZ.out⟩
                · go_simp
                  have hb := (Below.refl W27.heap.size W27).alloc (Nat.le_refl _) (.cells #[.slice none 0 0] 65)
                  have hblk := heap_alloc_new W27 (.cells #[.slice none 0 0] 65)
                  obtain ⟨bb, hbn⟩ : ∃ b, W27.heap.size = b := ⟨_, rfl⟩
                  obtain ⟨W40, hnew⟩ : ∃ w', W27.alloc (.cells #[.slice none 0 0] 65) = w' := ⟨_, rfl⟩
                  rw [hnew] at hb hblk ⊢
                  have hge : B0 ≤ bb := by rw [← hbn]; have := BZ.out.size; have := HZ0.out; omega
                  have NE := hid (fun e => show False from by have := (OWN.out.lt bb e).2; omega)
                  rw [hbn] at hblk ⊢
                  replace OWN := hid (owns_below OWN.out hb (Nat.le_refl _))
                  replace N := hid (N.out.on hb)
                  replace BZ := hid (BZ.out.trans (hb.mono (by have := BZ.out.size; have := HZ0.out; omega)))
                  have BX := hid hblk
                  have HGE := hid hge
                  refine hK _ _ ⟨SC.out _ BZ.out, ?_⟩
                  clear hK hb hblk hbn hnew hge
                  refine AnyH_one (i := 7) (by kernel_rfl) rfl (by kernel_rfl) (fun K hK => ?_)
                  go_simp
                  refine ⟨trivial, (callsIn_wide.2 (kOf_any caN [(x3 : Int)] (some ⟨bn, 0, none⟩) 1 (fun q => q < W40.heap.size) W40 N.out (fun _ h => h))).mono ?_⟩
                  rintro e W41 ⟨he, hb⟩
                  rw [HKN.out] at he
                  subst he
                  replace OWN := hid (owns_below OWN.out hb (Nat.le_refl _))
                  replace BX := hid (blk_on BX.out hb)
                  replace BZ := hid (BZ.out.trans (hb.mono (by have := BZ.out.size; have := HZ0.out; omega)))
                  refine hK _ _ ⟨SC.out _ BZ.out, ?_⟩
                  clear hK hb N
                  refine AnyH_one (i := 8) (by kernel_rfl) rfl (by kernel_rfl) (fun K hK => ?_)
                  go_simp
                  have hb := (Below.refl W41.heap.size W41).alloc (Nat.le_refl _) (.cells #[.string (bs kn.n), .bool kn.h, .int .i64 kn.x] 71)
                  have hblk := heap_alloc_new W41 (.cells #[.string (bs kn.n), .bool kn.h, .int .i64 kn.x] 71)
                  obtain ⟨bk, hbn⟩ : ∃ b, W41.heap.size = b := ⟨_, rfl⟩
                  obtain ⟨W42, hnew⟩ : ∃ w', W41.alloc (.cells #[.string (bs kn.n), .bool kn.h, .int .i64 kn.x] 71) = w' := ⟨_, rfl⟩
                  rw [hnew] at hb hblk ⊢
                  have hge : B0 ≤ bk := by rw [← hbn]; have := BZ.out.size; have := HZ0.out; omega
                  rw [hbn] at hblk ⊢
                  replace OWN := hid (owns_below OWN.out hb (Nat.le_refl _))
                  replace BX := hid (blk_on BX.out hb)
                  replace BZ := hid (BZ.out.trans (hb.mono (by have := BZ.out.size; have := HZ0.out; omega)))
                  have KB := hid hblk
                  refine hK _ _ ⟨SC.out _ BZ.out, ?_⟩
                  clear hK hb hblk hbn hnew hge
                  refine AnyH_one (i := 9) (by kernel_rfl) rfl (by kernel_rfl) (fun K hK => ?_)
                  obtain ⟨a5, c5, W43, hr, hown5, hg5, hat5⟩ := run_append_ao (P := Tryz.prog) W42 65 65 B0 71 i0 _ 3 32 Tryz.underlying65 hi0 hz0 hz1 hz2 rfl (by omega) (.slice a86 p.length c86) p.length _ OWN.out (some ⟨bk, 0, none⟩) 1 1 [Value.string (bs kn.n), .bool kn.h, .int .i64 kn.x] rfl (fun h => by cases h) (fun ad had => by cases had; exact World.news_of_block (cs := #[.string (bs kn.n), .bool kn.h, .int .i64 kn.x]) (t := 71) (fr := (0, 0)) KB.out) (by simp [Value.oneCell']) (by unfold maxLen; omega) (by omega) (by have := BZ.out.size; have := HZ0.out; omega)
                  refine wpIn_value (fun _ => trivial) rfl (exec_append rfl rfl rfl hr) ?_
                  have hbl := (Array.getElem?_eq_some_iff.1 BX.out).1
                  have NE5 := hid (fun (e : (Value.slice a5 (p.length + 1) c5).ownBlock = some bb) => show False from by
                    rcases hat5 bb e with h | h
                    · exact NE.out h
                    · omega)
                  replace BX := hid ((hg5.block bb hbl (fun e => NE.out e.symm)).trans BX.out)
                  replace BZ := hid (BZ.out.grown hg5 (by have := BZ.out.size; have := HZ0.out; omega) (fun b hb => (OWN.out.lt b hb).1))
                  have OWN5 := hid hown5
                  refine hK _ _ ⟨SC.out _ BZ.out, ?_⟩
                  clear hK hr hown5 hg5 hat5 OWN KB NE hbl
                  refine AnyH_one (i := 11) (by kernel_rfl) rfl (by kernel_rfl) (fun K hK => ?_)
                  have cB := cells_get BX.out (k := 0) rfl
                  have fB := cells_frz BX.out (k := 0)
                  go_simp
                  have hX := setCell_at (o := 0) (v := .slice a5 (p.length + 1) c5) BX.out
                  have hZ := BZ.out.setCell (p := ⟨bb, 0, none⟩) HGE.out (.slice a5 (p.length + 1) c5)
                  have hO : (W43.setCell ⟨bb, 0, none⟩ (.slice a5 (p.length + 1) c5)).ownsRow B0 71 3 (.slice a5 (p.length + 1) c5) (p.length + 1) _ := owns_agree OWN5.out fun g hg => Below.heap_setCell _ _ _ _ (fun e => NE5.out (by rw [hg, e]))
                  refine hK _ _ ⟨SC.out _ hZ, ?_⟩
                  refine AnyH_done (by kernel_rfl) ?_
                  have HX := hid hX
                  have HZ := hid hZ
                  have HO := hid hO
                  clear hK cB fB hX hZ hO
                  go_simp
                  go_wp2_with fail
                  go_meet
                  case rel => exact ⟨bb, a5, c5, rfl, HX.out, PtIn.snoc (k := kn) HO.out, BZD.out.trans HZ.out⟩
              · go_simp
                have hb := (Below.refl W26.heap.size W26).alloc (Nat.le_refl _) (.cells #[.slice none 0 0] 65)
                have hblk := heap_alloc_new W26 (.cells #[.slice none 0 0] 65)
                obtain ⟨bb, hbn⟩ : ∃ b, W26.heap.size = b := ⟨_, rfl⟩
                obtain ⟨W45, hnew⟩ : ∃ w', W26.alloc (.cells #[.slice none 0 0] 65) = w' := ⟨_, rfl⟩
                rw [hnew] at hb hblk ⊢
                have hge : B0 ≤ bb := by rw [← hbn]; have := BZ.out.size; have := HZ0.out; omega
                rw [hbn] at hblk ⊢
                replace N := hid (N.out.on hb)
                replace BZ := hid (BZ.out.trans (hb.mono (by have := BZ.out.size; have := HZ0.out; omega)))
                have BX := hid hblk
                have HGE := hid hge
                refine hK _ _ ⟨SC.out _ BZ.out, ?_⟩
                clear hK hb hblk hbn hnew hge
                refine AnyH_one (i := 1) (by kernel_rfl) rfl (by kernel_rfl) (fun K hK => ?_)
                go_simp
                refine ⟨trivial, (callsIn_wide.2 (dupK_own p ap cp (fun q => q < B0) W45 (HPB.out.agree (Agree.of_below BZ.out (fun _ h => h))) (fun q h => by have := BZ.out.size; have := HZ0.out; omega) lp)).mono ?_⟩
                rintro e W46 ⟨a86, c86, rfl, hown, hb⟩
                have NE := hid (fun e => show False from by have h1 := (hown.lt bb e).1; have h2 := (Array.getElem?_eq_some_iff.1 BX.out).1; omega)
                have OWN := hid (owns_base (base' := B0) hown (fun g hg => by have := (hown.lt g hg).1; have := BZ.out.size; have := HZ0.out; omega))
                replace N := hid (N.out.on hb)
                replace BX := hid (blk_on BX.out hb)
                replace BZ := hid (BZ.out.trans (hb.mono (by have := BZ.out.size; have := HZ0.out; omega)))
                refine hK _ _ ⟨SC.out _ BZ.out, ?_⟩
                clear hK hb hown
                refine AnyH_one (i := 7) (by kernel_rfl) rfl (by kernel_rfl) (fun K hK => ?_)
                go_simp
                refine ⟨trivial, (callsIn_wide.2 (kOf_any caN [(x3 : Int)] (some ⟨bn, 0, none⟩) 1 (fun q => q < W46.heap.size) W46 N.out (fun _ h => h))).mono ?_⟩
                rintro e W47 ⟨he, hb⟩
                rw [HKN.out] at he
                subst he
                replace OWN := hid (owns_below OWN.out hb (Nat.le_refl _))
                replace BX := hid (blk_on BX.out hb)
                replace BZ := hid (BZ.out.trans (hb.mono (by have := BZ.out.size; have := HZ0.out; omega)))
                refine hK _ _ ⟨SC.out _ BZ.out, ?_⟩
                clear hK hb N
                refine AnyH_one (i := 8) (by kernel_rfl) rfl (by kernel_rfl) (fun K hK => ?_)
                go_simp
                have hb := (Below.refl W47.heap.size W47).alloc (Nat.le_refl _) (.cells #[.string (bs kn.n), .bool kn.h, .int .i64 kn.x] 71)
                have hblk := heap_alloc_new W47 (.cells #[.string (bs kn.n), .bool kn.h, .int .i64 kn.x] 71)
                obtain ⟨bk, hbn⟩ : ∃ b, W47.heap.size = b := ⟨_, rfl⟩
                obtain ⟨W48, hnew⟩ : ∃ w', W47.alloc (.cells #[.string (bs kn.n), .bool kn.h, .int .i64 kn.x] 71) = w' := ⟨_, rfl⟩
                rw [hnew] at hb hblk ⊢
                have hge : B0 ≤ bk := by rw [← hbn]; have := BZ.out.size; have := HZ0.out; omega
                rw [hbn] at hblk ⊢
                replace OWN := hid (owns_below OWN.out hb (Nat.le_refl _))
                replace BX := hid (blk_on BX.out hb)
                replace BZ := hid (BZ.out.trans (hb.mono (by have := BZ.out.size; have := HZ0.out; omega)))
                have KB := hid hblk
                refine hK _ _ ⟨SC.out _ BZ.out, ?_⟩
                clear hK hb hblk hbn hnew hge
                refine AnyH_one (i := 9) (by kernel_rfl) rfl (by kernel_rfl) (fun K hK => ?_)
                obtain ⟨a5, c5, W49, hr, hown5, hg5, hat5⟩ := run_append_ao (P := Tryz.prog) W48 65 65 B0 71 i0 _ 3 32 Tryz.underlying65 hi0 hz0 hz1 hz2 rfl (by omega) (.slice a86 p.length c86) p.length _ OWN.out (some ⟨bk, 0, none⟩) 1 1 [Value.string (bs kn.n), .bool kn.h, .int .i64 kn.x] rfl (fun h => by cases h) (fun ad had => by cases had; exact World.news_of_block (cs := #[.string (bs kn.n), .bool kn.h, .int .i64 kn.x]) (t := 71) (fr := (0, 0)) KB.out) (by simp [Value.oneCell']) (by unfold maxLen; omega) (by omega) (by have := BZ.out.size; have := HZ0.out; omega)
                refine wpIn_value (fun _ => trivial) rfl (exec_append rfl rfl rfl hr) ?_
                have hbl := (Array.getElem?_eq_some_iff.1 BX.out).1
                have NE5 := hid (fun (e : (Value.slice a5 (p.length + 1) c5).ownBlock = some bb) => show False from by
                  rcases hat5 bb e with h | h
                  · exact NE.out h
                  · omega)
                replace BX := hid ((hg5.block bb hbl (fun e => NE.out e.symm)).trans BX.out)
                replace BZ := hid (BZ.out.grown hg5 (by have := BZ.out.size; have := HZ0.out; omega) (fun b hb => (OWN.out.lt b hb).1))
                have OWN5 := hid hown5
                refine hK _ _ ⟨SC.out _ BZ.out, ?_⟩
                clear hK hr hown5 hg5 hat5 OWN KB NE hbl
                refine AnyH_one (i := 11) (by kernel_rfl) rfl (by kernel_rfl) (fun K hK => ?_)
                have cB := cells_get BX.out (k := 0) rfl
                have fB := cells_frz BX.out (k := 0)
                go_simp
                have hX := setCell_at (o := 0) (v := .slice a5 (p.length + 1) c5) BX.out
                have hZ := BZ.out.setCell (p := ⟨bb, 0, none⟩) HGE.out (.slice a5 (p.length + 1) c5)
                have hO : (W49.setCell ⟨bb, 0, none⟩ (.slice a5 (p.length + 1) c5)).ownsRow B0 71 3 (.slice a5 (p.length + 1) c5) (p.length + 1) _ := owns_agree OWN5.out fun g hg => Below.heap_setCell _ _ _ _ (fun e => NE5.out (by rw [hg, e]))
                refine hK _ _ ⟨SC.out _ hZ, ?_⟩
                refine AnyH_done (by kernel_rfl) ?_
                have HX := hid hX
                have HZ := hid hZ
                have HO := hid hO
                clear hK cB fB hX hZ hO
                go_simp
                go_wp2_with fail
                go_meet
                case rel => exact ⟨bb, a5, c5, rfl, HX.out, PtIn.snoc (k := kn) HO.out, BZD.out.trans HZ.out⟩
            · go_simp
              have hb := (Below.refl W0.heap.size W0).alloc (Nat.le_refl _) (.cells #[.slice none 0 0] 65)
              have hblk := heap_alloc_new W0 (.cells #[.slice none 0 0] 65)
              obtain ⟨bb, hbn⟩ : ∃ b, W0.heap.size = b := ⟨_, rfl⟩
              obtain ⟨W51, hnew⟩ : ∃ w', W0.alloc (.cells #[.slice none 0 0] 65) = w' := ⟨_, rfl⟩
              rw [hnew] at hb hblk ⊢
              have hge : B0 ≤ bb := by rw [← hbn]; have := BZ.out.size; have := HZ0.out; omega
              rw [hbn] at hblk ⊢
              replace BZ := hid (BZ.out.trans (hb.mono (by have := BZ.out.size; have := HZ0.out; omega)))
              have BX := hid hblk
              have HGE := hid hge
              refine hK _ _ ⟨SC.out _ BZ.out, ?_⟩
              clear hK hb hblk hbn hnew hge
              refine AnyH_two (i := 1) (j := 6) (by kernel_rfl) rfl rfl (by kernel_rfl) (by kernel_rfl) (fun K hK => ?_) (fun K hK => ?_)
              · go_simp
                refine ⟨trivial, (callsIn_wide.2 (dupK_own p ap cp (fun q => q < B0) W51 (HPB.out.agree (Agree.of_below BZ.out (fun _ h => h))) (fun q h => by have := BZ.out.size; have := HZ0.out; omega) lp)).mono ?_⟩
                rintro e W52 ⟨a86, c86, rfl, hown, hb⟩
                have NE := hid (fun e => show False from by have h1 := (hown.lt bb e).1; have h2 := (Array.getElem?_eq_some_iff.1 BX.out).1; omega)
                have OWN := hid (owns_base (base' := B0) hown (fun g hg => by have := (hown.lt g hg).1; have := BZ.out.size; have := HZ0.out; omega))
                replace BX := hid (blk_on BX.out hb)
                replace BZ := hid (BZ.out.trans (hb.mono (by have := BZ.out.size; have := HZ0.out; omega)))
                refine hK _ _ ⟨SC.out _ BZ.out, ?_⟩
                clear hK hb hown
                refine AnyH_one (i := 6) (by kernel_rfl) rfl (by kernel_rfl) (fun K hK => ?_)
                go_simp
                have hb := (Below.refl W52.heap.size W52).alloc (Nat.le_refl _) (.cells #[.int .i64 x3] 3)
                have hblk := heap_alloc_new W52 (.cells #[.int .i64 x3] 3)
                obtain ⟨bn, hbn⟩ : ∃ b, W52.heap.size = b := ⟨_, rfl⟩
                obtain ⟨W53, hnew⟩ : ∃ w', W52.alloc (.cells #[.int .i64 x3] 3) = w' := ⟨_, rfl⟩
                rw [hnew] at hb hblk ⊢
                have hge : B0 ≤ bn := by rw [← hbn]; have := BZ.out.size; have := HZ0.out; omega
                rw [hbn] at hblk ⊢
                replace OWN := hid (owns_below OWN.out hb (Nat.le_refl _))
                replace BX := hid (blk_on BX.out hb)
                replace BZ := hid (BZ.out.trans (hb.mono (by have := BZ.out.size; have := HZ0.out; omega)))
                have N := hid (IsIn.one hblk)
                refine hK _ _ ⟨SC.out _ BZ.out, ?_⟩
                clear hK hb hblk hbn hnew hge
                refine AnyH_one (i := 7) (by kernel_rfl) rfl (by kernel_rfl) (fun K hK => ?_)
                go_simp
                refine ⟨trivial, (callsIn_wide.2 (kOf_any caN [(x3 : Int)] (some ⟨bn, 0, none⟩) 1 (fun q => q < W53.heap.size) W53 N.out (fun _ h => h))).mono ?_⟩
                rintro e W54 ⟨he, hb⟩
                rw [HKN.out] at he
                subst he
                replace OWN := hid (owns_below OWN.out hb (Nat.le_refl _))
                replace BX := hid (blk_on BX.out hb)
                replace BZ := hid (BZ.out.trans (hb.mono (by have := BZ.out.size; have := HZ0.out; omega)))
                refine hK _ _ ⟨SC.out _ BZ.out, ?_⟩
                clear hK hb N
                refine AnyH_one (i := 8) (by kernel_rfl) rfl (by kernel_rfl) (fun K hK => ?_)
                go_simp
                have hb := (Below.refl W54.heap.size W54).alloc (Nat.le_refl _) (.cells #[.string (bs kn.n), .bool kn.h, .int .i64 kn.x] 71)
                have hblk := heap_alloc_new W54 (.cells #[.string (bs kn.n), .bool kn.h, .int .i64 kn.x] 71)
                obtain ⟨bk, hbn⟩ : ∃ b, W54.heap.size = b := ⟨_, rfl⟩
                obtain ⟨W55, hnew⟩ : ∃ w', W54.alloc (.cells #[.string (bs kn.n), .bool kn.h, .int .i64 kn.x] 71) = w' := ⟨_, rfl⟩
                rw [hnew] at hb hblk ⊢
                have hge : B0 ≤ bk := by rw [← hbn]; have := BZ.out.size; have := HZ0.out; omega
                rw [hbn] at hblk ⊢
                replace OWN := hid (owns_below OWN.out hb (Nat.le_refl _))
                replace BX := hid (blk_on BX.out hb)
                replace BZ := hid (BZ.out.trans (hb.mono (by have := BZ.out.size; have := HZ0.out; omega)))
                have KB := hid hblk
                refine hK _ _ ⟨SC.out _ BZ.out, ?_⟩
                clear hK hb hblk hbn hnew hge
                refine AnyH_one (i := 9) (by kernel_rfl) rfl (by kernel_rfl) (fun K hK => ?_)
                obtain ⟨a5, c5, W56, hr, hown5, hg5, hat5⟩ := run_append_ao (P := Tryz.prog) W55 65 65 B0 71 i0 _ 3 32 Tryz.underlying65 hi0 hz0 hz1 hz2 rfl (by omega) (.slice a86 p.length c86) p.length _ OWN.out (some ⟨bk, 0, none⟩) 1 1 [Value.string (bs kn.n), .bool kn.h, .int .i64 kn.x] rfl (fun h => by cases h) (fun ad had => by cases had; exact World.news_of_block (cs := #[.string (bs kn.n), .bool kn.h, .int .i64 kn.x]) (t := 71) (fr := (0, 0)) KB.out) (by simp [Value.oneCell']) (by unfold maxLen; omega) (by omega) (by have := BZ.out.size; have := HZ0.out; omega)
                refine wpIn_value (fun _ => trivial) rfl (exec_append rfl rfl rfl hr) ?_
                have hbl := (Array.getElem?_eq_some_iff.1 BX.out).1
                have NE5 := hid (fun (e : (Value.slice a5 (p.length + 1) c5).ownBlock = some bb) => show False from by
                  rcases hat5 bb e with h | h
                  · exact NE.out h
                  · omega)
                replace BX := hid ((hg5.block bb hbl (fun e => NE.out e.symm)).trans BX.out)
                replace BZ := hid (BZ.out.grown hg5 (by have := BZ.out.size; have := HZ0.out; omega) (fun b hb => (OWN.out.lt b hb).1))
                have OWN5 := hid hown5
                refine hK _ _ ⟨SC.out _ BZ.out, ?_⟩
                clear hK hr hown5 hg5 hat5 OWN KB NE hbl
                refine AnyH_one (i := 11) (by kernel_rfl) rfl (by kernel_rfl) (fun K hK => ?_)
                have cB := cells_get BX.out (k := 0) rfl
                have fB := cells_frz BX.out (k := 0)
                go_simp
                have hX := setCell_at (o := 0) (v := .slice a5 (p.length + 1) c5) BX.out
                have hZ := BZ.out.setCell (p := ⟨bb, 0, none⟩) HGE.out (.slice a5 (p.length + 1) c5)
                have hO : (W56.setCell ⟨bb, 0, none⟩ (.slice a5 (p.length + 1) c5)).ownsRow B0 71 3 (.slice a5 (p.length + 1) c5) (p.length + 1) _ := owns_agree OWN5.out fun g hg => Below.heap_setCell _ _ _ _ (fun e => NE5.out (by rw [hg, e]))
                refine hK _ _ ⟨SC.out _ hZ, ?_⟩
                refine AnyH_done (by kernel_rfl) ?_
                have HX := hid hX
                have HZ := hid hZ
                have HO := hid hO
                clear hK cB fB hX hZ hO
                go_simp
                go_wp2_with fail
                go_meet
                case rel => exact ⟨bb, a5, c5, rfl, HX.out, PtIn.snoc (k := kn) HO.out, BZD.out.trans HZ.out⟩
              · go_simp
                have hb := (Below.refl W51.heap.size W51).alloc (Nat.le_refl _) (.cells #[.int .i64 x3] 3)
                have hblk := heap_alloc_new W51 (.cells #[.int .i64 x3] 3)
                obtain ⟨bn, hbn⟩ : ∃ b, W51.heap.size = b := ⟨_, rfl⟩
                obtain ⟨W58, hnew⟩ : ∃ w', W51.alloc (.cells #[.int .i64 x3] 3) = w' := ⟨_, rfl⟩
                rw [hnew] at hb hblk ⊢
                have hge : B0 ≤ bn := by rw [← hbn]; have := BZ.out.size; have := HZ0.out; omega
                rw [hbn] at hblk ⊢
                replace BX := hid (blk_on BX.out hb)
                replace BZ := hid (BZ.out.trans (hb.mono (by have := BZ.out.size; have := HZ0.out; omega)))
                have N := hid (IsIn.one hblk)
                refine hK _ _ ⟨SC.out _ BZ.out, ?_⟩
                clear hK hb hblk hbn hnew hge
                refine AnyH_one (i := 1) (by kernel_rfl) rfl (by kernel_rfl) (fun K hK => ?_)
                go_simp
                refine ⟨trivial, (callsIn_wide.2 (dupK_own p ap cp (fun q => q < B0) W58 (HPB.out.agree (Agree.of_below BZ.out (fun _ h => h))) (fun q h => by have := BZ.out.size; have := HZ0.out; omega) lp)).mono ?_⟩
                rintro e W59 ⟨a86, c86, rfl, hown, hb⟩
                have NE := hid (fun e => show False from by have h1 := (hown.lt bb e).1; have h2 := (Array.getElem?_eq_some_iff.1 BX.out).1; omega)
                have OWN := hid (owns_base (base' := B0) hown (fun g hg => by have := (hown.lt g hg).1; have := BZ.out.size; have := HZ0.out; omega))
                replace N := hid (N.out.on hb)
                replace BX := hid (blk_on BX.out hb)
                replace BZ := hid (BZ.out.trans (hb.mono (by have := BZ.out.size; have := HZ0.out; omega)))
                refine hK _ _ ⟨SC.out _ BZ.out, ?_⟩
                clear hK hb hown
                refine AnyH_one (i := 7) (by kernel_rfl) rfl (by kernel_rfl) (fun K hK => ?_)
                go_simp
                refine ⟨trivial, (callsIn_wide.2 (kOf_any caN [(x3 : Int)] (some ⟨bn, 0, none⟩) 1 (fun q => q < W59.heap.size) W59 N.out (fun _ h => h))).mono ?_⟩
                rintro e W60 ⟨he, hb⟩
                rw [HKN.out] at he
                subst he
                replace OWN := hid (owns_below OWN.out hb (Nat.le_refl _))
                replace BX := hid (blk_on BX.out hb)
                replace BZ := hid (BZ.out.trans (hb.mono (by have := BZ.out.size; have := HZ0.out; omega)))
                refine hK _ _ ⟨SC.out _ BZ.out, ?_⟩
                clear hK hb N
                refine AnyH_one (i := 8) (by kernel_rfl) rfl (by kernel_rfl) (fun K hK => ?_)
                go_simp
                have hb := (Below.refl W60.heap.size W60).alloc (Nat.le_refl _) (.cells #[.string (bs kn.n), .bool kn.h, .int .i64 kn.x] 71)
                have hblk := heap_alloc_new W60 (.cells #[.string (bs kn.n), .bool kn.h, .int .i64 kn.x] 71)
                obtain ⟨bk, hbn⟩ : ∃ b, W60.heap.size = b := ⟨_, rfl⟩
                obtain ⟨W61, hnew⟩ : ∃ w', W60.alloc (.cells #[.string (bs kn.n), .bool kn.h, .int .i64 kn.x] 71) = w' := ⟨_, rfl⟩
                rw [hnew] at hb hblk ⊢
                have hge : B0 ≤ bk := by rw [← hbn]; have := BZ.out.size; have := HZ0.out; omega
                rw [hbn] at hblk ⊢
                replace OWN := hid (owns_below OWN.out hb (Nat.le_refl _))
                replace BX := hid (blk_on BX.out hb)
                replace BZ := hid (BZ.out.trans (hb.mono (by have := BZ.out.size; have := HZ0.out; omega)))
                have KB := hid hblk
                refine hK _ _ ⟨SC.out _ BZ.out, ?_⟩
                clear hK hb hblk hbn hnew hge
                refine AnyH_one (i := 9) (by kernel_rfl) rfl (by kernel_rfl) (fun K hK => ?_)
                obtain ⟨a5, c5, W62, hr, hown5, hg5, hat5⟩ := run_append_ao (P := Tryz.prog) W61 65 65 B0 71 i0 _ 3 32 Tryz.underlying65 hi0 hz0 hz1 hz2 rfl (by omega) (.slice a86 p.length c86) p.length _ OWN.out (some ⟨bk, 0, none⟩) 1 1 [Value.string (bs kn.n), .bool kn.h, .int .i64 kn.x] rfl (fun h => by cases h) (fun ad had => by cases had; exact World.news_of_block (cs := #[.string (bs kn.n), .bool kn.h, .int .i64 kn.x]) (t := 71) (fr := (0, 0)) KB.out) (by simp [Value.oneCell']) (by unfold maxLen; omega) (by omega) (by have := BZ.out.size; have := HZ0.out; omega)
                refine wpIn_value (fun _ => trivial) rfl (exec_append rfl rfl rfl hr) ?_
                have hbl := (Array.getElem?_eq_some_iff.1 BX.out).1
                have NE5 := hid (fun (e : (Value.slice a5 (p.length + 1) c5).ownBlock = some bb) => show False from by
                  rcases hat5 bb e with h | h
                  · exact NE.out h
                  · omega)
                replace BX := hid ((hg5.block bb hbl (fun e => NE.out e.symm)).trans BX.out)
                replace BZ := hid (BZ.out.grown hg5 (by have := BZ.out.size; have := HZ0.out; omega) (fun b hb => (OWN.out.lt b hb).1))
                have OWN5 := hid hown5
                refine hK _ _ ⟨SC.out _ BZ.out, ?_⟩
                clear hK hr hown5 hg5 hat5 OWN KB NE hbl
                refine AnyH_one (i := 11) (by kernel_rfl) rfl (by kernel_rfl) (fun K hK => ?_)
                have cB := cells_get BX.out (k := 0) rfl
                have fB := cells_frz BX.out (k := 0)
                go_simp
                have hX := setCell_at (o := 0) (v := .slice a5 (p.length + 1) c5) BX.out
                have hZ := BZ.out.setCell (p := ⟨bb, 0, none⟩) HGE.out (.slice a5 (p.length + 1) c5)
                have hO : (W62.setCell ⟨bb, 0, none⟩ (.slice a5 (p.length + 1) c5)).ownsRow B0 71 3 (.slice a5 (p.length + 1) c5) (p.length + 1) _ := owns_agree OWN5.out fun g hg => Below.heap_setCell _ _ _ _ (fun e => NE5.out (by rw [hg, e]))
                refine hK _ _ ⟨SC.out _ hZ, ?_⟩
                refine AnyH_done (by kernel_rfl) ?_
                have HX := hid hX
                have HZ := hid hZ
                have HO := hid hO
                clear hK cB fB hX hZ hO
                go_simp
                go_wp2_with fail
                go_meet
                case rel => exact ⟨bb, a5, c5, rfl, HX.out, PtIn.snoc (k := kn) HO.out, BZD.out.trans HZ.out⟩
        case rest =>
          obtain ⟨bb, a5, c5, rfl, hbx, hpt, hbel⟩ := hcut
          obtain ⟨wE, hwE⟩ : ∃ wE, wE = wc := ⟨_, rfl⟩
          subst hwE
          obtain ⟨R, hR⟩ : ∃ R, p ++ [kn] = R := ⟨_, rfl⟩
          have hrl : R.length = p.length + 1 := by rw [← hR]; simp
          have hb := hbel.out
          rw [← hB0] at hb
          have lr : R.length ≤ 1000 := by omega
          have HR := hpt
          rw [hR] at HR
          have HBX : Hid (wE.heap[bb]? = some (.cells #[.slice a5 R.length c5] 65 (0, 0))) := by rw [hrl]; exact hbx
          have HRR := hid (show p ++ [kyOf caN [(x3 : Int), 7]] = R from by rw [← hR, ← hkn]; rfl)
          replace BND := hid (blk_on BND.out hb)
          replace BID := hid (blk_on BID.out hb)
          replace Hy := hid (Hy.out.on hb)
          replace HP := hid (HP.out.on hb)
          replace Hs := hid (Hs.out.on hb)
          replace BW := hid (BW.out.trans (hb.mono BW.out.size))
          clear hb hbel hpt hbx hB0 HB0 hkn HKN hR hrl
          obtain ⟨was, hwas⟩ : ∃ was, isAt y R = was := ⟨_, rfl⟩
          obtain ⟨nY, hnY⟩ : ∃ nY, nsAt y R = nY := ⟨_, rfl⟩
          have HWAS := hid hwas
          have EY := hid (And.intro hnY hwas)
          clear hwas hnY
          have cX := cells_get HBX.out (k := 0) (v := .slice a5 R.length c5) rfl
          go_wp2_with fail
          refine (at_c y R ay a5 cy c5 wE Hy.out HR.out BDy.out lr EY.out).mono ?_
          rintro e x1 ⟨a9, c9, rfl, _, hb⟩
          replace BND := hid (blk_on BND.out hb)
          replace BID := hid (blk_on BID.out hb)
          replace HBX := hid (blk_on HBX.out hb)
          replace Hy := hid (Hy.out.on hb)
          replace HP := hid (HP.out.on hb)
          replace Hs := hid (Hs.out.on hb)
          replace HR := hid (HR.out.on hb)
          replace BW := hid (BW.out.trans (hb.mono BW.out.size))
          clear cX EY
          clear hb
          by_cases ky : y.cnt ≤ 60
          rotate_left
          · as_aux_lemma =>
              have hch := okF_many2 (okF_down Oy.out.1) ky
              have hpe : putE y p caN [(x3 : Int), 7] s = 2 := by rw [putE, if_pos (by omega), hch]
              have hpy : putY y p caN [(x3 : Int), 7] s = .nil := by rw [putY, if_neg (by omega)]
              have HPE := hid (And.intro hpe hpy)
              have HCH := hid hch
              clear hch hpe hpy
              have n0 := cells_get BND.out (k := 0) (v := .string (bs caN)) rfl
              have n1 := cells_get BND.out (k := 1) (v := .slice (some ⟨b1, 0, none⟩) 2 2) rfl
              have n2 := cells_get BND.out (k := 2) (v := .slice as_ s.len cs_) rfl
              have N2 := hid (IsIn.two BID.out)
              go_wp2_with fail
              refine (put_c y p caN [(x3 : Int), 7] s ay ap (some ⟨b1, 0, none⟩) as_ cy cp 2 cs_ x1 Hy.out HP.out N2.out Hs.out BDy.out lp (by decide) (by simp) (by have := HOKS.out.2.2; omega) (okG_sm HOKS.out.1 (by have := HOKS.out.2; omega)) (by have := HOKS.out.2; omega) (E := 2) (Z := .nil) HPE.out).mono ?_
              rintro e y1 ⟨aM, cM, rfl, hF, hb⟩
              replace BND := hid (blk_on BND.out hb)
              replace BID := hid (blk_on BID.out hb)
              replace HBX := hid (blk_on HBX.out hb)
              replace Hy := hid (Hy.out.on hb)
              replace HP := hid (HP.out.on hb)
              replace Hs := hid (Hs.out.on hb)
              replace HR := hid (HR.out.on hb)
              replace BW := hid (BW.out.trans (hb.mono BW.out.size))
              clear hF
              clear n0 n1 n2 N2
              clear hb
              go_wp2_with fail
              refine (checkE_c y ay cy y1 Hy.out BDy.out HCH.out).mono ?_
              rintro e y2 ⟨rfl, hb⟩
              replace Hy := hid (Hy.out.on hb)
              replace HP := hid (HP.out.on hb)
              replace Hs := hid (Hs.out.on hb)
              replace HR := hid (HR.out.on hb)
              replace BW := hid (BW.out.trans (hb.mono BW.out.size))
              clear hb
              go_wp2_with fail
              refine (few_c y ay cy y2 Hy.out (okF_down Oy.out.1) (by omega) (q := true) (by simp; omega)).mono ?_
              rintro e y3 ⟨rfl, hb⟩
              replace Hy := hid (Hy.out.on hb)
              replace HP := hid (HP.out.on hb)
              replace Hs := hid (Hs.out.on hb)
              replace HR := hid (HR.out.on hb)
              replace BW := hid (BW.out.trans (hb.mono BW.out.size))
              clear hb
              go_wp2_with fail
              refine (awake_any y3 (HT.out.below BW.out)).mono ?_
              rintro e z_ ⟨rfl, hb⟩
              replace Hy := hid (Hy.out.on hb)
              replace HP := hid (HP.out.on hb)
              replace Hs := hid (Hs.out.on hb)
              replace HR := hid (HR.out.on hb)
              replace BW := hid (BW.out.trans (hb.mono BW.out.size))
              clear hb
              go_wp2_with fail
              go_ret
              exact ⟨rfl, BW.out⟩
          have CKy := hid (okF_few (okF_down Oy.out.1) ky)
          have hdk : OkG p.length (.cons caN [(x3 : Int), 7] s .nil) := ⟨⟨by omega, by decide, by simp, badNs_of (fun z hz => by simp only [List.mem_cons, List.not_mem_nil, or_false] at hz; omega)⟩, HOKS.out.1, (fun _ h => by cases h), trivial⟩
          obtain ⟨M, E, f1, f2, f3⟩ := put_facts CKy.out HPP.out hdk (by have := HOKS.out.2; omega)
          rw [HRR.out] at f3
          have F1 := hid f1
          have F3 := hid f3
          clear f1 f3 hdk
          have n0 := cells_get BND.out (k := 0) (v := .string (bs caN)) rfl
          have n1 := cells_get BND.out (k := 1) (v := .slice (some ⟨b1, 0, none⟩) 2 2) rfl
          have n2 := cells_get BND.out (k := 2) (v := .slice as_ s.len cs_) rfl
          have N2 := hid (IsIn.two BID.out)
          go_wp2_with fail
          refine (put_c y p caN [(x3 : Int), 7] s ay ap (some ⟨b1, 0, none⟩) as_ cy cp 2 cs_ x1 Hy.out HP.out N2.out Hs.out BDy.out lp (by decide) (by simp) (by have := HOKS.out.2.2; omega) (okG_sm HOKS.out.1 (by have := HOKS.out.2; omega)) (by have := HOKS.out.2; omega) (E := E) (Z := M) F1.out).mono ?_
          rintro e x2 ⟨aM, cM, rfl, hF, hb⟩
          replace BND := hid (blk_on BND.out hb)
          replace BID := hid (blk_on BID.out hb)
          replace HBX := hid (blk_on HBX.out hb)
          replace Hy := hid (Hy.out.on hb)
          replace HP := hid (HP.out.on hb)
          replace Hs := hid (Hs.out.on hb)
          replace HR := hid (HR.out.on hb)
          replace BW := hid (BW.out.trans (hb.mono BW.out.size))
          have HM := hid hF
          clear hF F1
          clear n0 n1 n2 N2
          clear hb
          rcases f2 with rfl | ⟨rfl, hmany⟩
          rotate_left
          · as_aux_lemma =>
              have n2 := cells_get BND.out (k := 2) (v := .slice as_ s.len cs_) rfl
              go_wp2_with fail
              refine (checkE_c y ay cy x2 Hy.out BDy.out CKy.out).mono ?_
              rintro e y2 ⟨rfl, hb⟩
              replace BND := hid (blk_on BND.out hb)
              replace BID := hid (blk_on BID.out hb)
              replace HBX := hid (blk_on HBX.out hb)
              replace Hy := hid (Hy.out.on hb)
              replace HP := hid (HP.out.on hb)
              replace Hs := hid (Hs.out.on hb)
              replace HR := hid (HR.out.on hb)
              replace HM := hid (HM.out.on hb)
              replace BW := hid (BW.out.trans (hb.mono BW.out.size))
              clear hb n2
              go_wp2_with fail
              refine (few_c y ay cy y2 Hy.out (okF_down Oy.out.1) (by omega) (q := false) (by simp; omega)).mono ?_
              rintro e y3 ⟨rfl, hb⟩
              replace BND := hid (blk_on BND.out hb)
              replace BID := hid (blk_on BID.out hb)
              replace HBX := hid (blk_on HBX.out hb)
              replace Hy := hid (Hy.out.on hb)
              replace HP := hid (HP.out.on hb)
              replace Hs := hid (Hs.out.on hb)
              replace HR := hid (HR.out.on hb)
              replace HM := hid (HM.out.on hb)
              replace BW := hid (BW.out.trans (hb.mono BW.out.size))
              clear hb
              have n2 := cells_get BND.out (k := 2) (v := .slice as_ s.len cs_) rfl
              have hsl := HOKS.out.2.2
              have hgt : (60 : Int) < (y.cnt : Int) + 1 + (s.len : Int) := by have := HOKS.out.2; omega
              go_wp2_with fail
              refine (awake_any y3 (HT.out.below BW.out)).mono ?_
              rintro e z_ ⟨rfl, hb⟩
              replace Hy := hid (Hy.out.on hb)
              replace HP := hid (HP.out.on hb)
              replace Hs := hid (Hs.out.on hb)
              replace HR := hid (HR.out.on hb)
              replace HM := hid (HM.out.on hb)
              replace BW := hid (BW.out.trans (hb.mono BW.out.size))
              clear hb
              go_wp2_with fail
              go_ret
              exact ⟨rfl, BW.out⟩
          obtain ⟨k1, k2, k3, k4, k5, Z, k6, k7, k8, k9⟩ := F3.out rfl
          have CKM := hid k1
          have BDM := hid k2
          have GET := hid (And.intro k3 k4)
          have HRM := hid k5
          have DRO := hid k6
          have BDZ := hid k7
          have WAS1 := hid k8
          have WAS2 := hid k9
          clear k1 k2 k3 k4 k5 k6 k7 k8 k9 F3
          obtain ⟨fs, hfs⟩ : ∃ fs, nmF caN (evP [] M) = fs := ⟨_, rfl⟩
          have HFS := hid hfs
          have HFSM := hid hfs
          have hfb := nmF_bd CKM.out caN
          rw [hfs] at hfb
          have HFB := hid hfb
          have hlm : lastN R = caN := by rw [← HRR.out]; simp [lastN, List.getLastD_eq_getLast?, kyOf_n]
          have HMEM := hid (show R ∈ fs from by rw [← hfs]; exact List.mem_filter.2 ⟨HRM.out, by simp [hlm]⟩)
          clear hfs hfb hlm
          go_wp2_with fail
          refine (checkE_c y ay cy x2 Hy.out BDy.out CKy.out).mono ?_
          rintro e x3_ ⟨rfl, hb⟩
          replace BND := hid (blk_on BND.out hb)
          replace BID := hid (blk_on BID.out hb)
          replace HBX := hid (blk_on HBX.out hb)
          replace Hy := hid (Hy.out.on hb)
          replace HP := hid (HP.out.on hb)
          replace Hs := hid (Hs.out.on hb)
          replace HR := hid (HR.out.on hb)
          replace HM := hid (HM.out.on hb)
          replace BW := hid (BW.out.trans (hb.mono BW.out.size))
          clear hb
          have cX := cells_get HBX.out (k := 0) (v := .slice a5 R.length c5) rfl
          go_wp2_with fail
          refine (get_c M R caN [(x3 : Int), 7] s aM a5 cM c5 x3_ HM.out HR.out BDM.out lr GET.out).mono ?_
          rintro e x4 ⟨ag, cg, ah, ch, rfl, hI1, hI2, hb⟩
          replace BND := hid (blk_on BND.out hb)
          replace BID := hid (blk_on BID.out hb)
          replace HBX := hid (blk_on HBX.out hb)
          replace Hy := hid (Hy.out.on hb)
          replace HP := hid (HP.out.on hb)
          replace Hs := hid (Hs.out.on hb)
          replace HR := hid (HR.out.on hb)
          replace HM := hid (HM.out.on hb)
          replace BW := hid (BW.out.trans (hb.mono BW.out.size))
          have HG1 := hid hI1
          have HG2 := hid hI2
          clear hI1 hI2 cX GET
          clear hb
          go_wp2_with fail
          have hb := (Below.refl x4.heap.size x4).alloc (Nat.le_refl _) (.cells #[.string (bs caN), .slice ag 2 cg, .slice ah s.len ch] 85)
          have hblk := heap_alloc_new x4 (.cells #[.string (bs caN), .slice ag 2 cg, .slice ah s.len ch] 85)
          obtain ⟨bg, hbg⟩ : ∃ b, x4.heap.size = b := ⟨_, rfl⟩
          obtain ⟨x5, hx5⟩ : ∃ w', x4.alloc (.cells #[.string (bs caN), .slice ag 2 cg, .slice ah s.len ch] 85) = w' := ⟨_, rfl⟩
          rw [hx5] at hb hblk
          have e9 : (⟨#[99, 97, 114, 116]⟩ : ByteArray) = bs caN := rfl
          first | rw [hx5, hbg, e9] | (rw [e9] ; trace_state)
          rw [hbg] at hblk
          replace BND := hid (blk_on BND.out hb)
          replace BID := hid (blk_on BID.out hb)
          replace HBX := hid (blk_on HBX.out hb)
          replace Hy := hid (Hy.out.on hb)
          replace HP := hid (HP.out.on hb)
          replace Hs := hid (Hs.out.on hb)
          replace HR := hid (HR.out.on hb)
          replace HM := hid (HM.out.on hb)
          replace HG1 := hid (HG1.out.on hb)
          replace HG2 := hid (HG2.out.on hb)
          replace BW := hid (BW.out.trans (hb.mono BW.out.size))
          have HGB := hid hblk
          clear hb hblk hx5 hbg e9
          refine (find_c M caN aM cM x5 HM.out BDM.out CKM.out HFS.out).mono ?_
          rintro e x6 ⟨af, cf, rfl, hP, hb⟩
          replace BND := hid (blk_on BND.out hb)
          replace BID := hid (blk_on BID.out hb)
          replace HBX := hid (blk_on HBX.out hb)
          replace HGB := hid (blk_on HGB.out hb)
          replace Hy := hid (Hy.out.on hb)
          replace HP := hid (HP.out.on hb)
          replace Hs := hid (Hs.out.on hb)
          replace HR := hid (HR.out.on hb)
          replace HM := hid (HM.out.on hb)
          replace HG1 := hid (HG1.out.on hb)
          replace HG2 := hid (HG2.out.on hb)
          replace BW := hid (BW.out.trans (hb.mono BW.out.size))
          have HF := hid hP
          clear hP hb
          have cX := cells_get HBX.out (k := 0) (v := .slice a5 R.length c5) rfl
          go_wp2_with fail
          refine (drop_c M R aM a5 cM c5 x6 HM.out HR.out BDM.out lr DRO.out).mono ?_
          rintro e x7 ⟨az, cz, rfl, hZ, hb⟩
          replace BND := hid (blk_on BND.out hb)
          replace BID := hid (blk_on BID.out hb)
          replace HBX := hid (blk_on HBX.out hb)
          replace HGB := hid (blk_on HGB.out hb)
          replace Hy := hid (Hy.out.on hb)
          replace HP := hid (HP.out.on hb)
          replace Hs := hid (Hs.out.on hb)
          replace HR := hid (HR.out.on hb)
          replace HM := hid (HM.out.on hb)
          replace HG1 := hid (HG1.out.on hb)
          replace HG2 := hid (HG2.out.on hb)
          replace HF := hid (HF.out.on hb)
          replace BW := hid (BW.out.trans (hb.mono BW.out.size))
          have HZ := hid hZ
          clear hZ cX DRO
          clear hb
          have n0 := cells_get BND.out (k := 0) (v := .string (bs caN)) rfl
          have n1 := cells_get BND.out (k := 1) (v := .slice (some ⟨b1, 0, none⟩) 2 2) rfl
          have n2 := cells_get BND.out (k := 2) (v := .slice as_ s.len cs_) rfl
          have N2 := hid (IsIn.two BID.out)
          clear N2
          have g0 := cells_get HGB.out (k := 0) (v := .string (bs caN)) rfl
          have g1 := cells_get HGB.out (k := 1) (v := .slice ag 2 cg) rfl
          have g2 := cells_get HGB.out (k := 2) (v := .slice ah s.len ch) rfl
          have hbA := (Below.refl x7.heap.size x7).alloc (Nat.le_refl _) (.cells #[.string (bs caN), .slice ag 2 cg, .slice ah s.len ch] 85)
          have hblA := heap_alloc_new x7 (.cells #[.string (bs caN), .slice ag 2 cg, .slice ah s.len ch] 85)
          have BNA := blk_on BND.out hbA
          have m0 := cells_get BNA (k := 0) (v := .string (bs caN)) rfl
          have m1 := cells_get BNA (k := 1) (v := .slice (some ⟨b1, 0, none⟩) 2 2) rfl
          have m2 := cells_get BNA (k := 2) (v := .slice as_ s.len cs_) rfl
          obtain ⟨q1, hq1⟩ : ∃ q1, x7.heap.size = q1 := ⟨_, rfl⟩
          obtain ⟨xA, hxA⟩ : ∃ xA, x7.alloc (.cells #[.string (bs caN), .slice ag 2 cg, .slice ah s.len ch] 85) = xA := ⟨_, rfl⟩
          have hzA : xA.heap.size = q1 + 1 := by rw [← hxA, ← hq1]; simp
          rw [hxA] at hbA hblA
          rw [hq1] at hblA
          have hbB := (Below.refl xA.heap.size xA).alloc (Nat.le_refl _) (.cells #[.string (bs caN), .slice (some ⟨b1, 0, none⟩) 2 2, .slice as_ s.len cs_] 85)
          have hblB := heap_alloc_new xA (.cells #[.string (bs caN), .slice (some ⟨b1, 0, none⟩) 2 2, .slice as_ s.len cs_] 85)
          obtain ⟨xB, hxB⟩ : ∃ xB, xA.alloc (.cells #[.string (bs caN), .slice (some ⟨b1, 0, none⟩) 2 2, .slice as_ s.len cs_] 85) = xB := ⟨_, rfl⟩
          rw [hxB] at hbB hblB
          rw [hzA] at hblB
          have HXA := hid hxA
          have HXB := hid hxB
          have HQ1 := hid hq1
          have hb := hbA.trans (hbB.mono (by omega))
          have hblA2 : xB.heap[q1]? = _ := (hbB.block q1 (by omega)).trans hblA
          have HBA2 := hid hblA2
          have HBB2 := hid hblB
          clear hbA hblA hzA hxA hbB hblB hxB hblA2 hq1 BNA
          go_wp2_with fail
          rw [HQ1.out, HXA.out, HXB.out]
          clear g0 g1 g2 n0 n1 n2 m0 m1 m2 HXA HXB HQ1
          replace BND := hid (blk_on BND.out hb)
          replace BID := hid (blk_on BID.out hb)
          replace HBX := hid (blk_on HBX.out hb)
          replace HGB := hid (blk_on HGB.out hb)
          replace Hy := hid (Hy.out.on hb)
          replace HP := hid (HP.out.on hb)
          replace Hs := hid (Hs.out.on hb)
          replace HR := hid (HR.out.on hb)
          replace HM := hid (HM.out.on hb)
          replace HG1 := hid (HG1.out.on hb)
          replace HG2 := hid (HG2.out.on hb)
          replace HF := hid (HF.out.on hb)
          replace HZ := hid (HZ.out.on hb)
          replace BW := hid (BW.out.trans (hb.mono BW.out.size))
          clear hb
          have i1 := hid (In.one HBA2.out HG1.out HG2.out)
          have i2 := hid (In.one HBB2.out (IsIn.two BID.out) Hs.out)
          have hss := HOKS.out.2
          have BDN := hid (show Bd (.cons caN [(x3 : Int), 7] s .nil) from ⟨by simp [Fo.len], ⟨by decide, by simp, by omega, okG_sm HOKS.out.1 (by omega), trivial⟩, by simp only [Fo.cnt]; omega⟩)
          refine (eqY_c (.cons caN [(x3 : Int), 7] s .nil) (some ⟨q1, 0, none⟩) (some ⟨q1 + 1, 0, none⟩) 1 1 xB i1.out i2.out BDN.out).mono ?_
          rintro e x8 ⟨rfl, hb⟩
          replace HBX := hid (blk_on HBX.out hb)
          replace Hy := hid (Hy.out.on hb)
          replace HR := hid (HR.out.on hb)
          replace HM := hid (HM.out.on hb)
          replace HF := hid (HF.out.on hb)
          replace HZ := hid (HZ.out.on hb)
          replace BW := hid (BW.out.trans (hb.mono BW.out.size))
          clear hb i1 i2 hss BDN HBA2 HBB2 HGB BND BID HG1 HG2 Hs HP
          go_wp2_with fail
          refine (contK62_c fs R af a5 cf c5 bb x8 HF.out HR.out HBX.out HFB.out.1 HFB.out.2 lr HMEM.out).mono ?_
          rintro e x9 ⟨rfl, hb⟩
          replace HBX := hid (blk_on HBX.out hb)
          replace Hy := hid (Hy.out.on hb)
          replace HR := hid (HR.out.on hb)
          replace HM := hid (HM.out.on hb)
          replace HF := hid (HF.out.on hb)
          replace HZ := hid (HZ.out.on hb)
          replace BW := hid (BW.out.trans (hb.mono BW.out.size))
          clear hb
          go_wp2_with fail
          refine (paths_c M aM cM x9 HM.out BDM.out).mono ?_
          rintro e xC ⟨am, cm, an2, cn2, rfl, hP, hb⟩
          replace HBX := hid (blk_on HBX.out hb)
          replace Hy := hid (Hy.out.on hb)
          replace HR := hid (HR.out.on hb)
          replace HM := hid (HM.out.on hb)
          replace HF := hid (HF.out.on hb)
          replace HZ := hid (HZ.out.on hb)
          replace BW := hid (BW.out.trans (hb.mono BW.out.size))
          have HPM := hid hP
          clear hP
          clear hb
          clear HM HMEM HFB
          have hpm := HPM.out
          have hml : (evP [] M).length = M.cnt := evP_length [] M
          obtain ⟨am', cm', ee, _, hcm, hat⟩ := LSl.at hpm
          rw [hml] at ee
          obtain ⟨rfl, rfl⟩ : am = am' ∧ cm = cm' := by cases ee; exact ⟨rfl, rfl⟩
          have HAT := hid hat
          have hmc := chk_cnt CKM.out
          have HNE := hid (fun (q : List Ky) (hq : q ∈ evP [] M) => show 1 ≤ q.length ∧ q.length ≤ 1000 from ⟨by
            obtain ⟨z, hz, rfl⟩ := List.mem_map.1 hq
            rcases Nat.eq_zero_or_pos z.p.length with h | h
            · exact absurd (List.eq_nil_of_length_eq_zero h) (flsL_ne z hz)
            · exact h, by have := path_length_le hq; simp at this; omega⟩)
          unfold maxLen at hcm
          obtain ⟨ps, hps⟩ : ∃ ps, evP [] M = ps := ⟨_, rfl⟩
          rw [hps] at HAT HNE hml HFS
          obtain ⟨N, hN⟩ : ∃ N, M.cnt = N := ⟨_, rfl⟩
          rw [hN] at hml hmc ⊢
          have HML := hid hml
          obtain ⟨j0, hj0, hjz0, hjz1, hjz2⟩ := info_parts Tryz.info65p
          obtain ⟨lo, hlo⟩ : ∃ lo, xC.heap.size = lo := ⟨_, rfl⟩
          have HLO := hid hlo
          clear hpm hat ee HPM hml hN hlo hps
          go_wp2_with fail
          go_loopw [25, 183] (fun vo vi wr => ∃ k : Nat, k ≤ N ∧ vi = .int .i64 k ∧ Hid (RowS rdPa 65 (fun q => q < lo) lo wr vo (nmF caN (ps.take k))) ∧ Hid (Below lo xC wr)) (fun _ vi _ => N - (intOf vi).toNat)
          case atStart => exact ⟨0, by omega, rfl, by rw [← HLO.out]; exact RowS.nil xC, Below.refl _ _⟩
          case round =>
            obtain ⟨k, hk, rfl, HRO, HB⟩ := hrel
            have hzr : lo ≤ wr.heap.size := by rw [← HLO.out]; exact HB.out.size
            by_cases hlt : k < N
            · as_aux_lemma =>
                have hlt' : (k : Int) < (N : Int) := by omega
                have hlr : k < ps.length := by rw [HML.out]; exact hlt
                obtain ⟨g, o, cs, rfl, hg, ⟨apx, cpx, rfl, hPx⟩, hcl⟩ := HAT.out k hlr
                rw [HLO.out] at hg
                have hag := Agree.of_below (S := fun q => q < xC.heap.size) (B := lo) HB.out (fun q h => by rw [← HLO.out]; exact h)
                have c0 := hag.cell (by rw [HLO.out]; exact hg) (hcl 0 _ rfl)
                rw [Nat.mul_one, Nat.add_zero] at c0
                have htk : ps.take (k + 1) = ps.take k ++ [ps[k]] := List.take_succ_eq_append_getElem hlr
                have hne := HNE.out ps[k] (List.getElem_mem hlr)
                obtain ⟨x, hx⟩ : ∃ x, ps[k] = x := ⟨_, rfl⟩
                rw [hx] at c0 htk hPx hne
                have hsn := nmF_snoc caN (ps.take k) x
                rw [← htk] at hsn
                have HSN := hid hsn
                obtain ⟨h1, h2⟩ := hne
                obtain ⟨g', o', rfl, hg', _, _, hpc⟩ := SlC.cells hPx (by omega)
                obtain ⟨m, hm⟩ : ∃ m, x.length = m + 1 := ⟨x.length - 1, by omega⟩
                obtain ⟨k0, k1', k2'⟩ := key_cells (p := x) (k := m) (by omega)
                have e0 := hag.cell hg' (hpc _ _ k0)
                have hln : lastN x = x[m].n := by
                  unfold lastN
                  rw [List.getLastD_eq_getLast?, List.getLast?_eq_getElem?, show x.length - 1 = m by omega, List.getElem?_eq_getElem (by omega)]; rfl
                obtain ⟨nn, hnn⟩ : ∃ nn, x[m].n = nn := ⟨_, rfl⟩
                rw [hnn] at e0 hln
                have HLN := hid hln
                have HPW := hid ((hPx.agree hag).wide (S' := fun q => q < lo) (fun q h => by rw [← HLO.out]; exact h))
                have hsub : ((x.length : Int) - 1) = (m : Int) := by omega
                have hmx : (m : Int) < (x.length : Int) := by omega
                have hxl : x.length ≤ 9223372036854775807 := by omega
                have e9 : (⟨#[99, 97, 114, 116]⟩ : ByteArray) = bs caN := rfl
                have HMM := hid hm
                have hnl : (nmF caN (ps.take k)).length ≤ 60 := Nat.le_trans (List.length_filter_le _ _) (by rw [List.length_take]; omega)
                have NB2 := hid (heap_alloc_new wr (.cells #[.slice (some ⟨g', o', none⟩) x.length cpx] 65))
                have hb2' := hid ((Below.refl wr.heap.size wr).alloc (Nat.le_refl _) (.cells #[.slice (some ⟨g', o', none⟩) x.length cpx] 65))
                clear hcl hpc k0 k1' k2' hPx hx htk hsn hln hnn hm hag hg hg'
                by_cases heq : nn = caN
                · have hsn := HSN.out
                  rw [if_pos (by rw [HLN.out, heq])] at hsn
                  have HS2 := hid hsn
                  subst heq
                  clear hsn
                  go_wp2_with (at_builtin; (refine wpList_push (r := rdPa) (e := 65) (S := fun q => q < lo) (lo := lo) rfl _ _ _ rfl j0 _ 24 Tryz.underlying49 hj0 hjz0 hjz1 hjz2 rfl (by omega) rfl (HRO.out.below (fun b hb => by omega) hb2'.out) (fun b hb => hb) (by simp; omega) x [.slice (some ⟨g', o', none⟩) x.length cpx] wr.heap.size rfl NB2.out ⟨_, _, rfl, Pth.agree HPW.out (Agree.of_below hb2'.out (fun b hb => by omega))⟩ (by unfold maxLen; omega) (by omega) ?_; intro v9 w9 hr9 hg9 hat9 hbl9))
                  have hB9 := hbl9 xC (HB.out.trans (hb2'.out.mono hzr))
                  have HR9 := hid hr9
                  have HB9 := hid hB9
                  clear hr9 hg9 hat9 hbl9 hB9
                  go_roundw
                  case rel => exact ⟨k + 1, by omega, by go_num, by rw [Hid, HS2.out]; exact HR9.out, HB9⟩
                  case measure => simp [intOf]; omega
                · have hsn := HSN.out
                  rw [if_neg (by rw [HLN.out]; exact heq)] at hsn
                  have HS2 := hid hsn
                  have hb2 : (nn == caN) = false := by simp [heq]
                  have hb4 : (nn == [99, 97, 114, 116]) = false := hb2
                  clear hsn e9
                  go_wp2_with fail
                  go_roundw
                  case rel => exact ⟨k + 1, by omega, by go_num, by rw [Hid, HS2.out]; exact HRO.out, HB⟩
                  case measure => simp [intOf]; omega
            · as_aux_lemma =>
                have hlt' : ¬ (k : Int) < (N : Int) := by omega
                obtain rfl : k = N := by omega
                have hb : Below xC.heap.size xC wr := by rw [HLO.out]; exact HB.out
                have hbx := hid (blk_on HBX.out hb)
                have hro := HRO.out
                rw [List.take_of_length_le (by rw [HML.out]; exact Nat.le_refl _), HFS.out] at hro
                obtain ⟨aw, cw, rfl, _, _⟩ := hro.shape
                have HWT := hid (show PaIn wr (.slice aw fs.length cw) fs from LSl.wide hro.lsl fun q hq => by
                  rcases hq with h | h
                  · omega
                  · exact h.2)
                replace Hy := hid (Hy.out.on hb)
                replace HR := hid (HR.out.on hb)
                replace HF := hid (HF.out.on hb)
                replace HZ := hid (HZ.out.on hb)
                replace BW := hid (BW.out.trans (hb.mono BW.out.size))
                clear hb hro HRO HB HBX HAT HNE hlt hk HLO HML
                have hfb := nmF_bd CKM.out caN
                have hfs2 : nmF caN (evP [] M) = fs := HFSM.out
                rw [hfs2] at hfb
                have HFB2 := hid hfb
                clear hfb hfs2
                go_wp2_with fail
                refine (equalP_c fs fs af aw cf cw wr HF.out HWT.out HFB2.out.1 HFB2.out.1 HFB2.out.2 HFB2.out.2 (b := true) (by simp)).mono ?_
                rintro e y1 ⟨rfl, hb⟩
                replace hbx := hid (blk_on hbx.out hb)
                replace Hy := hid (Hy.out.on hb)
                replace HR := hid (HR.out.on hb)
                replace HF := hid (HF.out.on hb)
                replace HZ := hid (HZ.out.on hb)
                replace HWT := hid (HWT.out.on hb)
                replace BW := hid (BW.out.trans (hb.mono BW.out.size))
                clear hb
                cases was
                · as_aux_lemma =>
                    have hz := WAS2.out HWAS.out
                    subst hz
                    go_wp2_with fail
                    refine (eqY_c Z az ay cz cy y1 HZ.out Hy.out BDy.out).mono ?_
                    rintro e y2 ⟨rfl, hb⟩
                    replace Hy := hid (Hy.out.on hb)
                    replace HR := hid (HR.out.on hb)
                    replace HF := hid (HF.out.on hb)
                    replace HZ := hid (HZ.out.on hb)
                    replace HWT := hid (HWT.out.on hb)
                    replace BW := hid (BW.out.trans (hb.mono BW.out.size))
                    clear hb
                    go_wp2_with fail
                    refine (awake_any y2 (HT.out.below BW.out)).mono ?_
                    rintro e z_ ⟨rfl, hb⟩
                    replace Hy := hid (Hy.out.on hb)
                    replace HR := hid (HR.out.on hb)
                    replace HF := hid (HF.out.on hb)
                    replace HZ := hid (HZ.out.on hb)
                    replace HWT := hid (HWT.out.on hb)
                    replace BW := hid (BW.out.trans (hb.mono BW.out.size))
                    clear hb
                    go_wp2_with fail
                    go_ret
                    exact ⟨rfl, BW.out⟩
                · as_aux_lemma =>
                    have WA := hid (WAS1.out HWAS.out)
                    have cX := cells_get hbx.out (k := 0) (v := .slice a5 R.length c5) rfl
                    go_wp2_with fail
                    refine (drop_c y R ay a5 cy c5 y1 Hy.out HR.out BDy.out lr WA.out).mono ?_
                    rintro e y2 ⟨aq, cq, rfl, hZ, hb⟩
                    replace Hy := hid (Hy.out.on hb)
                    replace HR := hid (HR.out.on hb)
                    replace HF := hid (HF.out.on hb)
                    replace HZ := hid (HZ.out.on hb)
                    replace HWT := hid (HWT.out.on hb)
                    replace BW := hid (BW.out.trans (hb.mono BW.out.size))
                    have HQ := hid hZ
                    clear hZ cX
                    clear hb
                    go_wp2_with fail
                    refine (eqY_c Z az aq cz cq y2 HZ.out HQ.out BDZ.out).mono ?_
                    rintro e y3 ⟨rfl, hb⟩
                    replace Hy := hid (Hy.out.on hb)
                    replace HR := hid (HR.out.on hb)
                    replace HF := hid (HF.out.on hb)
                    replace HZ := hid (HZ.out.on hb)
                    replace HWT := hid (HWT.out.on hb)
                    replace HQ := hid (HQ.out.on hb)
                    replace BW := hid (BW.out.trans (hb.mono BW.out.size))
                    clear hb
                    go_wp2_with fail
                    refine (awake_any y3 (HT.out.below BW.out)).mono ?_
                    rintro e z_ ⟨rfl, hb⟩
                    replace Hy := hid (Hy.out.on hb)
                    replace HR := hid (HR.out.on hb)
                    replace HF := hid (HF.out.on hb)
                    replace HZ := hid (HZ.out.on hb)
                    replace HWT := hid (HWT.out.on hb)
                    replace HQ := hid (HQ.out.on hb)
                    replace BW := hid (BW.out.trans (hb.mono BW.out.size))
                    clear hb
                    go_wp2_with fail
                    go_ret
                    exact ⟨rfl, BW.out⟩
end Go.Proofs.LF
