/- Parts of the proof of a law of layer 11 (file): LfW27. The conditions stand in each theorem. -/
import Derived.BigQuiet
import Derived.Deep.AppendLies
import Derived.Deep.QuietTactic
import Derived.Deep.RegionHeld3
import Derived.Laws.ResultCell
import Derived.Outline
import Derived.Test.YtadkpjgpefcphaaGreatDoorProg
import Derived.WalkKit
import Derived.WalkLawsBesides
import Derived.WalkSpells
import Derived.Test.YtadkpjgpefcphaaGreatDoorYraj
import Derived.Test.YtadkpjgpefcphaaGreatDoorYrat
import Derived.Test.YtadkpjgpefcphaaGreatDoorYraw
import Derived.Test.YtadkpjgpefcphaaGreatDoorYrbd
set_option linter.all false
set_option linter.unusedVariables false
set_option linter.unusedSimpArgs false
namespace Go.Proofs.LF
open Go.RowKit Go.Sort
set_option maxHeartbeats 4000000
set_option maxRecDepth 100000
attribute [local go_sem] bs_toList bs_size bs_get
theorem bs_sl (c : UInt8) (a : List UInt8) : (⟨#[c]⟩ : ByteArray) ++ bs a = bs (c :: a) := bs_add [c] a
attribute [local go_sem] bs_sl
theorem bs_47 (a : List UInt8) : ({ data := #[47] } : ByteArray) ++ bs a = bs (47 :: a) := bs_add [47] a
attribute [local go_sem] bs_47
theorem bs_58 (a : List UInt8) : ({ data := #[58] } : ByteArray) ++ bs a = bs (58 :: a) := bs_add [58] a
theorem bs_63 (a : List UInt8) : ({ data := #[63] } : ByteArray) ++ bs a = bs (63 :: a) := bs_add [63] a
attribute [local go_sem] bs_58 bs_63
def OkK (k : Ky) : Prop := k.n.length ≤ 1000 ∧ 0 ≤ k.x ∧ k.x ≤ 9999
theorem sptK_len {k : Ky} (h : OkK k) : (sptK k).length ≤ 1006 := by
  have h1 := itoa_len h.2.1 h.2.2
  simp only [sptK, List.length_append, List.length_cons]
  have := h.1
  split
  · simp; omega
  · split
    · simp; omega
    · simp; omega
theorem sptL_len {p : List Ky} : (∀ k ∈ p, OkK k) → (sptL p).length ≤ 1006 * p.length := by
  induction p with
  | nil => intro _; simp [sptL]
  | cons k p ih =>
    intro h
    have h1 := sptK_len (h k (by simp))
    have h2 := ih fun z hz => h z (by simp [hz])
    simp only [sptL, List.map_cons, List.flatten_cons, List.length_append, List.length_cons] at *
    omega
theorem sptL_take {p : List Ky} {k : Nat} (h : k < p.length) : sptL (p.take (k + 1)) = sptL (p.take k) ++ sptK p[k] := by
  unfold sptL
  rw [List.take_succ_eq_append_getElem h, List.map_append, List.flatten_append]; simp only [List.map_cons, List.map_nil, List.flatten_cons, List.flatten_nil, List.append_nil]
theorem spelt_any (p : List Ky) (a : Option Addr) (c : Nat) (S : Nat → Prop) (w : World) (hv : Pth S w (.slice a p.length c) p) (hS : ∀ b, S b → b < w.heap.size) (hlen : p.length ≤ 1000) (hok : ∀ k ∈ p, OkK k) (ht : Pow w) :
    Calls Tryz.prog 167 #[.slice a p.length c] w fun e w' => e = .returned (.string (bs (sptL p))) ∧ Below w.heap.size w w' := by
  have HV := hid hv
  have HOK := hid hok
  have HT := hid ht
  have HS := hid hS
  have hb0 : Bld w.heap.size (.slice none 0 0) [] (w.alloc (.cells #[.pointer none, .slice none 0 0] 144)) := ⟨_, .inl rfl, heap_alloc_new _ _, World.ownsRow_nil _ _ _ _, by simp [Value.ownBlock]⟩
  have HB0 := hid hb0
  clear hv hok ht hS hb0
  go_enter Tryz.func167, Tryz.ntmps167
  go_wp2_with fail
  go_loopw [8] (fun i wr => ∃ (k : Nat) (v : Value), k ≤ p.length ∧ i = .int .i64 k ∧ Hid (Bld w.heap.size v (sptL (p.take k)) wr) ∧ Hid (Below w.heap.size w wr)) (fun i _ => p.length - (intOf i).toNat)
  case atStart => exact ⟨0, .slice none 0 0, by omega, rfl, by simpa [Hid, sptL] using HB0.out, (Below.refl _ _).alloc (Nat.le_refl _) _⟩
  case round =>
    obtain ⟨k, v, hk, rfl, hb, hB⟩ := hrel
    have hsz := hB.out.size
    by_cases hlt : k < p.length
    · have hlt' : (k : Int) < (p.length : Int) := by omega
      obtain ⟨g, o, rfl, hg, _, _, hcell⟩ := SlC.cells HV.out (by omega)
      obtain ⟨k0, k1, k2⟩ := key_cells hlt
      have ha := Agree.of_below hB.out HS.out
      have c0 := ha.cell hg (hcell _ _ k0)
      have c1 := ha.cell hg (hcell _ _ k1)
      have c2 := ha.cell hg (hcell _ _ k2)
      rw [← Nat.add_assoc] at c1 c2
      have hkk := HOK.out p[k] (List.getElem_mem hlt)
      have hspl : (sptL (p.take k)).length ≤ 1006 * 1000 := by
        have h1 := sptL_len (p := p.take k) fun z hz => HOK.out z (List.mem_of_mem_take hz)
        rw [List.length_take] at h1
        have : min k p.length ≤ 1000 := by omega
        omega
      have hgen := sptL_take hlt
      have hK := hid (show sptK p[k] = 47 :: p[k].n ++ (if p[k].h then 58 :: Lib.itoa p[k].x else if p[k].x ≠ 0 then 63 :: Lib.itoa p[k].x else []) from rfl)
      obtain ⟨ky, hky⟩ : ∃ ky, p[k] = ky := ⟨_, rfl⟩
      rw [hky] at c0 c1 c2 hkk hgen hK
      have HG := hid hgen
      have HKK := hid hkk
      have HSP := hid hspl
      have hng : ¬ 9223372036854775807 < 1 + ky.n.length := by have := hkk.1; omega
      have hbw : Bld w.heap.size v (sptL (p.take k)) (wr.alloc (.cells #[.string (bs ky.n), .bool ky.h, .int .i64 ky.x] 71)) := hb.out.below ((Below.refl _ _).alloc (Nat.le_refl _) _)
      have HBW := hid hbw
      clear hcell k0 k1 k2 hky hgen hkk hspl hbw ha
      go_wp2_with fail
      refine (WriteString_any w.heap.size v _ (47 :: ky.n) _ HBW.out (by have := HSP.out; omega) (by have := HKK.out.1; simp; omega)).mono ?_
      rintro e w2 ⟨rfl, v2, hb2, hk2, hj2⟩
      have hBlo : ∀ b, BldO w.heap.size v b → b < wr.heap.size := fun b hb' => BldO.lt hb.out b hb'
      have hblk : w2.heap[wr.heap.size]? = some (.cells #[.string (bs ky.n), .bool ky.h, .int .i64 ky.x] 71 (0, 0)) := (hk2.block _ (by simp) (fun h => by have := hBlo _ h; omega)).trans (heap_alloc_new _ _)
      have e1 := cells_get hblk (k := 1) rfl
      have e2 := cells_get hblk (k := 2) rfl
      have HBL := hid hblk
      have hbel2 : Below w.heap.size w w2 := (hB.out.alloc hsz _).trans (hk2.below (by simp; omega) (fun b hb' ho => by
        rcases ho with rfl | ho
        · omega
        · have := (BldO.ge hb.out b (.inr ho)); omega))
      have HB2 := hid hbel2
      have HBD := hid hb2
      have hz2 := hk2.size
      simp only [World.size_alloc] at hz2
      have HKK2 := hid (show (47 :: ky.n).length ≤ 1001 by have := HKK.out.1; simp; omega)
      clear hbel2 hb2 hblk hk2 hj2
      by_cases hh : ky.h = true
      · have hlast : sptK ky = 47 :: ky.n ++ 58 :: Lib.itoa ky.x := by rw [hK.out, if_pos hh]
        have HL := hid hlast
        clear hlast
        go_wp2_with fail
        refine (Itoa_any ky.x (by have := HKK.out.2.1; omega) (by have := HKK.out.2.2; omega) _ (HT.out.below HB2.out)).mono ?_
        rintro e w3 ⟨rfl, hb3⟩
        have hil := itoa_len HKK.out.2.1 HKK.out.2.2
        have hng2 : ¬ 9223372036854775807 < 1 + (Lib.itoa ky.x).length := by omega
        have HBD3 := hid (HBD.out.below hb3)
        have HB3 := hid (HB2.out.trans (hb3.mono (by omega)))
        go_wp2_with fail
        refine (WriteString_any w.heap.size v2 _ (58 :: Lib.itoa ky.x) _ HBD3.out (by have h1 := HSP.out; have h2 := HKK2.out; simp only [List.length_append]; omega) (by simp; omega)).mono ?_
        rintro e w4 ⟨rfl, v4, hb4, hk4, hj4⟩
        have hbel4 : Below w.heap.size w w4 := HB3.out.trans (hk4.below (by have := HB3.out.size; omega) (fun b hb' ho => by
          have := BldO.ge HBD3.out b ho; omega))
        go_wp2_with fail
        go_roundw
        case rel => exact ⟨k + 1, v4, by omega, by go_num, by rw [Hid, HG.out, HL.out]; simpa using hb4, hbel4⟩
        case measure => simp [intOf]; omega
      · have hh' : ky.h = false := by simpa using hh
        by_cases hx : ky.x = 0
        · have hlast : sptK ky = 47 :: ky.n := by rw [hK.out, if_neg hh, if_neg (by simpa using hx), List.append_nil]
          have HL := hid hlast
          have hx' : (ky.x != 0) = false := by simpa using hx
          have HX := hid hx
          clear hlast hx
          go_wp2_with fail
          go_roundw
          case rel => exact ⟨k + 1, v2, by omega, by go_num, by rw [Hid, HG.out, HL.out]; exact HBD.out, HB2.out⟩
          case measure => simp [intOf]; omega
        · have hlast : sptK ky = 47 :: ky.n ++ 63 :: Lib.itoa ky.x := by rw [hK.out, if_neg hh, if_pos hx]
          have HL := hid hlast
          have hx' : (ky.x != 0) = true := by simpa using hx
          have HX := hid hx
          clear hlast hx
          go_wp2_with fail
          refine (Itoa_any ky.x (by have := HKK.out.2.1; omega) (by have := HKK.out.2.2; omega) _ (HT.out.below HB2.out)).mono ?_
          rintro e w3 ⟨rfl, hb3⟩
          have hil := itoa_len HKK.out.2.1 HKK.out.2.2
          have hng2 : ¬ 9223372036854775807 < 1 + (Lib.itoa ky.x).length := by omega
          have HBD3 := hid (HBD.out.below hb3)
          have HB3 := hid (HB2.out.trans (hb3.mono (by omega)))
          go_wp2_with fail
          refine (WriteString_any w.heap.size v2 _ (63 :: Lib.itoa ky.x) _ HBD3.out (by have h1 := HSP.out; have h2 := HKK2.out; simp only [List.length_append]; omega) (by simp; omega)).mono ?_
          rintro e w4 ⟨rfl, v4, hb4, hk4, hj4⟩
          have hbel4 : Below w.heap.size w w4 := HB3.out.trans (hk4.below (by have := HB3.out.size; omega) (fun b hb' ho => by
            have := BldO.ge HBD3.out b ho; omega))
          go_wp2_with fail
          go_roundw
          case rel => exact ⟨k + 1, v4, by omega, by go_num, by rw [Hid, HG.out, HL.out]; simpa using hb4, hbel4⟩
          case measure => simp [intOf]; omega
    · obtain rfl : k = p.length := by omega
      have hlt' : ¬ (p.length : Int) < (p.length : Int) := by omega
      go_wp2_with fail
      refine (Tryz.Builder_String_any_k _ _ _ _ (Lib.IsBuilderF.of hb.out.is) (Nat.le_of_lt hb.out.lt)).mono ?_
      rintro e W2 ⟨rfl, _, hbw, _⟩
      have HBW := hid hbw
      clear hbw
      go_wp2_with fail
      go_ret
      exact ⟨rfl, hB.out.trans HBW.out⟩
end Go.Proofs.LF
