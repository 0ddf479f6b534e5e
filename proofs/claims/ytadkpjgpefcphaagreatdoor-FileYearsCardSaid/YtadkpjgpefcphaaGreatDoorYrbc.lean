/- Parts of the proof of a law of layer 11 (file): LfW15. The conditions stand in each theorem. -/
import Derived.BigQuiet
import Derived.Deep.AppendLies
import Derived.Deep.QuietTactic
import Derived.Deep.RegionHeld3
import Derived.Laws.ResultCell
import Derived.Outline
import Derived.Test.YtadkpjgpefcphaaGreatDoorProg
import Derived.WalkKit
import Derived.WalkLawsBesides
import Derived.WalkSpells
import Derived.Test.YtadkpjgpefcphaaGreatDoorYraz
set_option linter.all false
set_option linter.unusedVariables false
set_option linter.unusedSimpArgs false
namespace Go.Proofs.LF
open Go.RowKit Go.Sort
set_option maxHeartbeats 4000000
set_option maxRecDepth 100000
attribute [local go_sem] bs_toList bs_size bs_get bs_add
theorem bs_sp (a : List UInt8) : bs a ++ (⟨#[32]⟩ : ByteArray) = bs (a ++ [32]) := bs_add a [32]
attribute [local go_sem] bs_sp bs_ten
theorem linesL_at {up : List Ky} {y : Fo} {i : Nat} (h : i < (linesL up y).length) (h' : i < (nodesL up y).length) : (linesL up y)[i] = ⟨(nodesL up y)[i].up ++ [kyOf (nodesL up y)[i].n (nodesL up y)[i].l], (nodesL up y)[i].l⟩ := by
  simp [linesL]
theorem lineB_eq (x : NdD) : lineB x = List.replicate x.up.length 32 ++ x.n ++ (x.l.map fun i => 32 :: Lib.itoa i).flatten ++ [10] := by
  rw [lineB, join_words]; simp [List.append_assoc]
theorem RefPrint_any (y : Fo) (a : Option Addr) (c : Nat) (S : Nat → Prop) (w : World) (hv : FSl S w (.slice a y.len c) y) (hS : ∀ b, S b → b < w.heap.size) (hlen : y.len ≤ 1000) (hsm : y.Sm) (hcnt : y.cnt ≤ 900) (hok : ∀ x ∈ nodesL [] y, OkN x) :
    Calls Tryz.prog 24 #[.slice a y.len c] w fun e w' => e = .returned (.string (bs (txtL (nodesL [] y)))) ∧ Below w.heap.size w w' := by
  have hL := Lines_any (y.cnt + 1) y [] a c none 0 S w (by omega) hv ⟨rfl, none, 0, rfl, Nat.le_refl _, by simp [maxLen], fun _ => rfl, .inl rfl⟩ hS hlen hsm (by simpa using hcnt)
  have HL := hid hL
  have HOK := hid hok
  clear hL hok hv
  go_enter Tryz.func24, Tryz.ntmps24
  go_wp2_with fail
  refine HL.out.mono ?_
  rintro e w1 ⟨a1, c1, rfl, hF, hb1⟩
  obtain ⟨N, hN⟩ : ∃ N, N = (linesL [] y).length := ⟨_, rfl⟩
  have hNn : N = (nodesL [] y).length := by rw [hN, linesL, List.length_map]
  have hN9 : N ≤ 900 := by rw [hNn, nodesL_length]; exact hcnt
  obtain ⟨_, _, he, hc, hm, hat⟩ := hF.at
  cases he
  rw [← hN] at hc ⊢
  have HAT := hid hat
  have HN := hid hN
  have HNn := hid hNn
  clear hat hN hF hNn
  unfold maxLen at hm
  go_wp2_with fail
  go_loopw [3, 5] (fun tv i wr => ∃ (k : Nat) (s : List UInt8), k ≤ N ∧ i = .int .i64 k ∧ tv = .string (bs s) ∧ Hid (s = txtL ((nodesL [] y).take k)) ∧ Below w1.heap.size w1 wr) (fun _ i _ => N - (intOf i).toNat)
  case atStart => exact ⟨0, [], by omega, rfl, rfl, by simp [Hid, txtL], Below.refl _ _⟩
  case round =>
    obtain ⟨k, s0, hk, rfl, rfl, hs0, hB⟩ := hrel
    by_cases hlt : k < N
    · obtain ⟨g, o, cs, rfl, hg1, ⟨ap, cp, an, cn, rfl, hp, hI⟩, hcell⟩ := HAT.out k (by rw [← HN.out]; exact hlt)
      have hkn : k < (nodesL [] y).length := by rw [← HNn.out]; exact hlt
      have hS1 : ∀ b, (S b ∨ Rg w.heap.size w1.heap.size b) → b < w1.heap.size := fun b hb => by
        rcases hb with hb | hb
        · have := hS b hb; have := hb1.size; omega
        · exact hb.2
      have ha := Agree.of_below hB hS1
      have c0 := ha.cell hg1 (hcell 0 _ rfl)
      have c1 := ha.cell hg1 (hcell 1 _ rfl)
      obtain ⟨x, hx⟩ : ∃ x, x = (nodesL [] y)[k] := ⟨_, rfl⟩
      have hmem : x ∈ nodesL [] y := by rw [hx]; simp
      have hel := linesL_at (up := []) (y := y) (by rw [← HN.out]; exact hlt) hkn
      rw [← hx] at hel
      rw [hel] at c0 c1 hp hI
      have hox := HOK.out x hmem
      have hxu := nodesL_up y [] x hmem
      have htk : txtL ((nodesL [] y).take (k + 1)) = txtL ((nodesL [] y).take k) ++ lineB x := by
        rw [List.take_succ_eq_append_getElem hkn, txtL_one, hx]
      have htl := txt_len ((nodesL [] y).take k) (fun z hz => ⟨HOK.out z (List.mem_of_mem_take hz), by have := nodesL_up y [] z (List.mem_of_mem_take hz); simp at this; omega⟩)
      have hx9 : x.up.length ≤ 900 := by simp at hxu; omega
      have hline := line_len hox hx9
      have hs0l : s0.length ≤ 837000 := by
        rw [hs0.out]; rw [List.length_take] at htl; omega
      obtain ⟨q, hq⟩ : ∃ q, q = x.up.length + 1 := ⟨_, rfl⟩
      have hpl : (x.up ++ [kyOf x.n x.l]).length = q := by simp [hq]
      simp only [hpl] at c0 hp
      have hp' := hp
      unfold Pth at hp'
      rw [hpl] at hp'
      obtain ⟨gp, op, rfl, hgp, hqc, hqm, hpcell⟩ := SlC.cells hp' (by omega)
      have hq1 : q - 1 = x.up.length := by omega
      have e0 := ha.cell hgp (hpcell ((q - 1) * 3) (.string (bs x.n)) (by
        rw [List.flatMap_append, List.getElem?_append_right (by rw [len_keys]; omega), len_keys, hq1]
        simp [Ky.cells, kyOf_n]))
      have hI' := Ints.agree hI ha
      have HHQ := hid hq
      have HTK := hid htk
      have hq9 : q ≤ 901 := by omega
      have hql : 1 ≤ q := by omega
      have HOX := hid hox
      have HLN := hid hline
      clear hp hp' hpcell hI hel hxu hmem hx htl hox hline htk hq hkn hcell hpl hq1
      simp only [Nat.mul_zero, Nat.add_zero] at c0
      go_wp2_with fail
      go_loopw [3, 6] (fun tv i w2 => ∃ (j d : Nat) (s : List UInt8), 1 ≤ j ∧ j ≤ q ∧ i = .int .i64 j ∧ tv = .string (bs s) ∧ Hid (s = s0 ++ List.replicate (j - 1) 32) ∧ w2 = wr.drewN d) (fun _ i _ => q - (intOf i).toNat)
      case atStart => exact ⟨1, 0, s0, by omega, by omega, rfl, rfl, by simp [Hid], rfl⟩
      case round =>
        obtain ⟨j, d, s, hj1, hj2, rfl, rfl, hs, rfl⟩ := hrel
        have hsl : s.length ≤ 838000 := by rw [hs.out]; simp; omega
        have hng : ¬ 9223372036854775807 < s.length + 1 := by omega
        by_cases hlt2 : j < q
        · go_wp2_with fail
          go_roundw
          case rel => exact ⟨j + 1, _, _, by omega, by omega, by go_num, rfl, by rw [Hid, hs.out, show j + 1 - 1 = (j - 1) + 1 by omega, List.replicate_succ', List.append_assoc], rfl⟩
          case measure => simp [intOf]; omega
        · obtain rfl : j = q := by omega
          have hnl := badNm_len HOX.out.1
          have hng2 : ¬ 9223372036854775807 < s.length + x.n.length := by omega
          have b1 : (0 : Int) ≤ (j : Int) - 1 := by omega
          have b2 : (j : Int) - 1 < (j : Int) := by omega
          have b3 : ((j : Int) - 1).toNat = j - 1 := by omega
          have b5 : (1 : Int) ≤ (j : Int) := by omega
          have b4 : IntKind.i64.wrap ((j : Int) - 1) = (j : Int) - 1 := IntWalk.i64_in _ (by omega)
          have c1' : wr.cell? ⟨g, o + k * 2 + 1, none⟩ = some (.slice an x.l.length cn) := by rw [Nat.add_assoc]; exact c1
          have hl4 : x.l.length ≤ 4 := HOX.out.2.1
          have HNU := hid (badNs_mem HOX.out.2.2)
          have HNG := hid hng
          clear hng
          go_wp2_with fail
          go_quiet (fail)
          go_wp2_with fail
          go_loopw [3, 7] (fun tv i w2 => ∃ (m : Nat) (s2 : List UInt8), m ≤ x.l.length ∧ i = .int .i64 m ∧ tv = .string (bs s2) ∧ Hid (s2 = s ++ x.n ++ ((x.l.take m).map fun i => 32 :: Lib.itoa i).flatten) ∧ w2 = wr.drewN (d + nq)) (fun _ i _ => x.l.length - (intOf i).toNat)
          case atStart => exact ⟨0, s ++ x.n, by omega, rfl, rfl, by simp [Hid], by simp⟩
          case round =>
            obtain ⟨m, s2, hm2, rfl, rfl, hs2, rfl⟩ := hrel
            have hfl := flat_len (l := x.l.take m) (fun z hz => HNU.out z (List.mem_of_mem_take hz))
            have hs2l : s2.length ≤ 839000 := by
              rw [hs2.out, List.length_append, List.length_append]; rw [List.length_take] at hfl; omega
            by_cases hlt3 : m < x.l.length
            · obtain ⟨gi, oi, rfl, hgi, _, _, hic⟩ := SlC.cells hI' (by omega)
              have hxm := HNU.out x.l[m] (by simp)
              obtain ⟨n, hn⟩ : ∃ n : Nat, x.l[m] = (n : Int) := ⟨x.l[m].toNat, by omega⟩
              have hcm : wr.cell? ⟨gi, oi + m, none⟩ = some (.int .i64 (n : Int)) := hic m _ (by rw [← hn]; simp [hlt3])
              have hng3 : ¬ 9223372036854775807 < s2.length + 1 := by omega
              have hdl := dig_len 3 n (by simp; omega)
              have hng4 : ¬ 9223372036854775807 < s2.length + 1 + (Lib.decDigits n).length := by omega
              have hn9 : n ≤ 9999 := by omega
              have HNN := hid hn
              clear hic hn
              go_wp2_with fail
              refine (digits_any (n + 1) n _ (by omega) (by omega)).mono ?_
              rintro e w3 ⟨rfl, rfl⟩
              go_wp2_with fail
              go_roundw
              case rel =>
                refine ⟨m + 1, _, by omega, by go_num, rfl, ?_, by simp⟩
                rw [Hid, hs2.out, List.take_succ_eq_append_getElem hlt3, List.map_append, List.flatten_append]
                have : Lib.itoa x.l[m] = Lib.decDigits n := by rw [HNN.out]; simp [Lib.itoa]
                simp [this]
              case measure => simp [intOf]; omega
            · have hng5 : ¬ 9223372036854775807 < s2.length + 1 := by omega
              have kc := run_convert_bytes_back (P := Tryz.prog) ((wr.drewN (d + nq)).alloc (.cells #[.int .u8 10] 5)) 57 9 5 ⟨wr.heap.size, 0, none⟩ 1 [10] Tryz.underlying57 Tryz.underlying5 Tryz.underlying9 (fun j hj => by
                have h0 : j = 0 := by simp at hj; omega
                subst h0
                have h := heap_alloc_new (wr.drewN (d + nq)) (.cells #[.int .u8 10] 5)
                simp only [Addr.add_lit, Nat.add_zero, World.cell?]
                rw [show (wr.drewN (d + nq)).heap.size = wr.heap.size from rfl] at h
                rw [h]; rfl)
              simp only [List.length_singleton] at kc
              obtain rfl : m = x.l.length := by omega
              go_wp2_with fail
              go_roundw
              case rel =>
                refine ⟨k + 1, _, by omega, by go_num, rfl, ?_, ((below_drewN hB _).alloc (by have := hB.size; exact this) _)⟩
                rw [Hid, HTK.out, hs2.out, List.take_length, hs.out, hs0.out, lineB_eq, show j - 1 = x.up.length by have := HHQ.out; omega]
                simp [List.append_assoc]
              case measure => simp [intOf]; omega
    · go_wp2_with fail
      go_ret
      obtain rfl : k = N := by omega
      refine ⟨?_, hb1.trans (hB.mono hb1.size)⟩
      rw [show s0 = txtL (nodesL [] y) by rw [hs0.out, HNn.out, List.take_length]]
      rfl
end Go.Proofs.LF
