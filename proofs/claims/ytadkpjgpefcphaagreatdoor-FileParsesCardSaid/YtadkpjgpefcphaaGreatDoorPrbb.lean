/- Parts of the proof of a law of layer 11 (file): LfW27, LfGrw, LfW20. The conditions stand in each theorem. -/
import Derived.BigQuiet
import Derived.Deep.AppendLies
import Derived.Deep.QuietTactic
import Derived.Deep.RegionHeld3
import Derived.Laws.ResultCell
import Derived.Outline
import Derived.Shelf.SlSortCmp.Whole1
import Derived.Test.YtadkpjgpefcphaaGreatDoorProg
import Derived.WalkKit
import Derived.WalkLawsBesides
import Derived.WalkSpells
import Derived.Test.YtadkpjgpefcphaaGreatDoorPrah
import Derived.Test.YtadkpjgpefcphaaGreatDoorPraq
import Derived.Test.YtadkpjgpefcphaaGreatDoorPrat
import Derived.Test.YtadkpjgpefcphaaGreatDoorPray
set_option linter.all false
set_option linter.unusedVariables false
set_option linter.unusedSimpArgs false
namespace Go.Proofs.LF
open Go.RowKit Go.Sort
set_option maxHeartbeats 4000000
set_option maxRecDepth 100000
attribute [local go_sem] bs_toList bs_size bs_get
theorem bs_sl (c : UInt8) (a : List UInt8) : (⟨#[c]⟩ : ByteArray) ++ bs a = bs (c :: a) := bs_add [c] a
attribute [local go_sem] bs_sl
theorem bs_47 (a : List UInt8) : ({ data := #[47] } : ByteArray) ++ bs a = bs (47 :: a) := bs_add [47] a
attribute [local go_sem] bs_47
theorem bs_58 (a : List UInt8) : ({ data := #[58] } : ByteArray) ++ bs a = bs (58 :: a) := bs_add [58] a
theorem bs_63 (a : List UInt8) : ({ data := #[63] } : ByteArray) ++ bs a = bs (63 :: a) := bs_add [63] a
attribute [local go_sem] bs_58 bs_63
def OkK (k : Ky) : Prop := k.n.length ≤ 1000 ∧ 0 ≤ k.x ∧ k.x ≤ 9999
theorem sptK_len {k : Ky} (h : OkK k) : (sptK k).length ≤ 1006 := by
  have h1 := itoa_len h.2.1 h.2.2
  simp only [sptK, List.length_append, List.length_cons]
  have := h.1
  split
  · simp; omega
  · split
    · simp; omega
    · simp; omega
theorem sptL_len {p : List Ky} : (∀ k ∈ p, OkK k) → (sptL p).length ≤ 1006 * p.length := by
  induction p with
  | nil => intro _; simp [sptL]
  | cons k p ih =>
    intro h
    have h1 := sptK_len (h k (by simp))
    have h2 := ih fun z hz => h z (by simp [hz])
    simp only [sptL, List.map_cons, List.flatten_cons, List.length_append, List.length_cons] at *
    omega
theorem sptL_take {p : List Ky} {k : Nat} (h : k < p.length) : sptL (p.take (k + 1)) = sptL (p.take k) ++ sptK p[k] := by
  unfold sptL
  rw [List.take_succ_eq_append_getElem h, List.map_append, List.flatten_append]; simp only [List.map_cons, List.map_nil, List.flatten_cons, List.flatten_nil, List.append_nil]
theorem spelt_any (p : List Ky) (a : Option Addr) (c : Nat) (S : Nat → Prop) (w : World) (hv : Pth S w (.slice a p.length c) p) (hS : ∀ b, S b → b < w.heap.size) (hlen : p.length ≤ 1000) (hok : ∀ k ∈ p, OkK k) (ht : Pow w) :
    Calls Tryz.prog 167 #[.slice a p.length c] w fun e w' => e = .returned (.string (bs (sptL p))) ∧ Below w.heap.size w w' := by
  have HV := hid hv
  have HOK := hid hok
  have HT := hid ht
  have HS := hid hS
  have hb0 : Bld w.heap.size (.slice none 0 0) [] (w.alloc (.cells #[.pointer none, .slice none 0 0] 144)) := ⟨_, .inl rfl, heap_alloc_new _ _, World.ownsRow_nil _ _ _ _, by simp [Value.ownBlock]⟩
  have HB0 := hid hb0
  clear hv hok ht hS hb0
  go_enter Tryz.func167, Tryz.ntmps167
  go_wp2_with fail
  go_loopw [8] (fun i wr => ∃ (k : Nat) (v : Value), k ≤ p.length ∧ i = .int .i64 k ∧ Hid (Bld w.heap.size v (sptL (p.take k)) wr) ∧ Hid (Below w.heap.size w wr)) (fun i _ => p.length - (intOf i).toNat)
  case atStart => exact ⟨0, .slice none 0 0, by omega, rfl, by simpa [Hid, sptL] using HB0.out, (Below.refl _ _).alloc (Nat.le_refl _) _⟩
  case round =>
    obtain ⟨k, v, hk, rfl, hb, hB⟩ := hrel
    have hsz := hB.out.size
    by_cases hlt : k < p.length
    · have hlt' : (k : Int) < (p.length : Int) := by omega
      obtain ⟨g, o, rfl, hg, _, _, hcell⟩ := SlC.cells HV.out (by omega)
      obtain ⟨k0, k1, k2⟩ := key_cells hlt
      have ha := Agree.of_below hB.out HS.out
      have c0 := ha.cell hg (hcell _ _ k0)
      have c1 := ha.cell hg (hcell _ _ k1)
      have c2 := ha.cell hg (hcell _ _ k2)
      rw [← Nat.add_assoc] at c1 c2
      have hkk := HOK.out p[k] (List.getElem_mem hlt)
      have hspl : (sptL (p.take k)).length ≤ 1006 * 1000 := by
        have h1 := sptL_len (p := p.take k) fun z hz => HOK.out z (List.mem_of_mem_take hz)
        rw [List.length_take] at h1
        have : min k p.length ≤ 1000 := by omega
        omega
      have hgen := sptL_take hlt
      have hK := hid (show sptK p[k] = 47 :: p[k].n ++ (if p[k].h then 58 :: Lib.itoa p[k].x else if p[k].x ≠ 0 then 63 :: Lib.itoa p[k].x else []) from rfl)
      obtain ⟨ky, hky⟩ : ∃ ky, p[k] = ky := ⟨_, rfl⟩
      rw [hky] at c0 c1 c2 hkk hgen hK
      have HG := hid hgen
      have HKK := hid hkk
      have HSP := hid hspl
      have hng : ¬ 9223372036854775807 < 1 + ky.n.length := by have := hkk.1; omega
      have hbw : Bld w.heap.size v (sptL (p.take k)) (wr.alloc (.cells #[.string (bs ky.n), .bool ky.h, .int .i64 ky.x] 71)) := hb.out.below ((Below.refl _ _).alloc (Nat.le_refl _) _)
      have HBW := hid hbw
      clear hcell k0 k1 k2 hky hgen hkk hspl hbw ha
      go_wp2_with fail
      refine (WriteString_any w.heap.size v _ (47 :: ky.n) _ HBW.out (by have := HSP.out; omega) (by have := HKK.out.1; simp; omega)).mono ?_
      rintro e w2 ⟨rfl, v2, hb2, hk2, hj2⟩
      have hBlo : ∀ b, BldO w.heap.size v b → b < wr.heap.size := fun b hb' => BldO.lt hb.out b hb'
      have hblk : w2.heap[wr.heap.size]? = some (.cells #[.string (bs ky.n), .bool ky.h, .int .i64 ky.x] 71 (0, 0)) := (hk2.block _ (by simp) (fun h => by have := hBlo _ h; omega)).trans (heap_alloc_new _ _)
      have e1 := cells_get hblk (k := 1) rfl
      have e2 := cells_get hblk (k := 2) rfl
      have HBL := hid hblk
      have hbel2 : Below w.heap.size w w2 := (hB.out.alloc hsz _).trans (hk2.below (by simp; omega) (fun b hb' ho => by
        rcases ho with rfl | ho
        · omega
        · have := (BldO.ge hb.out b (.inr ho)); omega))
      have HB2 := hid hbel2
      have HBD := hid hb2
      have hz2 := hk2.size
      simp only [World.size_alloc] at hz2
      have HKK2 := hid (show (47 :: ky.n).length ≤ 1001 by have := HKK.out.1; simp; omega)
      clear hbel2 hb2 hblk hk2 hj2
      by_cases hh : ky.h = true
      · have hlast : sptK ky = 47 :: ky.n ++ 58 :: Lib.itoa ky.x := by rw [hK.out, if_pos hh]
        have HL := hid hlast
        clear hlast
        go_wp2_with fail
        refine (Itoa_any ky.x (by have := HKK.out.2.1; omega) (by have := HKK.out.2.2; omega) _ (HT.out.below HB2.out)).mono ?_
        rintro e w3 ⟨rfl, hb3⟩
        have hil := itoa_len HKK.out.2.1 HKK.out.2.2
        have hng2 : ¬ 9223372036854775807 < 1 + (Lib.itoa ky.x).length := by omega
        have HBD3 := hid (HBD.out.below hb3)
        have HB3 := hid (HB2.out.trans (hb3.mono (by omega)))
        go_wp2_with fail
        refine (WriteString_any w.heap.size v2 _ (58 :: Lib.itoa ky.x) _ HBD3.out (by have h1 := HSP.out; have h2 := HKK2.out; simp only [List.length_append]; omega) (by simp; omega)).mono ?_
        rintro e w4 ⟨rfl, v4, hb4, hk4, hj4⟩
        have hbel4 : Below w.heap.size w w4 := HB3.out.trans (hk4.below (by have := HB3.out.size; omega) (fun b hb' ho => by
          have := BldO.ge HBD3.out b ho; omega))
        go_wp2_with fail
        go_roundw
        case rel => exact ⟨k + 1, v4, by omega, by go_num, by rw [Hid, HG.out, HL.out]; simpa using hb4, hbel4⟩
        case measure => simp [intOf]; omega
      · have hh' : ky.h = false := by simpa using hh
        by_cases hx : ky.x = 0
        · have hlast : sptK ky = 47 :: ky.n := by rw [hK.out, if_neg hh, if_neg (by simpa using hx), List.append_nil]
          have HL := hid hlast
          have hx' : (ky.x != 0) = false := by simpa using hx
          have HX := hid hx
          clear hlast hx
          go_wp2_with fail
          go_roundw
          case rel => exact ⟨k + 1, v2, by omega, by go_num, by rw [Hid, HG.out, HL.out]; exact HBD.out, HB2.out⟩
          case measure => simp [intOf]; omega
        · have hlast : sptK ky = 47 :: ky.n ++ 63 :: Lib.itoa ky.x := by rw [hK.out, if_neg hh, if_pos hx]
          have HL := hid hlast
          have hx' : (ky.x != 0) = true := by simpa using hx
          have HX := hid hx
          clear hlast hx
          go_wp2_with fail
          refine (Itoa_any ky.x (by have := HKK.out.2.1; omega) (by have := HKK.out.2.2; omega) _ (HT.out.below HB2.out)).mono ?_
          rintro e w3 ⟨rfl, hb3⟩
          have hil := itoa_len HKK.out.2.1 HKK.out.2.2
          have hng2 : ¬ 9223372036854775807 < 1 + (Lib.itoa ky.x).length := by omega
          have HBD3 := hid (HBD.out.below hb3)
          have HB3 := hid (HB2.out.trans (hb3.mono (by omega)))
          go_wp2_with fail
          refine (WriteString_any w.heap.size v2 _ (63 :: Lib.itoa ky.x) _ HBD3.out (by have h1 := HSP.out; have h2 := HKK2.out; simp only [List.length_append]; omega) (by simp; omega)).mono ?_
          rintro e w4 ⟨rfl, v4, hb4, hk4, hj4⟩
          have hbel4 : Below w.heap.size w w4 := HB3.out.trans (hk4.below (by have := HB3.out.size; omega) (fun b hb' ho => by
            have := BldO.ge HBD3.out b ho; omega))
          go_wp2_with fail
          go_roundw
          case rel => exact ⟨k + 1, v4, by omega, by go_num, by rw [Hid, HG.out, HL.out]; simpa using hb4, hbel4⟩
          case measure => simp [intOf]; omega
    · obtain rfl : k = p.length := by omega
      have hlt' : ¬ (p.length : Int) < (p.length : Int) := by omega
      go_wp2_with fail
      refine (Tryz.Builder_String_any_k _ _ _ _ (Lib.IsBuilderF.of hb.out.is) (Nat.le_of_lt hb.out.lt)).mono ?_
      rintro e W2 ⟨rfl, _, hbw, _⟩
      have HBW := hid hbw
      clear hbw
      go_wp2_with fail
      go_ret
      exact ⟨rfl, hB.out.trans HBW.out⟩
end Go.Proofs.LF
namespace Go.Proofs.LF
open Go.RowKit Go.Sort
set_option maxHeartbeats 4000000
set_option maxRecDepth 100000
attribute [local go_sem] bs_toList bs_size bs_get
def Grw (w w' : World) : Prop := ∃ q os, w' = grow (w.drewN q) os
theorem Grw.refl (w : World) : Grw w w := ⟨0, #[], by simp [World.drewN]⟩
theorem Grw.alloc {w w' : World} (h : Grw w w') (o : Obj) : Grw w (w'.alloc o) := by
  obtain ⟨q, os, rfl⟩ := h
  exact ⟨q, os ++ #[o], by rw [alloc_eq_grow, grow_grow]⟩
theorem Grw.trans {a b c : World} (h : Grw a b) (k : Grw b c) : Grw a c := by
  obtain ⟨q, os, rfl⟩ := h
  obtain ⟨r, os', rfl⟩ := k
  refine ⟨q + r, os ++ os', ?_⟩
  show grow (grow ((a.drewN q).drewN r) os) os' = _
  rw [grow_grow]
  congr 1
  simp [World.drewN, Nat.add_assoc]
theorem Grw.below {w w' : World} (h : Grw w w') : Below w.heap.size w w' := by
  obtain ⟨q, os, rfl⟩ := h
  exact ⟨rfl, rfl, rfl, by simp [grow, World.drewN], fun b hb => by
    show (w.heap ++ os)[b]? = _
    rw [Array.getElem?_append_left hb]⟩
theorem byKey_g (a b : Ky) (w : World) :
    Calls Tryz.prog 183 #[.agg #[.string (bs a.n), .bool a.h, .int .i64 a.x], .agg #[.string (bs b.n), .bool b.h, .int .i64 b.x]] w fun e w' => e = .returned (.int .i64 (byK a b)) ∧ Grw w w' := by
  obtain ⟨an, ah, ax⟩ := a
  obtain ⟨bn, bh, bx⟩ := b
  by_cases h : an = bn
  · have h' : (an == bn) = true := by simp [h]
    cases ah <;> cases bh
    all_goals
      go_enter Tryz.func183, Tryz.ntmps183
      go_wp2_with (first | (go_at_call 223; refine (cmps_any _ _ _).mono ?_; rintro e w' ⟨rfl, rfl⟩) | (go_at_call 224; refine (cmpi_any _ _ _).mono ?_; rintro e w' ⟨rfl, rfl⟩))
      go_ret
      exact ⟨ret_int (by simp [byK, h]), ((Grw.refl _).alloc _).alloc _⟩
  · have h' : (an == bn) = false := by simp [h]
    go_enter Tryz.func183, Tryz.ntmps183
    go_wp2_with (first | (go_at_call 223; refine (cmps_any _ _ _).mono ?_; rintro e w' ⟨rfl, rfl⟩) | (go_at_call 224; refine (cmpi_any _ _ _).mono ?_; rintro e w' ⟨rfl, rfl⟩))
    go_ret
    exact ⟨ret_int (by simp [byK, h]), ((Grw.refl _).alloc _).alloc _⟩
theorem cmpPaths_g (p q : List Ky) (ap aq : Option Addr) (cp cq : Nat) (S : Nat → Prop) (w : World) (hp : Pth S w (.slice ap p.length cp) p) (hq : Pth S w (.slice aq q.length cq) q) (hS : ∀ b, S b → b < w.heap.size) (lp : p.length ≤ 1000) (lq : q.length ≤ 1000) :
    Calls Tryz.prog 191 #[.slice ap p.length cp, .slice aq q.length cq, .func (.func 183) #[] #[]] w fun e w' => e = .returned (.int .i64 (cmpP p q)) ∧ Grw w w' := by
  go_enter Tryz.func191, Tryz.ntmps191
  go_wp2_with fail
  go_loopw [13] (fun i wr => ∃ k : Nat, k ≤ p.length ∧ k ≤ q.length ∧ i = .int .i64 k ∧ Hid (cmpP p q = cmpP (p.drop k) (q.drop k)) ∧ Grw w wr) (fun i _ => p.length - (intOf i).toNat)
  case atStart => exact ⟨0, by omega, by omega, rfl, by simp [Hid], Grw.refl _⟩
  case round =>
    obtain ⟨k, hk, hk2, rfl, hN, hB⟩ := hrel
    have hBG := hB
    replace hB := hB.below
    have hsz := hB.size
    by_cases hA : k < p.length
    · obtain ⟨g, o, rfl, hg, _, _, hcell⟩ := SlC.cells hp (by omega)
      obtain ⟨k0, k1, k2⟩ := key_cells hA
      have ha := Agree.of_below hB hS
      have c0 := ha.cell hg (hcell _ _ k0)
      have c1 := ha.cell hg (hcell _ _ k1)
      have c2 := ha.cell hg (hcell _ _ k2)
      rw [← Nat.add_assoc] at c1 c2
      by_cases hB2 : k < q.length
      · have a2 : ¬ (q.length : Int) ≤ (k : Int) := by omega
        have a3 : (k : Int) < (q.length : Int) := by omega
        obtain ⟨g', o', rfl, hg', _, _, hcell'⟩ := SlC.cells hq (by omega)
        obtain ⟨k0', k1', k2'⟩ := key_cells hB2
        have hbx : Below w.heap.size w (wr.alloc (.cells #[.string (bs p[k].n), .bool p[k].h, .int .i64 p[k].x] 71)) := hB.alloc hsz _
        have hax := Agree.of_below hbx hS
        have d0 := hax.cell hg' (hcell' _ _ k0')
        have d1 := hax.cell hg' (hcell' _ _ k1')
        have d2 := hax.cell hg' (hcell' _ _ k2')
        rw [← Nat.add_assoc] at d1 d2
        have hd : cmpP (p.drop k) (q.drop k) = if byK p[k] q[k] ≠ 0 then byK p[k] q[k] else cmpP (p.drop (k + 1)) (q.drop (k + 1)) := by
          rw [List.drop_eq_getElem_cons hA, List.drop_eq_getElem_cons hB2]; rfl
        have HD := hid hd
        have HBX := hid hbx
        clear hcell k0 k1 k2 hcell' k0' k1' k2' hd hbx hax
        go_wp2_with fail
        refine (byKey_g p[k] q[k] _).mono ?_
        rintro e w2 ⟨rfl, hb2⟩
        have HB2 := hid (((hBG.alloc _).alloc _).trans hb2)
        clear hb2
        by_cases he : byK p[k] q[k] = 0
        · have he' : (byK p[k] q[k] != 0) = false := by simpa using he
          have HE := hid he
          clear he
          go_wp2_with fail
          go_roundw
          case rel => exact ⟨k + 1, by omega, by omega, by go_num, by rw [Hid, hN.out, HD.out, if_neg (by simpa using HE.out)], HB2.out⟩
          case measure => simp [intOf]; omega
        · have he' : (byK p[k] q[k] != 0) = true := by simpa using he
          have HE := hid he
          clear he
          go_wp2_with fail
          go_ret
          exact ⟨ret_int (by rw [hN.out, HD.out, if_pos (by simpa using HE.out)]), HB2.out⟩
      · have a2 : (q.length : Int) ≤ (k : Int) := by omega
        have hd : cmpP (p.drop k) (q.drop k) = 1 := by
          rw [List.drop_eq_getElem_cons hA, List.drop_eq_nil_of_le (by omega : q.length ≤ k)]; rfl
        clear hcell k0 k1 k2
        go_wp2_with fail
        go_ret
        exact ⟨ret_int (by rw [hN.out, hd]), hBG.alloc _⟩
    · have hA' : ¬ (k : Int) < (p.length : Int) := by omega
      obtain rfl : k = p.length := by omega
      by_cases hB2 : p.length < q.length
      · have a2 : (p.length : Int) < (q.length : Int) := by omega
        have hd : cmpP (p.drop p.length) (q.drop p.length) = -1 := by
          rw [List.drop_eq_getElem_cons hB2, List.drop_length]; rfl
        go_wp2_with fail
        go_ret
        exact ⟨ret_int (by rw [hN.out, hd]), hBG⟩
      · have a2 : ¬ (p.length : Int) < (q.length : Int) := by omega
        have hd : cmpP (p.drop p.length) (q.drop p.length) = 0 := by
          rw [List.drop_length, List.drop_eq_nil_of_le (by omega)]; rfl
        go_wp2_with fail
        go_ret
        exact ⟨ret_int (by rw [hN.out, hd]), hBG⟩
theorem byPath_g (p q : List Ky) (ap aq : Option Addr) (cp cq : Nat) (S : Nat → Prop) (w : World) (hp : Pth S w (.slice ap p.length cp) p) (hq : Pth S w (.slice aq q.length cq) q) (hS : ∀ b, S b → b < w.heap.size) (lp : p.length ≤ 1000) (lq : q.length ≤ 1000) :
    Calls Tryz.prog 103 #[.slice ap p.length cp, .slice aq q.length cq] w fun e w' => e = .returned (.int .i64 (cmpP p q)) ∧ Grw w w' := by
  have H := hid (cmpPaths_g p q ap aq cp cq S w hp hq hS lp lq)
  go_enter Tryz.func103, Tryz.ntmps103
  go_wp2_with fail
  refine H.out.mono ?_
  rintro e w1 ⟨rfl, hb1⟩
  go_wp2_with fail
  go_ret
  exact ⟨rfl, hb1⟩
end Go.Proofs.LF
namespace Go.Proofs.LF
open Go.RowKit Go.Sort
set_option maxHeartbeats 4000000
set_option maxRecDepth 100000
attribute [local go_sem] bs_toList bs_size bs_get
theorem late_any (p q : List Ky) (ap aq al : Option Addr) (cp cq nl cl F : Nat) (S : Nat → Prop) (w : World) (hp : Pth S w (.slice ap p.length cp) p) (hq : Pth S w (.slice aq q.length cq) q) (hS : ∀ b, S b → b < w.heap.size) (lp : p.length ≤ 1000) (lq : q.length ≤ 1000)
    (hF : F < w.heap.size) (hc : w.cell? ⟨F, 0, none⟩ = some (.slice aq q.length cq)) :
    Calls Tryz.prog 102 #[.agg #[.slice ap p.length cp, .slice al nl cl], .pointer (some ⟨F, 0, none⟩)] w fun e w' => e = .returned (.bool (decide (0 ≤ cmpP p q))) ∧ Below w.heap.size w w' := by
  have hb : Below w.heap.size w (w.alloc (.cells #[.slice ap p.length cp, .slice al nl cl] 171)) := (Below.refl _ _).alloc (Nat.le_refl _) _
  have hc' := below_cell hb hF hc
  have ha := Agree.of_below hb hS
  have H := hid (byPath_any p q ap aq cp cq S _ (hp.agree ha) (hq.agree ha) (fun b h => by have := hS b h; simp; omega) lp lq)
  have HB := hid hb
  clear hb ha hp hq
  go_enter Tryz.func102, Tryz.ntmps102
  go_wp2_with fail
  refine H.out.mono ?_
  rintro e w1 ⟨rfl, hb1⟩
  have HB1 := hid (HB.out.trans (hb1.mono HB.out.size))
  clear hb1
  by_cases h : 0 ≤ cmpP p q
  · go_wp2_with fail
    go_ret
    exact ⟨ret_bool (by simp [h]), HB1.out⟩
  · go_wp2_with fail
    go_ret
    exact ⟨ret_bool (by simp [h]), HB1.out⟩
end Go.Proofs.LF
