/- Parts of the proof of a law of layer 11 (file): LfW37. The conditions stand in each theorem. -/
import Derived.BigQuiet
import Derived.Deep.AppendLies
import Derived.Deep.QuietTactic
import Derived.Deep.RegionHeld3
import Derived.Laws.ResultCell
import Derived.Outline
import Derived.Test.YtadkpjgpefcphaaGreatDoorProg
import Derived.WalkKit
import Derived.WalkLawsBesides
import Derived.WalkSpells
import Derived.Test.YtadkpjgpefcphaaGreatDoorPrau
import Derived.Test.YtadkpjgpefcphaaGreatDoorPray
set_option linter.all false
set_option linter.unusedVariables false
set_option linter.unusedSimpArgs false
namespace Go.Proofs.LF
open Go.RowKit Go.Sort
set_option maxHeartbeats 4000000
set_option maxRecDepth 100000
attribute [local go_sem] bs_toList bs_size bs_get
theorem idxN_cases (p : Nat → Bool) (n : Nat) : (idxN p n = -1 ∧ ∀ i, i < n → p i = false) ∨ ∃ i, i < n ∧ idxN p n = (i : Int) ∧ p i = true ∧ ∀ j, j < i → p j = false := by
  unfold idxN
  cases h : (List.range n).find? p with
  | none =>
    left
    rw [List.find?_eq_none] at h
    exact ⟨rfl, fun i hi => by have := h i (by simpa using hi); simpa using this⟩
  | some k =>
    right
    rw [List.find?_range_eq_some] at h
    exact ⟨k, by simpa using h.2.1, rfl, h.1, fun j hj => by have := h.2.2 j hj; simpa using this⟩
theorem fstK_none {k : Ky} {y : Fo} (h : ∀ j, j < y.len → keyAt y j ≠ some k) : fstK k y = none := by
  rw [fstK_drop (i := y.len) h, Fo.drop_len]; rfl
theorem ret132 {tmps : Array Value} {W : World} {b : Nat} {x y z t5 : Value} (h : W.heap[b]? = some (.cells #[x, y, z] 85 (0, 0))) (h2 : tmps.getD 4 undef = .pointer (some ⟨b, 0, none⟩)) (h3 : tmps.getD 5 undef = t5) :
    (results Tryz.f132 tmps).run Tryz.prog W = .ok (.tuple #[.agg #[x, y, z], t5]) W := by
  have h0 := cells_get h (k := 0) rfl
  have h1 := cells_get h (k := 1) rfl
  have h4 := cells_get h (k := 2) rfl
  rw [results_cell_tmp rfl, h2, h3]
  simp [go_sem, h0, h1, h4]
theorem node_set {W : World} {b : Nat} {x y z x' y' z' : Value} (h : W.heap[b]? = some (.cells #[x, y, z] 85 (0, 0))) : (((W.setCell ⟨b, 0, none⟩ x').setCell ⟨b, 1, none⟩ y').setCell ⟨b, 2, none⟩ z').heap[b]? = some (.cells #[x', y', z'] 85 (0, 0)) := by
  simp [World.setCell, Array.getElem?_modify, h]
def AtR (y : Fo) (p : List Ky) (S : Nat → Prop) (w : World) (e : Ending) (w' : World) : Prop :=
  ∃ n l s an cn ab cb, (atF y p).getD ([], [], .nil) = (n, l, s) ∧ e = .returned (.tuple #[.agg #[.string (bs n), .slice an l.length cn, .slice ab s.len cb], .bool (atF y p).isSome]) ∧
    Ints S w' (.slice an l.length cn) l ∧ FSl S w' (.slice ab s.len cb) s ∧ Below w.heap.size w w'
theorem at_any (y : Fo) (p : List Ky) (ay ap : Option Addr) (cy cp : Nat) (S T : Nat → Prop) (w : World) (hv : FSl S w (.slice ay y.len cy) y) (hS : ∀ b, S b → b < w.heap.size) (hp : Pth T w (.slice ap p.length cp) p) (hT : ∀ b, T b → b < w.heap.size)
    (hlen : y.len ≤ 1000) (hsm : y.Sm) (lp : p.length ≤ 1000) :
    Calls Tryz.prog 132 #[.slice ay y.len cy, .slice ap p.length cp] w (AtR y p S w) := by
  have hb0 : Below w.heap.size w (w.alloc (.cells #[.string { data := #[] }, .slice none 0 0, .slice none 0 0] 85)) := (Below.refl _ _).alloc (Nat.le_refl _) _
  have HB0 := hid hb0
  have HV := hid hv
  have HP := hid hp
  have HS := hid hS
  have HT := hid hT
  have HSM := hid hsm
  clear hb0 hv hp hS hT hsm
  go_enter Tryz.func132, Tryz.ntmps132
  go_wp2_with fail
  go_loopw [0, 11] (fun v i wr => ∃ (k : Nat) (yk : Fo) (ak : Option Addr) (ck : Nat), k ≤ p.length ∧ i = .int .i64 k ∧ v = .slice ak yk.len ck ∧ Hid (FSl S w (.slice ak yk.len ck) yk) ∧ yk.len ≤ 1000 ∧ Hid yk.Sm ∧ Hid ((k < p.length ∨ k = 0) ∧ atF y p = atF yk (p.drop k)) ∧ Hid (wr.heap[w.heap.size]? = some (.cells #[.string { data := #[] }, .slice none 0 0, .slice none 0 0] 85 (0, 0))) ∧ Below w.heap.size w wr) (fun _ i _ => p.length - (intOf i).toNat)
  case atStart => exact ⟨0, y, ay, cy, Nat.zero_le _, rfl, rfl, HV.out, hlen, HSM.out, ⟨.inr rfl, rfl⟩, heap_alloc_new _ _, HB0.out⟩
  case round =>
    obtain ⟨k, yk, ak, ck, hk, rfl, rfl, hF, hl, hsm, hA, hres, hB⟩ := hrel
    have hsz := hB.size
    have r0 := cells_get hres.out (k := 0) rfl
    have r1 := cells_get hres.out (k := 1) rfl
    have r2 := cells_get hres.out (k := 2) rfl
    have f0 := cells_frz hres.out (k := 0)
    have f1 := cells_frz hres.out (k := 1)
    have f2 := cells_frz hres.out (k := 2)
    by_cases hlt : k < p.length
    · have hlt' : (k : Int) < (p.length : Int) := by omega
      obtain ⟨g, o, rfl, hg, _, _, hcell⟩ := SlC.cells HP.out (by omega)
      obtain ⟨k0, k1, k2⟩ := key_cells hlt
      have ha := Agree.of_below hB HT.out
      have c0 := ha.cell hg (hcell _ _ k0)
      have c1 := ha.cell hg (hcell _ _ k1)
      have c2 := ha.cell hg (hcell _ _ k2)
      rw [← Nat.add_assoc] at c1 c2
      have hdr : p.drop k = p[k] :: p.drop (k + 1) := List.drop_eq_getElem_cons hlt
      obtain ⟨ky, hky⟩ : ∃ ky, p[k] = ky := ⟨_, rfl⟩
      rw [hky] at c0 c1 c2 hdr
      have hBa : Below w.heap.size w (wr.alloc (.cells #[.string (bs ky.n), .bool ky.h, .int .i64 ky.x] 71)) := hB.alloc hsz _
      obtain ⟨cs, hcs1, hcs2⟩ := hF.out
      have hagA := Agree.of_below hBa HS.out
      have hnew := heap_alloc_new wr (.cells #[.string (bs ky.n), .bool ky.h, .int .i64 ky.x] 71)
      have HI := hid (idx_node 202 enters202 (fun i => decide (keyAt yk i = some ky)) [.pointer (some ⟨wr.heap.size, 0, none⟩)] yk.len ak ck cs S _ (hcs1.agree hagA) (fun b hb => by have := HS.out b hb; simp; omega) (by omega)
        (isK_node (hcs1.agree hagA) (hcs2.agree hagA) (fun b hb => by have := HS.out b hb; simp; omega) (by simp) (cells_get hnew (k := 0) rfl) (cells_get hnew (k := 1) rfl) (cells_get hnew (k := 2) rfl)))
      have HBA := hid hBa
      have HDR := hid hdr
      clear hcell k0 k1 k2 hky hdr hBa hcs1 hcs2 hagA hnew ha
      go_wp2_with fail
      refine HI.out.mono ?_
      rintro e w2 ⟨rfl, hb2⟩
      have hB2 := HBA.out.trans (hb2.mono (by simp; omega))
      have hwl : w.heap.size < wr.heap.size := (Array.getElem?_eq_some_iff.1 hres.out).1
      have hres2 : Hid (w2.heap[w.heap.size]? = some (.cells #[.string { data := #[] }, .slice none 0 0, .slice none 0 0] 85 (0, 0))) := (hb2.block _ (by simp; omega)).trans ((heap_alloc_old _ _ (by omega)).trans hres.out)
      have e0 := cells_get hres2.out (k := 0) rfl
      have e1 := cells_get hres2.out (k := 1) rfl
      have e2 := cells_get hres2.out (k := 2) rfl
      have q0 := cells_frz hres2.out (k := 0)
      have q1 := cells_frz hres2.out (k := 1)
      have q2 := cells_frz hres2.out (k := 2)
      have HB2 := hid hB2
      have hA2 := hA.out.2
      rw [HDR.out] at hA2
      clear hb2 hB2
      rcases idxN_cases (fun i => decide (keyAt yk i = some ky)) yk.len with ⟨hi, hall⟩ | ⟨i, hil, hi, hki, hbef⟩
      · rw [hi]
        have hfn : fstK ky yk = none := fstK_none fun j hj => by have := hall j hj; simpa using this
        have hnone : atF y p = none := by
          rw [hA2]
          simp only [atF, hfn]
        have HN := hid hnone
        clear hnone hall hi hfn hA2
        go_wp2_with fail
        refine bodyPost_ret (v := .tuple #[.agg #[.string { data := #[] }, .slice none 0 0, .slice none 0 0], .bool false]) (ret132 (node_set hres2.out) rfl rfl) rfl ?_
        refine ⟨[], [], .nil, none, 0, none, 0, by rw [HN.out]; rfl, by rw [HN.out]; rfl, ⟨rfl, none, 0, rfl, Nat.le_refl _, by simp [maxLen], fun _ => rfl, .inl rfl⟩, ⟨[], ⟨rfl, none, 0, rfl, Nat.le_refl _, by simp [maxLen], fun _ => rfl, .inl rfl⟩, rfl⟩, ?_⟩
        exact Below.setCell (Below.setCell (Below.setCell HB2.out (p := ⟨w.heap.size, 0, none⟩) (Nat.le_refl _) _) (p := ⟨w.heap.size, 1, none⟩) (Nat.le_refl _) _) (p := ⟨w.heap.size, 2, none⟩) (Nat.le_refl _) _
      · rw [hi]
        obtain ⟨a9, c9, he9, hc9, hm9, hat9⟩ := hF.out.at
        obtain ⟨rfl, rfl⟩ : ak = a9 ∧ ck = c9 := by cases he9; exact ⟨rfl, rfl⟩
        obtain ⟨g2, o2, n, l, s, r, an, cn, ab, cb, rfl, hg2, hd, m0, m1, m2, hI, hFs⟩ := hat9 i hil
        have hag2 : Agree S w w2 := Agree.of_below HB2.out HS.out
        have n0 := hag2.cell hg2 m0
        have n1 := hag2.cell hg2 m1
        have n2 := hag2.cell hg2 m2
        have hkn : kyOf n l = ky := by
          have : decide (keyAt yk i = some ky) = true := hki
          simp [keyAt, hd] at this
          exact this
        have hfn : fstK ky yk = some (n, l, s) := by
          rw [fstK_drop (i := i) (fun j hj => by have := hbef j hj; simpa using this), hd]
          simp [fstK, hkn]
        obtain ⟨s1, s2, s3, s4, _⟩ : n.length ≤ 1000 ∧ l.length ≤ 1000 ∧ s.len ≤ 1000 ∧ s.Sm ∧ r.Sm := by have := hsm.out.drop (i := i); rwa [hd] at this
        have hil' : (i : Int) < (yk.len : Int) := by omega
        have hi0 : (0 : Int) ≤ (i : Int) := by omega
        have HI2 := hid hI
        have HF2 := hid hFs
        have HAG := hid hag2
        unfold maxLen at hm9
        clear hi he9 hat9 m0 m1 m2 hd hki hbef hI hFs hag2 hkn
        by_cases hlast : k + 1 = p.length
        · have hl' : ((k : Int) == (p.length : Int) - 1) = true := by simp; omega
          have hat' : atF y p = some (n, l, s) := by
            rw [hA2, List.drop_eq_nil_of_le (by omega)]
            simp only [atF, hfn, if_true]
          have HAT := hid hat'
          clear hat' hA2 hfn
          have hfar := HI2.out.agree HAG.out
          have hff := HF2.out.agree HAG.out
          have hst : ∀ x y z, Agree S w2 (((w2.setCell ⟨w.heap.size, 0, none⟩ x).setCell ⟨w.heap.size, 1, none⟩ y).setCell ⟨w.heap.size, 2, none⟩ z) := fun x y z b hb => by
            have hlt := HS.out b hb
            have hB3 := Below.setCell (Below.setCell (Below.setCell (Below.refl w.heap.size w2) (p := ⟨w.heap.size, 0, none⟩) (Nat.le_refl _) x) (p := ⟨w.heap.size, 1, none⟩) (Nat.le_refl _) y) (p := ⟨w.heap.size, 2, none⟩) (Nat.le_refl _) z
            exact hB3.block b hlt
          have HIF := hid (hfar.agree (hst (.string (bs n)) (.slice an l.length cn) (.slice ab s.len cb)))
          have HFF := hid (hff.agree (hst (.string (bs n)) (.slice an l.length cn) (.slice ab s.len cb)))
          clear hfar hff hst
          go_wp2_with fail
          refine bodyPost_ret (v := .tuple #[.agg #[.string (bs n), .slice an l.length cn, .slice ab s.len cb], .bool true]) (ret132 (node_set hres2.out) rfl rfl) rfl ?_
          refine ⟨n, l, s, an, cn, ab, cb, by rw [HAT.out]; rfl, by rw [HAT.out]; rfl, HIF.out, HFF.out, ?_⟩
          exact Below.setCell (Below.setCell (Below.setCell HB2.out (p := ⟨w.heap.size, 0, none⟩) (Nat.le_refl _) _) (p := ⟨w.heap.size, 1, none⟩) (Nat.le_refl _) _) (p := ⟨w.heap.size, 2, none⟩) (Nat.le_refl _) _
        · have hl' : ((k : Int) == (p.length : Int) - 1) = false := by simp; omega
          have hne : p.drop (k + 1) ≠ [] := fun e => by have := congrArg List.length e; rw [List.length_drop] at this; simp at this; omega
          have hat' : atF y p = atF s (p.drop (k + 1)) := by
            rw [hA2]
            simp only [atF, hfn, hne, if_false]
          have HAT := hid hat'
          clear hat' hA2 hfn hne
          go_wp2_with fail
          go_roundw
          case rel => exact ⟨k + 1, s, ab, cb, by omega, by go_num, rfl, HF2.out, s3, hid s4, ⟨.inl (by omega), HAT.out⟩, hres2, HB2.out⟩
          case measure => simp [intOf]; omega
    · have hlt' : ¬ (k : Int) < (p.length : Int) := by omega
      obtain rfl : k = p.length := by omega
      have hnone : atF y p = none := by
        rcases hA.out.1 with h | h
        · omega
        · have : p = [] := List.eq_nil_of_length_eq_zero h
          rw [this]; cases y <;> rfl
      have HN := hid hnone
      clear hnone
      go_wp2_with fail
      refine bodyPost_ret (v := .tuple #[.agg #[.string { data := #[] }, .slice none 0 0, .slice none 0 0], .bool false]) (ret132 (node_set hres.out) rfl rfl) rfl ?_
      refine ⟨[], [], .nil, none, 0, none, 0, by rw [HN.out]; rfl, by rw [HN.out]; rfl, ⟨rfl, none, 0, rfl, Nat.le_refl _, by simp [maxLen], fun _ => rfl, .inl rfl⟩, ⟨[], ⟨rfl, none, 0, rfl, Nat.le_refl _, by simp [maxLen], fun _ => rfl, .inl rfl⟩, rfl⟩, ?_⟩
      exact Below.setCell (Below.setCell (Below.setCell hB (p := ⟨w.heap.size, 0, none⟩) (Nat.le_refl _) _) (p := ⟨w.heap.size, 1, none⟩) (Nat.le_refl _) _) (p := ⟨w.heap.size, 2, none⟩) (Nat.le_refl _) _
end Go.Proofs.LF
