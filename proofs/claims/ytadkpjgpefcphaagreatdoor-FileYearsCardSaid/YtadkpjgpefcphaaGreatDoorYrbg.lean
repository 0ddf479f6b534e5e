/- Parts of the proof of a law of layer 11 (file): LfGrw, LfW20. The conditions stand in each theorem. -/
import Derived.BigQuiet
import Derived.Deep.AppendLies
import Derived.Deep.QuietTactic
import Derived.Deep.RegionHeld3
import Derived.Laws.ResultCell
import Derived.Outline
import Derived.Shelf.SlSortCmp.Whole1
import Derived.Test.YtadkpjgpefcphaaGreatDoorProg
import Derived.WalkKit
import Derived.WalkLawsBesides
import Derived.WalkSpells
import Derived.Test.YtadkpjgpefcphaaGreatDoorYrbd
set_option linter.all false
set_option linter.unusedVariables false
set_option linter.unusedSimpArgs false
namespace Go.Proofs.LF
open Go.RowKit Go.Sort
set_option maxHeartbeats 4000000
set_option maxRecDepth 100000
attribute [local go_sem] bs_toList bs_size bs_get
def Grw (w w' : World) : Prop := ∃ q os, w' = grow (w.drewN q) os
theorem Grw.refl (w : World) : Grw w w := ⟨0, #[], by simp [World.drewN]⟩
theorem Grw.alloc {w w' : World} (h : Grw w w') (o : Obj) : Grw w (w'.alloc o) := by
  obtain ⟨q, os, rfl⟩ := h
  exact ⟨q, os ++ #[o], by rw [alloc_eq_grow, grow_grow]⟩
theorem Grw.trans {a b c : World} (h : Grw a b) (k : Grw b c) : Grw a c := by
  obtain ⟨q, os, rfl⟩ := h
  obtain ⟨r, os', rfl⟩ := k
  refine ⟨q + r, os ++ os', ?_⟩
  show grow (grow ((a.drewN q).drewN r) os) os' = _
  rw [grow_grow]
  congr 1
  simp [World.drewN, Nat.add_assoc]
theorem Grw.below {w w' : World} (h : Grw w w') : Below w.heap.size w w' := by
  obtain ⟨q, os, rfl⟩ := h
  exact ⟨rfl, rfl, rfl, by simp [grow, World.drewN], fun b hb => by
    show (w.heap ++ os)[b]? = _
    rw [Array.getElem?_append_left hb]⟩
theorem byKey_g (a b : Ky) (w : World) :
    Calls Tryz.prog 183 #[.agg #[.string (bs a.n), .bool a.h, .int .i64 a.x], .agg #[.string (bs b.n), .bool b.h, .int .i64 b.x]] w fun e w' => e = .returned (.int .i64 (byK a b)) ∧ Grw w w' := by
  obtain ⟨an, ah, ax⟩ := a
  obtain ⟨bn, bh, bx⟩ := b
  by_cases h : an = bn
  · have h' : (an == bn) = true := by simp [h]
    cases ah <;> cases bh
    all_goals
      go_enter Tryz.func183, Tryz.ntmps183
      go_wp2_with (first | (go_at_call 223; refine (cmps_any _ _ _).mono ?_; rintro e w' ⟨rfl, rfl⟩) | (go_at_call 224; refine (cmpi_any _ _ _).mono ?_; rintro e w' ⟨rfl, rfl⟩))
      go_ret
      exact ⟨ret_int (by simp [byK, h]), ((Grw.refl _).alloc _).alloc _⟩
  · have h' : (an == bn) = false := by simp [h]
    go_enter Tryz.func183, Tryz.ntmps183
    go_wp2_with (first | (go_at_call 223; refine (cmps_any _ _ _).mono ?_; rintro e w' ⟨rfl, rfl⟩) | (go_at_call 224; refine (cmpi_any _ _ _).mono ?_; rintro e w' ⟨rfl, rfl⟩))
    go_ret
    exact ⟨ret_int (by simp [byK, h]), ((Grw.refl _).alloc _).alloc _⟩
theorem cmpPaths_g (p q : List Ky) (ap aq : Option Addr) (cp cq : Nat) (S : Nat → Prop) (w : World) (hp : Pth S w (.slice ap p.length cp) p) (hq : Pth S w (.slice aq q.length cq) q) (hS : ∀ b, S b → b < w.heap.size) (lp : p.length ≤ 1000) (lq : q.length ≤ 1000) :
    Calls Tryz.prog 191 #[.slice ap p.length cp, .slice aq q.length cq, .func (.func 183) #[] #[]] w fun e w' => e = .returned (.int .i64 (cmpP p q)) ∧ Grw w w' := by
  go_enter Tryz.func191, Tryz.ntmps191
  go_wp2_with fail
  go_loopw [13] (fun i wr => ∃ k : Nat, k ≤ p.length ∧ k ≤ q.length ∧ i = .int .i64 k ∧ Hid (cmpP p q = cmpP (p.drop k) (q.drop k)) ∧ Grw w wr) (fun i _ => p.length - (intOf i).toNat)
  case atStart => exact ⟨0, by omega, by omega, rfl, by simp [Hid], Grw.refl _⟩
  case round =>
    obtain ⟨k, hk, hk2, rfl, hN, hB⟩ := hrel
    have hBG := hB
    replace hB := hB.below
    have hsz := hB.size
    by_cases hA : k < p.length
    · obtain ⟨g, o, rfl, hg, _, _, hcell⟩ := SlC.cells hp (by omega)
      obtain ⟨k0, k1, k2⟩ := key_cells hA
      have ha := Agree.of_below hB hS
      have c0 := ha.cell hg (hcell _ _ k0)
      have c1 := ha.cell hg (hcell _ _ k1)
      have c2 := ha.cell hg (hcell _ _ k2)
      rw [← Nat.add_assoc] at c1 c2
      by_cases hB2 : k < q.length
      · have a2 : ¬ (q.length : Int) ≤ (k : Int) := by omega
        have a3 : (k : Int) < (q.length : Int) := by omega
        obtain ⟨g', o', rfl, hg', _, _, hcell'⟩ := SlC.cells hq (by omega)
        obtain ⟨k0', k1', k2'⟩ := key_cells hB2
        have hbx : Below w.heap.size w (wr.alloc (.cells #[.string (bs p[k].n), .bool p[k].h, .int .i64 p[k].x] 71)) := hB.alloc hsz _
        have hax := Agree.of_below hbx hS
        have d0 := hax.cell hg' (hcell' _ _ k0')
        have d1 := hax.cell hg' (hcell' _ _ k1')
        have d2 := hax.cell hg' (hcell' _ _ k2')
        rw [← Nat.add_assoc] at d1 d2
        have hd : cmpP (p.drop k) (q.drop k) = if byK p[k] q[k] ≠ 0 then byK p[k] q[k] else cmpP (p.drop (k + 1)) (q.drop (k + 1)) := by
          rw [List.drop_eq_getElem_cons hA, List.drop_eq_getElem_cons hB2]; rfl
        have HD := hid hd
        have HBX := hid hbx
        clear hcell k0 k1 k2 hcell' k0' k1' k2' hd hbx hax
        go_wp2_with fail
        refine (byKey_g p[k] q[k] _).mono ?_
        rintro e w2 ⟨rfl, hb2⟩
        have HB2 := hid (((hBG.alloc _).alloc _).trans hb2)
        clear hb2
        by_cases he : byK p[k] q[k] = 0
        · have he' : (byK p[k] q[k] != 0) = false := by simpa using he
          have HE := hid he
          clear he
          go_wp2_with fail
          go_roundw
          case rel => exact ⟨k + 1, by omega, by omega, by go_num, by rw [Hid, hN.out, HD.out, if_neg (by simpa using HE.out)], HB2.out⟩
          case measure => simp [intOf]; omega
        · have he' : (byK p[k] q[k] != 0) = true := by simpa using he
          have HE := hid he
          clear he
          go_wp2_with fail
          go_ret
          exact ⟨ret_int (by rw [hN.out, HD.out, if_pos (by simpa using HE.out)]), HB2.out⟩
      · have a2 : (q.length : Int) ≤ (k : Int) := by omega
        have hd : cmpP (p.drop k) (q.drop k) = 1 := by
          rw [List.drop_eq_getElem_cons hA, List.drop_eq_nil_of_le (by omega : q.length ≤ k)]; rfl
        clear hcell k0 k1 k2
        go_wp2_with fail
        go_ret
        exact ⟨ret_int (by rw [hN.out, hd]), hBG.alloc _⟩
    · have hA' : ¬ (k : Int) < (p.length : Int) := by omega
      obtain rfl : k = p.length := by omega
      by_cases hB2 : p.length < q.length
      · have a2 : (p.length : Int) < (q.length : Int) := by omega
        have hd : cmpP (p.drop p.length) (q.drop p.length) = -1 := by
          rw [List.drop_eq_getElem_cons hB2, List.drop_length]; rfl
        go_wp2_with fail
        go_ret
        exact ⟨ret_int (by rw [hN.out, hd]), hBG⟩
      · have a2 : ¬ (p.length : Int) < (q.length : Int) := by omega
        have hd : cmpP (p.drop p.length) (q.drop p.length) = 0 := by
          rw [List.drop_length, List.drop_eq_nil_of_le (by omega)]; rfl
        go_wp2_with fail
        go_ret
        exact ⟨ret_int (by rw [hN.out, hd]), hBG⟩
theorem byPath_g (p q : List Ky) (ap aq : Option Addr) (cp cq : Nat) (S : Nat → Prop) (w : World) (hp : Pth S w (.slice ap p.length cp) p) (hq : Pth S w (.slice aq q.length cq) q) (hS : ∀ b, S b → b < w.heap.size) (lp : p.length ≤ 1000) (lq : q.length ≤ 1000) :
    Calls Tryz.prog 103 #[.slice ap p.length cp, .slice aq q.length cq] w fun e w' => e = .returned (.int .i64 (cmpP p q)) ∧ Grw w w' := by
  have H := hid (cmpPaths_g p q ap aq cp cq S w hp hq hS lp lq)
  go_enter Tryz.func103, Tryz.ntmps103
  go_wp2_with fail
  refine H.out.mono ?_
  rintro e w1 ⟨rfl, hb1⟩
  go_wp2_with fail
  go_ret
  exact ⟨rfl, hb1⟩
end Go.Proofs.LF
namespace Go.Proofs.LF
open Go.RowKit Go.Sort
set_option maxHeartbeats 4000000
set_option maxRecDepth 100000
attribute [local go_sem] bs_toList bs_size bs_get
theorem late_any (p q : List Ky) (ap aq al : Option Addr) (cp cq nl cl F : Nat) (S : Nat → Prop) (w : World) (hp : Pth S w (.slice ap p.length cp) p) (hq : Pth S w (.slice aq q.length cq) q) (hS : ∀ b, S b → b < w.heap.size) (lp : p.length ≤ 1000) (lq : q.length ≤ 1000)
    (hF : F < w.heap.size) (hc : w.cell? ⟨F, 0, none⟩ = some (.slice aq q.length cq)) :
    Calls Tryz.prog 102 #[.agg #[.slice ap p.length cp, .slice al nl cl], .pointer (some ⟨F, 0, none⟩)] w fun e w' => e = .returned (.bool (decide (0 ≤ cmpP p q))) ∧ Below w.heap.size w w' := by
  have hb : Below w.heap.size w (w.alloc (.cells #[.slice ap p.length cp, .slice al nl cl] 171)) := (Below.refl _ _).alloc (Nat.le_refl _) _
  have hc' := below_cell hb hF hc
  have ha := Agree.of_below hb hS
  have H := hid (byPath_any p q ap aq cp cq S _ (hp.agree ha) (hq.agree ha) (fun b h => by have := hS b h; simp; omega) lp lq)
  have HB := hid hb
  clear hb ha hp hq
  go_enter Tryz.func102, Tryz.ntmps102
  go_wp2_with fail
  refine H.out.mono ?_
  rintro e w1 ⟨rfl, hb1⟩
  have HB1 := hid (HB.out.trans (hb1.mono HB.out.size))
  clear hb1
  by_cases h : 0 ≤ cmpP p q
  · go_wp2_with fail
    go_ret
    exact ⟨ret_bool (by simp [h]), HB1.out⟩
  · go_wp2_with fail
    go_ret
    exact ⟨ret_bool (by simp [h]), HB1.out⟩
end Go.Proofs.LF
