/- Parts of the proof of a law of layer 11 (file): LfW19. The conditions stand in each theorem. -/
import Derived.BigQuiet
import Derived.Deep.AppendLies
import Derived.Deep.QuietTactic
import Derived.Deep.RegionHeld3
import Derived.Laws.ResultCell
import Derived.Outline
import Derived.Test.YtadkpjgpefcphaaGreatDoorProg
import Derived.WalkKit
import Derived.WalkLawsBesides
import Derived.WalkSpells
import Derived.Test.YtadkpjgpefcphaaGreatDoorYrba
set_option linter.all false
set_option linter.unusedVariables false
set_option linter.unusedSimpArgs false
namespace Go.Proofs.LF
open Go.RowKit Go.Sort
set_option maxHeartbeats 4000000
set_option maxRecDepth 100000
attribute [local go_sem] bs_toList bs_size bs_get
theorem key_cells {p : List Ky} {k : Nat} (h : k < p.length) : (p.flatMap Ky.cells)[k * 3]? = some (.string (bs p[k].n)) ∧ (p.flatMap Ky.cells)[k * 3 + 1]? = some (.bool p[k].h) ∧ (p.flatMap Ky.cells)[k * 3 + 2]? = some (.int .i64 p[k].x) := by
  have e : p.flatMap Ky.cells = (p.take k).flatMap Ky.cells ++ (Ky.cells p[k] ++ (p.drop (k + 1)).flatMap Ky.cells) := by
    conv => lhs; rw [← List.take_append_drop k p, List.drop_eq_getElem_cons h]
    rw [List.flatMap_append, List.flatMap_cons]
  have hl : ((p.take k).flatMap Ky.cells).length = k * 3 := by rw [len_keys, List.length_take]; congr 1; omega
  rw [e]
  refine ⟨?_, ?_, ?_⟩ <;> rw [List.getElem?_append_right (by omega), hl] <;> simp [Ky.cells]
theorem cmpPaths_any (p q : List Ky) (ap aq : Option Addr) (cp cq : Nat) (S : Nat → Prop) (w : World) (hp : Pth S w (.slice ap p.length cp) p) (hq : Pth S w (.slice aq q.length cq) q) (hS : ∀ b, S b → b < w.heap.size) (lp : p.length ≤ 1000) (lq : q.length ≤ 1000) :
    Calls Tryz.prog 191 #[.slice ap p.length cp, .slice aq q.length cq, .func (.func 183) #[] #[]] w fun e w' => e = .returned (.int .i64 (cmpP p q)) ∧ Below w.heap.size w w' := by
  go_enter Tryz.func191, Tryz.ntmps191
  go_wp2_with fail
  go_loopw [13] (fun i wr => ∃ k : Nat, k ≤ p.length ∧ k ≤ q.length ∧ i = .int .i64 k ∧ Hid (cmpP p q = cmpP (p.drop k) (q.drop k)) ∧ Below w.heap.size w wr) (fun i _ => p.length - (intOf i).toNat)
  case atStart => exact ⟨0, by omega, by omega, rfl, by simp [Hid], Below.refl _ _⟩
  case round =>
    obtain ⟨k, hk, hk2, rfl, hN, hB⟩ := hrel
    have hsz := hB.size
    by_cases hA : k < p.length
    · obtain ⟨g, o, rfl, hg, _, _, hcell⟩ := SlC.cells hp (by omega)
      obtain ⟨k0, k1, k2⟩ := key_cells hA
      have ha := Agree.of_below hB hS
      have c0 := ha.cell hg (hcell _ _ k0)
      have c1 := ha.cell hg (hcell _ _ k1)
      have c2 := ha.cell hg (hcell _ _ k2)
      rw [← Nat.add_assoc] at c1 c2
      by_cases hB2 : k < q.length
      · have a2 : ¬ (q.length : Int) ≤ (k : Int) := by omega
        have a3 : (k : Int) < (q.length : Int) := by omega
        obtain ⟨g', o', rfl, hg', _, _, hcell'⟩ := SlC.cells hq (by omega)
        obtain ⟨k0', k1', k2'⟩ := key_cells hB2
        have hbx : Below w.heap.size w (wr.alloc (.cells #[.string (bs p[k].n), .bool p[k].h, .int .i64 p[k].x] 71)) := hB.alloc hsz _
        have hax := Agree.of_below hbx hS
        have d0 := hax.cell hg' (hcell' _ _ k0')
        have d1 := hax.cell hg' (hcell' _ _ k1')
        have d2 := hax.cell hg' (hcell' _ _ k2')
        rw [← Nat.add_assoc] at d1 d2
        have hd : cmpP (p.drop k) (q.drop k) = if byK p[k] q[k] ≠ 0 then byK p[k] q[k] else cmpP (p.drop (k + 1)) (q.drop (k + 1)) := by
          rw [List.drop_eq_getElem_cons hA, List.drop_eq_getElem_cons hB2]; rfl
        have HD := hid hd
        have HBX := hid hbx
        clear hcell k0 k1 k2 hcell' k0' k1' k2' hd hbx hax
        go_wp2_with fail
        refine (byKey_any p[k] q[k] _).mono ?_
        rintro e w2 ⟨rfl, hb2⟩
        have hz2 := HBX.out.size
        have HB2 := hid (HBX.out.trans ((((Below.refl _ _).alloc (Nat.le_refl _) _).trans (hb2.mono (by simp))).mono hz2))
        clear hz2 hb2
        by_cases he : byK p[k] q[k] = 0
        · have he' : (byK p[k] q[k] != 0) = false := by simpa using he
          have HE := hid he
          clear he
          go_wp2_with fail
          go_roundw
          case rel => exact ⟨k + 1, by omega, by omega, by go_num, by rw [Hid, hN.out, HD.out, if_neg (by simpa using HE.out)], HB2.out⟩
          case measure => simp [intOf]; omega
        · have he' : (byK p[k] q[k] != 0) = true := by simpa using he
          have HE := hid he
          clear he
          go_wp2_with fail
          go_ret
          exact ⟨ret_int (by rw [hN.out, HD.out, if_pos (by simpa using HE.out)]), HB2.out⟩
      · have a2 : (q.length : Int) ≤ (k : Int) := by omega
        have hd : cmpP (p.drop k) (q.drop k) = 1 := by
          rw [List.drop_eq_getElem_cons hA, List.drop_eq_nil_of_le (by omega : q.length ≤ k)]; rfl
        clear hcell k0 k1 k2
        go_wp2_with fail
        go_ret
        exact ⟨ret_int (by rw [hN.out, hd]), hB.alloc hsz _⟩
    · have hA' : ¬ (k : Int) < (p.length : Int) := by omega
      obtain rfl : k = p.length := by omega
      by_cases hB2 : p.length < q.length
      · have a2 : (p.length : Int) < (q.length : Int) := by omega
        have hd : cmpP (p.drop p.length) (q.drop p.length) = -1 := by
          rw [List.drop_eq_getElem_cons hB2, List.drop_length]; rfl
        go_wp2_with fail
        go_ret
        exact ⟨ret_int (by rw [hN.out, hd]), hB⟩
      · have a2 : ¬ (p.length : Int) < (q.length : Int) := by omega
        have hd : cmpP (p.drop p.length) (q.drop p.length) = 0 := by
          rw [List.drop_length, List.drop_eq_nil_of_le (by omega)]; rfl
        go_wp2_with fail
        go_ret
        exact ⟨ret_int (by rw [hN.out, hd]), hB⟩
theorem byPath_any (p q : List Ky) (ap aq : Option Addr) (cp cq : Nat) (S : Nat → Prop) (w : World) (hp : Pth S w (.slice ap p.length cp) p) (hq : Pth S w (.slice aq q.length cq) q) (hS : ∀ b, S b → b < w.heap.size) (lp : p.length ≤ 1000) (lq : q.length ≤ 1000) :
    Calls Tryz.prog 103 #[.slice ap p.length cp, .slice aq q.length cq] w fun e w' => e = .returned (.int .i64 (cmpP p q)) ∧ Below w.heap.size w w' := by
  have H := hid (cmpPaths_any p q ap aq cp cq S w hp hq hS lp lq)
  go_enter Tryz.func103, Tryz.ntmps103
  go_wp2_with fail
  refine H.out.mono ?_
  rintro e w1 ⟨rfl, hb1⟩
  go_wp2_with fail
  go_ret
  exact ⟨rfl, hb1⟩
end Go.Proofs.LF
