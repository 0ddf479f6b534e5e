/- Parts of the proof of a law of layer 11 (file): LfRdIn, LfW70, LfW74, LfW52a. The conditions stand in each theorem. -/
import Derived.Below
import Derived.BigQuiet
import Derived.ChangeSame
import Derived.Deep.AppendLies
import Derived.Deep.Cut
import Derived.Deep.CutBlock
import Derived.Deep.CutRange
import Derived.Deep.DeepHandedRow
import Derived.Deep.DeepWitnessRowRef
import Derived.Deep.QuietTactic
import Derived.Deep.RegionHeld3
import Derived.Deep.Slices
import Derived.Laws.ResultCell
import Derived.Lib.LaidIn
import Derived.Lib.LaidTab
import Derived.OpenShut
import Derived.Outline
import Derived.ProofKit
import Derived.Stop.LaidErr
import Derived.Test.YtadkpjgpefcphaaGreatDoorCards
import Derived.Test.YtadkpjgpefcphaaGreatDoorProg
import Derived.Test.YtadkpjgpefcphaaGreatDoorTie
import Derived.WalkKit
import Derived.WalkLawsBesides
import Derived.WalkSpells
import Derived.Test.YtadkpjgpefcphaaGreatDoorGral
import Derived.Test.YtadkpjgpefcphaaGreatDoorGraq
import Derived.Test.YtadkpjgpefcphaaGreatDoorGrbk
import Derived.Test.YtadkpjgpefcphaaGreatDoorGrbn
set_option linter.all false
set_option linter.unusedVariables false
set_option linter.unusedSimpArgs false
namespace Go.Proofs.LF
open Go.RowKit
set_option maxRecDepth 100000
theorem cells22 : Tryz.prog.cellsOf 85 = 3 := by kernel_rfl
theorem cells3 : Tryz.prog.cellsOf 3 = 1 := by kernel_rfl
theorem cells9 : Tryz.prog.cellsOf 9 = 1 := by kernel_rfl
theorem cells66 : Tryz.prog.cellsOf 66 = 1 := by kernel_rfl
theorem cells22' : Tryz.prog.cellsOf 22 = 1 := by kernel_rfl
section
variable {H : Type} {enc : TypeId × Value → H} {W : World}
theorem cell_plain {a : Addr} {v : Value} (h : W.cell? a = some v) : a.spot = none ∧ a.block < W.heap.size := by
  unfold World.cell? at h
  split at h
  · rename_i c t f hb
    split at h
    · cases h
    · rename_i hs
      exact ⟨by simpa using hs, (Array.getElem?_eq_some_iff.1 hb).1⟩
  · cases h
theorem add_plain (a : Addr) (h : a.spot = none) (i : Nat) : a.add i = ⟨a.block, a.off + i, none⟩ := by
  unfold Addr.add
  split
  · rename_i h0
    subst h0
    cases a
    simp only at h
    subst h
    rfl
  · rfl
theorem read_ints {fuel : Nat} {v : Value} {x : DataW H × List MemPlace} (h : DataW.trod enc Tryz.prog W 0 (fun _ => true) true fuel 66 [v] = some x) : ∃ l, Ints (fun b => b < W.heap.size) W v l := by
  rcases Go.ChangeShapes.open_ints Tryz.underlying66 Tryz.underlying3 cells3 h with ⟨hc, _⟩ | ⟨a, len, cap, zs, hc, _, hl, hm, hz, _, hcell, _⟩
  · obtain rfl : v = _ := by simpa using hc
    exact ⟨[], rfl, none, 0, rfl, Nat.le_refl _, by simp [maxLen], fun _ => rfl, .inl rfl⟩
  · obtain rfl : v = _ := by simpa using hc
    simp only [if_true] at hz
    have hlen : (zs.take len).length = len := by rw [List.length_take]; omega
    refine ⟨zs.take len, ?_⟩
    unfold Ints
    rw [hlen]
    refine ⟨by simp; omega, some a, cap, rfl, hl, hm, (fun h => by cases h), ?_⟩
    by_cases h0 : len = 0
    · exact .inl h0
    · have hs := cell_plain (hcell 0 (by omega))
      have h1 := hs.1
      have hadd0 : (a.add 0) = a := rfl
      rw [hadd0] at hs
      refine .inr ⟨a.block, a.off, by cases a; simp only at hs; rw [hs.1], hs.2, fun j u hj => ?_⟩
      simp only [List.getElem?_map, Option.map_eq_some_iff, List.getElem?_take] at hj
      obtain ⟨z, hz', rfl⟩ := hj
      split at hz'
      · have hj' := (List.getElem?_eq_some_iff.1 hz').1
        have := hcell j hj'
        rw [add_plain a hs.1] at this
        rw [this, List.getD_eq_getElem?_getD, hz']; rfl
      · cases hz'
theorem read_nodes : ∀ (fuel : Nat) (v : Value) (x : DataW H × List MemPlace), DataW.trod enc Tryz.prog W 0 (fun _ => true) true fuel 22 [v] = some x → ∃ y, FSl (fun b => b < W.heap.size) W v y := by
  intro fuel
  induction fuel using Nat.strongRecOn with
  | _ fuel ih =>
  intro v x h
  rcases DataW.trod_slice Tryz.underlying22 h with ⟨hc, _⟩ | ⟨a, len, cap, elems, rest, n, hfu, hc, _, hb, hl, hm, hlen, hel, _, _⟩
  · obtain rfl : v = _ := by simpa using hc
    exact ⟨.nil, [], ⟨rfl, none, 0, rfl, Nat.le_refl _, by simp [maxLen], fun _ => rfl, .inl rfl⟩, rfl⟩
  · obtain rfl : v = _ := by simpa using hc
    rw [cells22] at hel
    have each : ∀ i, i < len → ∃ s l y vn vs, W.cell? (a.add (i * 3)) = some (.string s) ∧ W.cell? ((a.add (i * 3)).add 1) = some vn ∧ W.cell? ((a.add (i * 3)).add 2) = some vs ∧ Ints (fun b => b < W.heap.size) W vn l ∧ FSl (fun b => b < W.heap.size) W vs y := by
      intro i hi
      have h1 := hel i hi
      rw [List.getElem?_eq_getElem (by omega)] at h1
      obtain ⟨cs', hcs, hx⟩ := Option.bind_eq_some_iff.1 h1
      obtain ⟨_, hcl, hcc⟩ := World.cells?_some hcs
      obtain ⟨xs, m, hnm, _, _, hxl, hfs⟩ := DataW.trod_struct Tryz.underlying85 hx
      match cs', hcl with
      | [c0, c1, c2], _ =>
        have f0 := hfs 0 _ rfl
        have f1 := hfs 1 _ rfl
        have f2 := hfs 2 _ rfl
        change DataW.trod enc Tryz.prog W 0 (fun _ => true) true m 9 (([c0, c1, c2].drop 0).take (Tryz.prog.cellsOf 9)) = xs[0]? at f0
        change DataW.trod enc Tryz.prog W 0 (fun _ => true) true m 66 (([c0, c1, c2].drop 1).take (Tryz.prog.cellsOf 66)) = xs[1]? at f1
        change DataW.trod enc Tryz.prog W 0 (fun _ => true) true m 22 (([c0, c1, c2].drop 2).take (Tryz.prog.cellsOf 22)) = xs[2]? at f2
        rw [cells9] at f0
        rw [cells66] at f1
        rw [cells22'] at f2
        have g0 : DataW.trod enc Tryz.prog W 0 (fun _ => true) true m 9 [c0] = xs[0]? := f0
        have g1 : DataW.trod enc Tryz.prog W 0 (fun _ => true) true m 66 [c1] = xs[1]? := f1
        have g2 : DataW.trod enc Tryz.prog W 0 (fun _ => true) true m 22 [c2] = xs[2]? := f2
        have hx3 : xs.length = 3 := hxl
        rw [List.getElem?_eq_getElem (by omega)] at g0 g1 g2
        obtain ⟨s, hs, _⟩ := DataW.trod_string Tryz.underlying9 g0
        obtain rfl : c0 = .string s := by simpa using hs
        obtain ⟨l, hI⟩ := read_ints g1
        obtain ⟨y, hF⟩ := ih m (by omega) c2 _ g2
        have e0 := hcc 0 (by omega)
        have e1 := hcc 1 (by omega)
        have e2 := hcc 2 (by omega)
        exact ⟨s, l, y, c1, c2, e0, e1, e2, hI, hF⟩
    have all : ∀ k, k ≤ len → ∃ y ds, y.len = k ∧ ds.length = k * 3 ∧ FCs (fun b => b < W.heap.size) W y ds ∧ ∀ j u, ds[j]? = some u → W.cell? ⟨a.block, a.off + j, none⟩ = some u := by
      intro k
      induction k with
      | zero => intro _; exact ⟨.nil, [], rfl, rfl, rfl, fun j u hj => by simp at hj⟩
      | succ k ihk =>
        intro hk
        obtain ⟨y, ds, h1, h2, h3, h4⟩ := ihk (by omega)
        obtain ⟨s, l, z, vn, vs, c0, c1, c2, hI, hF⟩ := each k (by omega)
        have hsp : a.spot = none := by
          obtain ⟨s0, _, _, _, _, d0, _⟩ := each 0 (by omega)
          exact (cell_plain d0).1
        rw [add_plain a hsp, add_plain _ rfl] at c1 c2
        rw [add_plain a hsp] at c0
        obtain ⟨an, cn, rfl, _⟩ := SlC.shape hI
        obtain ⟨ab, cb, rfl, _, _, _⟩ := hF.at
        refine ⟨y.app (.cons s.data.toList l z .nil), ds ++ [.string (bs s.data.toList), .slice an l.length cn, .slice ab z.len cb], by rw [Fo.len_app, h1]; rfl, by simp [h2]; omega, h3.app (FCs.one hI hF), fun j u hj => ?_⟩
        by_cases hjl : j < ds.length
        · rw [List.getElem?_append_left hjl] at hj
          exact h4 j u hj
        · rw [List.getElem?_append_right (by omega)] at hj
          rw [bs_of] at hj
          have hj3 : j - ds.length < 3 := by have := (List.getElem?_eq_some_iff.1 hj).1; simpa using this
          obtain h | h | h : j = k * 3 ∨ j = k * 3 + 1 ∨ j = k * 3 + 2 := by omega
          · subst h
            rw [show k * 3 - ds.length = 0 by omega] at hj
            simp only [List.getElem?_cons_zero, Option.some.injEq] at hj
            rw [← hj]; exact c0
          · subst h
            rw [show k * 3 + 1 - ds.length = 1 by omega] at hj
            simp only [List.getElem?_cons_succ, List.getElem?_cons_zero, Option.some.injEq] at hj
            rw [← hj, ← Nat.add_assoc]; exact c1
          · subst h
            rw [show k * 3 + 2 - ds.length = 2 by omega] at hj
            simp only [List.getElem?_cons_succ, List.getElem?_cons_zero, Option.some.injEq] at hj
            rw [← hj, ← Nat.add_assoc]; exact c2
    obtain ⟨y, ds, h1, h2, h3, h4⟩ := all len (Nat.le_refl _)
    refine ⟨y, ds, ?_, h3⟩
    rw [h1]
    refine ⟨h2, some a, cap, rfl, hl, hm, (fun h => by cases h), ?_⟩
    by_cases h0 : len = 0
    · exact .inl h0
    · obtain ⟨s0, _, _, _, _, d0, _⟩ := each 0 (by omega)
      have hs := cell_plain d0
      exact .inr ⟨a.block, a.off, by cases a; have := hs.1; simp only [Addr.add] at this; simp at this; rw [this], hs.2, h4⟩
end
end Go.Proofs.LF
namespace Go.Proofs.LF
open Go.RowKit Go.Sort
set_option maxHeartbeats 4000000
set_option maxRecDepth 100000
attribute [local go_sem] bs_toList bs_size bs_get
def Byt (S : Nat → Prop) (w : World) (v : Value) (l : List Int) : Prop := SlC S w 1 v l.length (l.map (Value.int .u8))
def HpC (b : Nat) (a : Option Addr) (l : List Int) (c : Nat) (nx rd : Int) (w : World) : Prop := w.heap[b]? = some (.cells #[.slice a l.length c, .int .i64 nx, .int .u32 rd] 203 (0, 0))
def Hp (b : Nat) (S : Nat → Prop) (w : World) : Prop := ∃ (a : Option Addr) (l : List Int) (c : Nat) (nx rd : Int), HpC b a l c nx rd w ∧ 0 ≤ nx ∧ (nx = 0 ∨ nx < l.length) ∧ Byt S w (.slice a l.length c) l ∧ ∀ q, S q → q ≠ b
theorem and_low (X : Int) : 0 ≤ bits .and .u32 X 32767 ∧ bits .and .u32 X 32767 ≤ 32767 := by
  have h : (BitVec.ofInt 32 X &&& BitVec.ofInt 32 32767).toNat ≤ 32767 := by
    rw [BitVec.toNat_and]
    exact Nat.le_trans Nat.and_le_right (by decide)
  have h2 : bits .and .u32 X 32767 = IntKind.u32.wrap (((BitVec.ofInt 32 X &&& BitVec.ofInt 32 32767).toNat : Nat) : Int) := rfl
  rw [h2]
  generalize (BitVec.ofInt 32 X &&& BitVec.ofInt 32 32767).toNat = N at h
  have h3 : IntKind.u32.wrap (N : Int) = N := by
    unfold IntKind.wrap
    have : (N : Int) % 2 ^ IntKind.u32.bits = N := Int.emod_eq_of_lt (by omega) (by show (N : Int) < 2 ^ 32; omega)
    simp only [this]
    rfl
  rw [h3]; omega
theorem low_wrap {X : Int} : 0 ≤ wrap64 (bits .and .u32 X 32767) ∧ wrap64 (bits .and .u32 X 32767) ≤ 32767 := by
  have := and_low X
  unfold wrap64; omega
theorem HpC.keep {b : Nat} {S : Nat → Prop} {a : Option Addr} {l : List Int} {c : Nat} {nx' rd' : Int} {w w' : World} (hS : ∀ q, S q → q ≠ b) (hl : Byt S w (.slice a l.length c) l) (h0 : 0 ≤ nx') (h1 : nx' = 0 ∨ nx' < l.length)
    (hb : HpC b a l c nx' rd' w') (ho : w'.os = w.os) (ht : w'.tape = w.tape) (hu : w'.output = w.output) (hz : w'.heap.size = w.heap.size) (hh : ∀ q, q ≠ b → w'.heap[q]? = w.heap[q]?) : Hp b S w' ∧ Keep (· = b) w w' :=
  ⟨⟨a, l, c, nx', rd', hb, h0, h1, SlC.agree hl fun q hq => hh q (hS q hq), hS⟩, ⟨ho, ht, hu, by omega, fun q _ hq => hh q hq⟩⟩
theorem pick_any (b : Nat) (S : Nat → Prop) (w : World) (h : Hp b S w) : Calls Tryz.prog 239 #[.pointer (some ⟨b, 0, none⟩)] w fun e w' => ∃ r : Int, e = .returned (.int .i64 r) ∧ 0 ≤ r ∧ r ≤ 32767 ∧ Hp b S w' ∧ Keep (· = b) w w' := by
  obtain ⟨a, l, c, nx, rd, hb, h0, h1, hl, hS⟩ := h
  have k0 := cells_get hb (k := 0) rfl
  have k1 := cells_get hb (k := 1) rfl
  have k2 := cells_get hb (k := 2) rfl
  have f1 := cells_frz hb (k := 1)
  have f2 := cells_frz hb (k := 2)
  obtain ⟨hc1, hc2, _⟩ := SlC.caps hl
  by_cases hlt : nx < l.length
  · obtain ⟨g, o, rfl, hg, _, _, hcell⟩ := SlC.cells hl (by omega)
    obtain ⟨n, rfl⟩ : ∃ n : Nat, nx = n := ⟨nx.toNat, by omega⟩
    have hn : n < l.length := by omega
    have e0 := hcell n (.int .u8 l[n]) (by simp [hn])
    clear hcell
    have i1 : (0 : Int) ≤ (n : Int) := by omega
    go_enter Tryz.func239, Tryz.ntmps239
    go_wp2_with fail
    go_quiet (fail)
    go_wp2_with fail
    go_quiet (fail)
    go_wp2_with fail
    by_cases hge : (n : Int) + 1 < (l.length : Int)
    · go_quiet (fail)
      go_wp2_with fail
      go_ret
      refine ⟨_, rfl, low_wrap.1, low_wrap.2, HpC.keep hS hl (nx' := (n : Int) + 1) (rd' := rd) (by omega) (.inr hge) ?_ rfl rfl rfl (by simp [World.setCell]) (fun q hq => Below.heap_setCell _ _ _ _ hq)⟩
      have hb' := hb
      unfold HpC at hb' ⊢
      simp [World.setCell, World.drewN, Array.getElem?_modify, hb']
    · have hge' : (n : Int) + 1 ≥ (l.length : Int) := by omega
      go_quiet (fail)
      go_wp2_with fail
      go_ret
      refine ⟨_, rfl, low_wrap.1, low_wrap.2, HpC.keep hS hl (nx' := 0) (rd' := (rd + 1) % 4294967296) (by omega) (.inl rfl) ?_ rfl rfl rfl (by simp [World.setCell]) (fun q hq => (Below.heap_setCell _ _ _ _ hq).trans ((Below.heap_setCell _ _ _ _ hq).trans (Below.heap_setCell _ _ _ _ hq)))⟩
      have hb' := hb
      unfold HpC at hb' ⊢
      simp [World.setCell, World.drewN, Array.getElem?_modify, hb']
  · obtain rfl : nx = 0 := by omega
    have hl0 : l.length = 0 := by omega
    obtain rfl : l = [] := List.eq_nil_of_length_eq_zero hl0
    go_enter Tryz.func239, Tryz.ntmps239
    go_wp2_with fail
    go_quiet (fail)
    go_wp2_with fail
    go_quiet (fail)
    go_wp2_with fail
    go_ret
    refine ⟨_, rfl, low_wrap.1, low_wrap.2, HpC.keep hS hl (nx' := 0) (rd' := (rd + 1) % 4294967296) (by omega) (.inl rfl) ?_ rfl rfl rfl (by simp [World.setCell]) (fun q hq => (Below.heap_setCell _ _ _ _ hq).trans ((Below.heap_setCell _ _ _ _ hq).trans (Below.heap_setCell _ _ _ _ hq)))⟩
    have hb' := hb
    unfold HpC at hb' ⊢
    simp [World.setCell, World.drewN, Array.getElem?_modify, hb']
theorem Upto_any (b : Nat) (S : Nat → Prop) (w : World) (n : Nat) (hn : n ≤ 1000) (h : Hp b S w) : Calls Tryz.prog 200 #[.pointer (some ⟨b, 0, none⟩), .int .i64 n] w fun e w' => ∃ r : Nat, e = .returned (.int .i64 r) ∧ r ≤ n ∧ Hp b S w' ∧ Keep (· = b) w w' := by
  have PK := hid (pick_any b S w h)
  clear h
  have w1 : IntKind.i64.wrap ((n : Int) + 1) = (n : Int) + 1 := IntWalk.i64_in _ (by omega)
  go_enter Tryz.func200, Tryz.ntmps200
  go_wp2_with fail
  refine PK.out.mono ?_
  rintro e w1 ⟨r, rfl, h0, h1, h2, h3⟩
  have h2 := hid h2
  have h3 := hid h3
  obtain ⟨r, rfl⟩ : ∃ q : Nat, r = q := ⟨r.toNat, by omega⟩
  go_wp2_with fail
  go_ret
  have hm : max 1 ((n : Int) + 1) = ((n + 1 : Nat) : Int) := by omega
  refine ⟨r % (n + 1), ret_int (by rw [hm]; omega), by have := Nat.mod_lt r (show 0 < n + 1 by omega); omega, h2.out, h3.out⟩
theorem Once_any (b : Nat) (S : Nat → Prop) (w : World) (n : Nat) (hn : n ≤ 1000) (h : Hp b S w) : Calls Tryz.prog 201 #[.pointer (some ⟨b, 0, none⟩), .int .i64 ((n + 1 : Nat) : Int)] w fun e w' => ∃ q : Bool, e = .returned (.bool q) ∧ Hp b S w' ∧ Keep (· = b) w w' := by
  have UP := hid (Upto_any b S w n hn h)
  clear h
  have w1 : IntKind.i64.wrap (((n + 1 : Nat) : Int) - 1) = (n : Int) := by rw [show ((n + 1 : Nat) : Int) - 1 = n by omega]; exact IntWalk.i64_in _ (by omega)
  obtain ⟨N, hN⟩ : ∃ N : Int, ((n + 1 : Nat) : Int) = N := ⟨_, rfl⟩
  rw [hN] at w1 ⊢
  clear hN
  go_enter Tryz.func201, Tryz.ntmps201
  go_wp2_with fail
  refine UP.out.mono ?_
  rintro e w1 ⟨r, rfl, h0, h2, h3⟩
  have h2 := hid h2
  have h3 := hid h3
  go_wp2_with fail
  go_ret
  exact ⟨_, rfl, h2.out, h3.out⟩
theorem Pile_any (a : Option Addr) (l : List Int) (c : Nat) (S : Nat → Prop) (w : World) (hl : Byt S w (.slice a l.length c) l) (hS : ∀ q, S q → q < w.heap.size) :
    Calls Tryz.prog 38 #[.slice a l.length c] w fun e w' => e = .returned (.pointer (some ⟨w.heap.size, 0, none⟩)) ∧ Hp w.heap.size S w' ∧ w'.heap.size = w.heap.size + 1 ∧ Below w.heap.size w w' := by
  have hb := heap_alloc_new w (.cells #[.slice a l.length c, .int .i64 0, .int .u32 0] 203)
  have hB : Below w.heap.size w (w.alloc (.cells #[.slice a l.length c, .int .i64 0, .int .u32 0] 203)) := (Below.refl _ _).alloc (Nat.le_refl _) _
  have hH : Hp w.heap.size S (w.alloc (.cells #[.slice a l.length c, .int .i64 0, .int .u32 0] 203)) := ⟨a, l, c, 0, 0, hb, by omega, .inl rfl, SlC.agree hl (Agree.of_below hB hS), fun q hq e => by have := hS q hq; omega⟩
  have HH := hid hH
  have HB := hid hB
  clear hb hB hH hl hS
  go_enter Tryz.func38, Tryz.ntmps38
  go_wp2_with fail
  go_ret
  exact ⟨rfl, HH.out, by simp, HB.out⟩
end Go.Proofs.LF
namespace Go.Proofs.LF
open Go.RowKit Go.Sort
set_option maxHeartbeats 4000000
set_option maxRecDepth 100000
attribute [local go_sem] bs_toList bs_size bs_get
theorem okF_cntG : ∀ (y : Fo) (d : Nat) (n : Int), OkF d y → 0 ≤ n → n + y.cnt ≤ 80 → cntG (d : Int) n y = n + y.cnt
  | .nil, _, _, _, _, _ => by simp [cntG, Fo.cnt]
  | .cons nm l s r, d, n, ⟨h1, h2, h3, _, h5, _, h7⟩, h0, h => by
    simp only [Fo.cnt] at h ⊢
    have hn := (nmz_ok nm h2).2
    have e1 : cntG ((d : Int) + 1) 0 s = s.cnt := by
      have := okF_cntG s (d + 1) 0 h5 (by omega) (by omega)
      rw [show ((d + 1 : Nat) : Int) = (d : Int) + 1 by omega] at this
      omega
    rw [cntG, if_neg (by omega), e1, okF_cntG r d _ h7 (by omega) (by omega)]
    omega
theorem okF_many {y : Fo} (h : OkF 0 y) : decide (60 < cntG 0 0 y) = decide (60 < y.cnt) := by
  by_cases hc : y.cnt ≤ 80
  · have := okF_cntG y 0 0 h (by omega) (by omega)
    rw [show ((0 : Nat) : Int) = 0 from rfl] at this
    rw [this]; congr 1; apply propext; omega
  · rw [decide_eq_true (show 60 < y.cnt by omega)]
    apply decide_eq_true
    rcases Int.lt_or_le 80 (cntG 0 0 y) with h1 | h1
    · omega
    · have := (cntG_small y 0 0 (by omega) h1).1
      omega
theorem fewY_any (y : Fo) (a : Option Addr) (c : Nat) (S : Nat → Prop) (w : World) (hok : OkF 0 y) (hc : y.cnt ≤ 800) (hy : FSl S w (.slice a y.len c) y) (hS : ∀ q, S q → q < w.heap.size) :
    Calls Tryz.prog 40 #[.slice a y.len c] w fun e w' => e = .returned (.bool (decide (60 < y.cnt))) ∧ Below w.heap.size w w' := by
  have CN := hid (count_any (y.cnt + 1) y 0 a c S w (Nat.lt_succ_self _) (by omega) (by omega) hy hS)
  have hln := len_cnt y
  have hsm := okF_sm y 0 hok (by omega)
  have CK : ∀ w1, Below w.heap.size w w1 → Calls Tryz.prog 23 #[.slice a y.len c] w1 fun e w' => e = .returned (.int .i64 (chkY y)) ∧ Below w1.heap.size w1 w' := fun w1 h => Check_any y a c S w1 (hy.agree (Agree.of_below h hS)) (fun q hq => by have := hS q hq; have := h.size; omega) (by omega) hsm (by omega)
  have hch := okF_chk hok
  have hmy := okF_many hok
  obtain ⟨N, hN⟩ : ∃ N, cntG 0 0 y = N := ⟨_, rfl⟩
  rw [hN] at CN hmy
  by_cases h60 : 60 < y.cnt
  · rw [if_neg (by omega)] at hch
    rw [decide_eq_true h60] at hmy ⊢
    have hN60 : (60 : Int) < N := by simpa using hmy
    rw [hch] at CK
    have CK := hid CK
    clear hy hS hok hsm hch hmy hN h60
    go_enter Tryz.func40, Tryz.ntmps40
    go_wp2_with fail
    refine CN.out.mono ?_
    rintro e w1 ⟨rfl, hb1⟩
    have HB := hid hb1
    have CK1 := hid (CK.out w1 hb1)
    clear hb1
    go_wp2_with fail
    refine CK1.out.mono ?_
    rintro e w2 ⟨rfl, hb2⟩
    go_wp2_with fail
    go_ret
    exact ⟨rfl, HB.out.trans (hb2.mono HB.out.size)⟩
  · rw [decide_eq_false h60] at hmy ⊢
    have hN60 : ¬ (60 : Int) < N := by simpa using hmy
    clear hy hS hok hsm hch hmy hN h60 CK
    go_enter Tryz.func40, Tryz.ntmps40
    go_wp2_with fail
    refine CN.out.mono ?_
    rintro e w1 ⟨rfl, hb1⟩
    go_wp2_with fail
    go_ret
    exact ⟨rfl, hb1⟩
end Go.Proofs.LF
namespace Go.Proofs.LF
open Go.RowKit Go.Sort
set_option maxHeartbeats 4000000
set_option maxRecDepth 100000
attribute [local go_sem] bs_toList bs_size bs_get
theorem Same_any (p q : List Ky) (ap aq : Option Addr) (cp cq : Nat) (S : Nat → Prop) (w : World) (hp : Pth S w (.slice ap p.length cp) p) (hq : Pth S w (.slice aq q.length cq) q) (lp : p.length ≤ 100000) (lq : q.length ≤ 100000) :
    Calls Tryz.prog 73 #[.slice ap p.length cp, .slice aq q.length cq] w fun e w' => e = .returned (.bool (decide (p = q))) ∧ Below w.heap.size w w' := by
  by_cases hne : p.length = q.length
  · have hne' : ((p.length : Int) != (q.length : Int)) = false := by simp; omega
    have HN := hid hne
    clear hne
    go_enter Tryz.func73, Tryz.ntmps73
    go_wp2_with fail
    go_loopw [5] (fun i wr => ∃ (k d : Nat), k ≤ p.length ∧ i = .int .i64 k ∧ wr = w.drewN d ∧ Hid (p.take k = q.take k)) (fun i _ => p.length - (intOf i).toNat)
    case atStart => exact ⟨0, 0, by omega, rfl, rfl, by simp [Hid]⟩
    case round =>
      obtain ⟨k, d, hk, rfl, rfl, H2⟩ := hrel
      by_cases hlt : k < p.length
      · obtain ⟨g, o, rfl, _, _, _, hcell⟩ := SlC.cells hp (by omega)
        obtain ⟨g', o', rfl, _, _, _, hcell'⟩ := SlC.cells hq (by have := HN.out; omega)
        have hlt' : k < q.length := by have := HN.out; omega
        obtain ⟨k0, k1, k2⟩ := key_cells hlt
        obtain ⟨k0', k1', k2'⟩ := key_cells hlt'
        have c0 := hcell _ _ k0
        have c1 := hcell _ _ k1
        have c2 := hcell _ _ k2
        have d0 := hcell' _ _ k0'
        have d1 := hcell' _ _ k1'
        have d2 := hcell' _ _ k2'
        rw [← Nat.add_assoc] at c1 c2 d1 d2
        have htp : p.take (k + 1) = p.take k ++ [p[k]] := List.take_succ_eq_append_getElem hlt
        have htq : q.take (k + 1) = q.take k ++ [q[k]] := List.take_succ_eq_append_getElem hlt'
        obtain ⟨a, ha⟩ : ∃ a, p[k] = a := ⟨_, rfl⟩
        obtain ⟨b, hb⟩ : ∃ b, q[k] = b := ⟨_, rfl⟩
        have HA := hid ha
        have HB := hid hb
        rw [ha] at c0 c1 c2 htp
        rw [hb] at d0 d1 d2 htq
        have HTP := hid htp
        have HTQ := hid htq
        clear hcell hcell' k0 k1 k2 k0' k1' k2' htp htq ha hb
        have i1 : (0 : Int) ≤ (k : Int) := by omega
        have i2 : (k : Int) < (p.length : Int) := by omega
        have i3 : (k : Int) < (q.length : Int) := by omega
        by_cases he : a = b
        · subst he
          go_wp2_with fail
          go_quiet (fail)
          go_wp2_with fail
          go_roundw
          case rel => exact ⟨k + 1, _, by omega, by go_num, rfl, by rw [Hid, HTP.out, HTQ.out, H2.out]⟩
          case measure => simp [intOf]; omega
        · have hdec : (a.n == b.n && (a.h == b.h && a.x == b.x)) = false := by rw [← ky_beq]; simp [he]
          have HE := hid he
          have HDEC := hid hdec
          clear he hdec
          cases hn : (a.n == b.n) <;> cases hh : (a.h == b.h) <;> cases hx : (a.x == b.x)
          all_goals first
            | (exfalso; have := HDEC.out; rw [hn, hh, hx] at this; cases this; done)
            | (go_wp2_with fail
               go_quiet (fail)
               go_wp2_with fail
               go_ret
               refine ⟨ret_bool ?_, below_drewN (below_drewN (Below.refl _ _) _) _⟩
               symm
               rw [decide_eq_false_iff_not]
               rintro rfl
               exact HE.out (HA.out.symm.trans HB.out))
      · go_wp2_with fail
        go_ret
        obtain rfl : k = p.length := by omega
        refine ⟨ret_bool ?_, below_drewN (Below.refl _ _) _⟩
        symm
        have := H2.out
        rw [List.take_length, HN.out, List.take_length] at this
        exact decide_eq_true this
  · have hne' : ((p.length : Int) != (q.length : Int)) = true := by simp; omega
    have HN := hid hne
    clear hne
    go_enter Tryz.func73, Tryz.ntmps73
    go_wp2_with fail
    go_ret
    refine ⟨ret_bool ?_, Below.refl _ _⟩
    symm
    rw [decide_eq_false_iff_not]
    rintro rfl
    exact HN.out rfl
end Go.Proofs.LF
