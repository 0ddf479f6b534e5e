/- Parts of the proof of a law of layer 11 (file): LfW48. The conditions stand in each theorem. -/
import Derived.BigQuiet
import Derived.Deep.AppendLies
import Derived.Deep.Cut
import Derived.Deep.CutBlock
import Derived.Deep.CutRange
import Derived.Deep.QuietTactic
import Derived.Deep.RegionHeld3
import Derived.Laws.ResultCell
import Derived.Outline
import Derived.Test.YtadkpjgpefcphaaGreatDoorProg
import Derived.WalkKit
import Derived.WalkLawsBesides
import Derived.WalkSpells
import Derived.Test.YtadkpjgpefcphaaGreatDoorJnbd
import Derived.Test.YtadkpjgpefcphaaGreatDoorJnbj
set_option linter.all false
set_option linter.unusedVariables false
set_option linter.unusedSimpArgs false
namespace Go.Proofs.LF
open Go.RowKit Go.Sort
set_option maxHeartbeats 4000000
set_option maxRecDepth 100000
attribute [local go_sem] bs_toList bs_size bs_get
def bedN : List UInt8 := [98, 101, 100]
def rakedN : List UInt8 := [114, 97, 107, 101, 100]
def soldN : List UInt8 := [115, 111, 108, 100]
def oneY (n : Int) : Fo := .cons bedN [3] (.cons rakedN [5, n] .nil .nil) (.cons soldN [] .nil .nil)
theorem FCs.alloc {S : Nat → Prop} {w : World} {y : Fo} {cs : List Value} (h : FCs S w y cs) (hS : ∀ b, S b → b < w.heap.size) (o : Obj) : FCs S (w.alloc o) y cs := h.agree (fun b hb => heap_alloc_old _ _ (hS b hb))
theorem slc_block {S : Nat → Prop} {w : World} {b k n : Nat} {vs : Array Value} {t : TypeId} {fr : Nat × Nat} (hb : w.heap[b]? = some (.cells vs t fr)) (hS : S b) (hl : vs.size = n * k) (hn : n ≤ maxLen) : SlC S w k (.slice (some ⟨b, 0, none⟩) n n) n vs.toList := by
  refine ⟨by simpa using hl, _, n, rfl, Nat.le_refl _, hn, (fun h => by cases h), .inr ⟨b, 0, rfl, hS, fun j u hj => ?_⟩⟩
  simp only [World.cell?, hb, Nat.zero_add]
  simpa using hj
theorem One_any (n : Int) (w : World) :
    Calls Tryz.prog 80 #[.int .i64 n] w fun e w' => ∃ g, e = .returned (.slice (some ⟨g, 0, none⟩) 2 2) ∧ FSl (Rg w.heap.size w'.heap.size) w' (.slice (some ⟨g, 0, none⟩) 2 2) (oneY n) ∧ Below w.heap.size w w' := by
  go_enter Tryz.func80, Tryz.ntmps80
  go_wp2_with fail
  refine bodyPost_ret (v := .slice (some ⟨w.heap.size + 1 + 1 + 1, 0, none⟩) 2 2) (by simp [results, Tryz.results80, go_sem]) rfl ?_
  refine ⟨w.heap.size + 1 + 1 + 1, rfl, ?_, ?_⟩
  · have key : ∀ (N : Nat) (W : World) (A B C D : Obj), A = .cells #[.int .i64 3] 3 → B = .cells #[.int .i64 5, .int .i64 n] 3 → C = .cells #[.string ⟨#[114, 97, 107, 101, 100]⟩, .slice (some ⟨N + 1, 0, none⟩) 2 2, .slice none 0 0] 85 →
        D = .cells #[.string ⟨#[98, 101, 100]⟩, .slice (some ⟨N, 0, none⟩) 1 1, .slice (some ⟨N + 1 + 1, 0, none⟩) 1 1, .string ⟨#[115, 111, 108, 100]⟩, .slice none 0 0, .slice none 0 0] 85 → N = w.heap.size → W = (((w.alloc A).alloc B).alloc C).alloc D → FSl (Rg w.heap.size W.heap.size) W (.slice (some ⟨N + 1 + 1 + 1, 0, none⟩) 2 2) (oneY n) := by
      rintro N W A B C D hA hB hC hD hN hW
      have hz : W.heap.size = N + 4 := by rw [hW, hN]; simp
      have a0 : W.heap[N]? = some A := by
        rw [hW, hN]
        exact (heap_alloc_old _ _ (by simp; omega)).trans ((heap_alloc_old _ _ (by simp; omega)).trans ((heap_alloc_old _ _ (by simp)).trans (heap_alloc_new w A)))
      have a1 : W.heap[N + 1]? = some B := by
        have h := heap_alloc_new (w.alloc A) B
        simp only [World.size_alloc] at h
        rw [hW, hN]
        exact (heap_alloc_old _ _ (by simp)).trans ((heap_alloc_old _ _ (by simp)).trans h)
      have a2 : W.heap[N + 1 + 1]? = some C := by
        have h := heap_alloc_new ((w.alloc A).alloc B) C
        simp only [World.size_alloc] at h
        rw [hW, hN]
        exact (heap_alloc_old _ _ (by simp)).trans h
      have a3 : W.heap[N + 1 + 1 + 1]? = some D := by
        have h := heap_alloc_new (((w.alloc A).alloc B).alloc C) D
        simp only [World.size_alloc] at h
        rw [hW, hN]
        exact h
      have hS : ∀ k, k < 4 → Rg w.heap.size W.heap.size (N + k) := fun k hk => ⟨by omega, by omega⟩
      rw [hA] at a0
      rw [hB] at a1
      rw [hC] at a2
      rw [hD] at a3
      have i0 : Ints (Rg w.heap.size W.heap.size) W (.slice (some ⟨N, 0, none⟩) 1 1) [3] := slc_block (vs := #[.int .i64 3]) a0 (hS 0 (by omega)) rfl (by simp [maxLen])
      have i1 : Ints (Rg w.heap.size W.heap.size) W (.slice (some ⟨N + 1, 0, none⟩) 2 2) [5, n] := slc_block (vs := #[.int .i64 5, .int .i64 n]) a1 (hS 1 (by omega)) rfl (by simp [maxLen])
      have nilI : ∀ S, Ints S W (.slice none 0 0) [] := fun S => ⟨rfl, none, 0, rfl, Nat.le_refl _, by simp [maxLen], fun _ => rfl, .inl rfl⟩
      have nilF : ∀ S, ∃ ds, SlC S W 3 (.slice none 0 0) Fo.nil.len ds ∧ FCs S W .nil ds := fun S => ⟨[], ⟨rfl, none, 0, rfl, Nat.le_refl _, by simp [maxLen], fun _ => rfl, .inl rfl⟩, rfl⟩
      have s2 := slc_block (k := 3) (n := 1) (S := Rg w.heap.size W.heap.size) a2 (hS 2 (by omega)) rfl (by simp [maxLen])
      have s3 := slc_block (k := 3) (n := 2) (S := Rg w.heap.size W.heap.size) a3 (hS 3 (by omega)) rfl (by simp [maxLen])
      exact ⟨_, s3, _, _, _, rfl, i0, ⟨_, s2, _, _, _, rfl, i1, nilF _, rfl⟩, _, _, _, rfl, nilI _, nilF _, rfl⟩
    exact key w.heap.size _ _ _ _ _ rfl rfl rfl rfl rfl rfl
  · exact ((((Below.refl _ _).alloc (Nat.le_refl _) _).alloc (by simp) _).alloc (by simp; omega) _).alloc (by simp; omega) _
theorem K_any (s : ByteArray) (x : Int) (g c : Nat) (w : World) (hx : w.cell? ⟨g, 0, none⟩ = some (.int .i64 x)) (hg : g < w.heap.size) (hc : 1 ≤ c) :
    Calls Tryz.prog 51 #[.string s, .slice (some ⟨g, 0, none⟩) 1 c] w fun e w' => e = .returned (.agg #[.string s, .bool true, .int .i64 x]) ∧ Below w.heap.size w w' := by
  have hx' : (w.alloc (.cells #[.string ByteArray.empty, .bool false, .int .i64 0] 71)).cell? ⟨g, 0, none⟩ = some (.int .i64 x) := below_cell ((Below.refl w.heap.size _).alloc (Nat.le_refl _) _) hg hx
  go_enter Tryz.func51, Tryz.ntmps51
  go_wp2_with fail
  exact bodyPost_ret (v := .agg #[.string s, .bool true, .int .i64 x]) (by simp [results, Tryz.results51, go_sem]) rfl ⟨rfl, ((Below.refl _ _).alloc (Nat.le_refl _) _)⟩
theorem ky_beq (a b : Ky) : decide (a = b) = (a.n == b.n && (a.h == b.h && a.x == b.x)) := by
  obtain ⟨an, ah, ax⟩ := a
  obtain ⟨bn, bh, bx⟩ := b
  by_cases h1 : an = bn <;> by_cases h2 : ah = bh <;> by_cases h3 : ax = bx <;> simp [h1, h2, h3]
theorem eqKeys_any (p q : List Ky) (ap aq : Option Addr) (cp cq : Nat) (S : Nat → Prop) (w : World) (hp : Pth S w (.slice ap p.length cp) p) (hq : Pth S w (.slice aq q.length cq) q) (lp : p.length ≤ 100000) (lq : q.length ≤ 100000) :
    Calls Tryz.prog 42 #[.slice ap p.length cp, .slice aq q.length cq] w fun e w' => e = .returned (.bool (decide (p = q))) ∧ Below w.heap.size w w' := by
  by_cases hne : p.length = q.length
  · have hne' : ((p.length : Int) != (q.length : Int)) = false := by simp; omega
    have HN := hid hne
    clear hne
    go_enter Tryz.func42, Tryz.ntmps42
    go_wp2_with fail
    go_loopw [13] (fun i wr => ∃ (k d : Nat), k ≤ p.length ∧ i = .int .i64 k ∧ wr = w.drewN d ∧ Hid (p.take k = q.take k)) (fun i _ => p.length - (intOf i).toNat)
    case atStart => exact ⟨0, 0, by omega, rfl, rfl, by simp [Hid]⟩
    case round =>
      obtain ⟨k, d, hk, rfl, rfl, H2⟩ := hrel
      by_cases hlt : k < p.length
      · obtain ⟨g, o, rfl, _, _, _, hcell⟩ := SlC.cells hp (by omega)
        obtain ⟨g', o', rfl, _, _, _, hcell'⟩ := SlC.cells hq (by have := HN.out; omega)
        have hlt' : k < q.length := by have := HN.out; omega
        obtain ⟨k0, k1, k2⟩ := key_cells hlt
        obtain ⟨k0', k1', k2'⟩ := key_cells hlt'
        have c0 := hcell _ _ k0
        have c1 := hcell _ _ k1
        have c2 := hcell _ _ k2
        have d0 := hcell' _ _ k0'
        have d1 := hcell' _ _ k1'
        have d2 := hcell' _ _ k2'
        rw [← Nat.add_assoc] at c1 c2 d1 d2
        have htp : p.take (k + 1) = p.take k ++ [p[k]] := List.take_succ_eq_append_getElem hlt
        have htq : q.take (k + 1) = q.take k ++ [q[k]] := List.take_succ_eq_append_getElem hlt'
        obtain ⟨a, ha⟩ : ∃ a, p[k] = a := ⟨_, rfl⟩
        obtain ⟨b, hb⟩ : ∃ b, q[k] = b := ⟨_, rfl⟩
        have HA := hid ha
        have HB := hid hb
        rw [ha] at c0 c1 c2 htp
        rw [hb] at d0 d1 d2 htq
        have HTP := hid htp
        have HTQ := hid htq
        clear hcell hcell' k0 k1 k2 k0' k1' k2' htp htq ha hb
        have i1 : (0 : Int) ≤ (k : Int) := by omega
        have i2 : (k : Int) < (p.length : Int) := by omega
        have i3 : (k : Int) < (q.length : Int) := by omega
        by_cases he : a = b
        · subst he
          go_wp2_with fail
          go_quiet (fail)
          go_wp2_with fail
          go_roundw
          case rel => exact ⟨k + 1, _, by omega, by go_num, rfl, by rw [Hid, HTP.out, HTQ.out, H2.out]⟩
          case measure => simp [intOf]; omega
        · have hdec : (a.n == b.n && (a.h == b.h && a.x == b.x)) = false := by rw [← ky_beq]; simp [he]
          have HE := hid he
          have HDEC := hid hdec
          clear he hdec
          cases hn : (a.n == b.n) <;> cases hh : (a.h == b.h) <;> cases hx : (a.x == b.x)
          all_goals first
            | (exfalso; have := HDEC.out; rw [hn, hh, hx] at this; cases this; done)
            | (go_wp2_with fail
               go_quiet (fail)
               go_wp2_with fail
               go_ret
               refine ⟨ret_bool ?_, below_drewN (below_drewN (Below.refl _ _) _) _⟩
               symm
               rw [decide_eq_false_iff_not]
               rintro rfl
               exact HE.out (HA.out.symm.trans HB.out))
      · go_wp2_with fail
        go_ret
        obtain rfl : k = p.length := by omega
        refine ⟨ret_bool ?_, below_drewN (Below.refl _ _) _⟩
        symm
        have := H2.out
        rw [List.take_length, HN.out, List.take_length] at this
        exact decide_eq_true this
  · have hne' : ((p.length : Int) != (q.length : Int)) = true := by simp; omega
    have HN := hid hne
    clear hne
    go_enter Tryz.func42, Tryz.ntmps42
    go_wp2_with fail
    go_ret
    refine ⟨ret_bool ?_, Below.refl _ _⟩
    symm
    rw [decide_eq_false_iff_not]
    rintro rfl
    exact HN.out rfl
end Go.Proofs.LF
