/- Parts of the proof of a law of layer 11 (file): LfW46. The conditions stand in each theorem. -/
import Derived.BigQuiet
import Derived.Deep.AppendLies
import Derived.Deep.Cut
import Derived.Deep.CutBlock
import Derived.Deep.CutRange
import Derived.Deep.QuietTactic
import Derived.Deep.RegionHeld3
import Derived.Laws.ResultCell
import Derived.Outline
import Derived.Test.YtadkpjgpefcphaaGreatDoorProg
import Derived.WalkKit
import Derived.WalkLawsBesides
import Derived.WalkSpells
import Derived.Test.YtadkpjgpefcphaaGreatDoorYrbu
import Derived.Test.YtadkpjgpefcphaaGreatDoorYrbv
set_option linter.all false
set_option linter.unusedVariables false
set_option linter.unusedSimpArgs false
namespace Go.Proofs.LF
open Go.RowKit Go.Sort
set_option maxHeartbeats 4000000
set_option maxRecDepth 100000
attribute [local go_sem] bs_toList bs_size bs_get
theorem enters120 : Enters 120 := by intro args W; simp [go_sem]
theorem eqP_any (p q : List Ky) (ap aq : Option Addr) (cp cq F : Nat) (S : Nat → Prop) (w : World) (hp : Pth S w (.slice ap p.length cp) p) (hq : Pth S w (.slice aq q.length cq) q) (hS : ∀ b, S b → b < w.heap.size) (lp : p.length ≤ 1000) (lq : q.length ≤ 1000)
    (hc : w.cell? ⟨F, 0, none⟩ = some (.slice aq q.length cq)) :
    Calls Tryz.prog 120 #[.slice ap p.length cp, .pointer (some ⟨F, 0, none⟩)] w fun e w' => e = .returned (.bool (decide (cmpP p q = 0))) ∧ Below w.heap.size w w' := by
  have H := hid (byPath_any p q ap aq cp cq S w hp hq hS lp lq)
  clear hp hq
  go_enter Tryz.func120, Tryz.ntmps120
  go_wp2_with fail
  refine H.out.mono ?_
  rintro e w1 ⟨rfl, hb1⟩
  have HB1 := hid hb1
  clear hb1
  by_cases h : cmpP p q = 0
  · go_wp2_with fail
    go_ret
    exact ⟨ret_bool (by simp [h]), HB1.out⟩
  · go_wp2_with fail
    go_ret
    exact ⟨ret_bool (by simp [h]), HB1.out⟩
theorem path_elem {S : Nat → Prop} {w : World} {ps : List (List Ky)} {ds : List Value} (h : LCs rdPa S w ps ds) {i : Nat} (hi : i < ps.length) : ∃ ap cp, elemV 1 ds i = .slice ap ps[i].length cp ∧ Pth S w (.slice ap ps[i].length cp) ps[i] := by
  have h' := h.drop (i := i)
  rw [List.drop_eq_getElem_cons hi] at h'
  obtain ⟨cs, es, he, ⟨ap, cp, rfl, hp⟩, _⟩ := h'
  refine ⟨ap, cp, ?_, hp⟩
  have e0 : ds[i]? = some (.slice ap ps[i].length cp) := by
    have := congrArg (fun l => l[0]?) he
    simpa [List.getElem?_drop] using this
  simp [elemV, List.getD_eq_getElem?_getD, e0]
theorem contP_any (ps : List (List Ky)) (q : List Ky) (al aq : Option Addr) (cl cq F : Nat) (S T : Nat → Prop) (w : World) (hv : PaSl S w (.slice al ps.length cl) ps) (hS : ∀ b, S b → b < w.heap.size) (hq : Pth T w (.slice aq q.length cq) q) (hT : ∀ b, T b → b < w.heap.size)
    (hF : F < w.heap.size) (hc : w.cell? ⟨F, 0, none⟩ = some (.slice aq q.length cq)) (hl : ps.length ≤ 1000) (hps : ∀ p ∈ ps, p.length ≤ 1000) (lq : q.length ≤ 1000) :
    Calls Tryz.prog 45 #[.slice al ps.length cl, .func (.func 120) #[] #[.pointer (some ⟨F, 0, none⟩)]] w fun e w' => e = .returned (.bool (ps.any (fun p => decide (cmpP p q = 0)))) ∧ Below w.heap.size w w' := by
  obtain ⟨ds, h1, h2⟩ := hv
  have key := cont_path 120 enters120 (fun i => decide (cmpP (ps.getD i []) q = 0)) [.pointer (some ⟨F, 0, none⟩)] ps.length al cl ds S w h1 hS (by omega) (fun i hi W hW => by
    obtain ⟨ap', cp', he, hp'⟩ := path_elem h2 hi
    have hg : ps.getD i [] = ps[i] := by simp [List.getD_eq_getElem?_getD, hi]
    rw [he, hg]
    exact eqP_any ps[i] q ap' aq cp' cq F (fun b => S b ∨ T b) W ((hp'.agree (Agree.of_below hW hS)).wide fun b hb => .inl hb) ((hq.agree (Agree.of_below hW hT)).wide fun b hb => .inr hb) (fun b hb => by have := hW.size; rcases hb with hb | hb; have := hS b hb; omega; have := hT b hb; omega) (hps _ (List.getElem_mem hi)) lq (below_cell hW hF hc))
  rw [anyN_list (fun p => decide (cmpP p q = 0)) _ ps (fun i hi => by simp [List.getD_eq_getElem?_getD, hi])] at key
  exact key
end Go.Proofs.LF
