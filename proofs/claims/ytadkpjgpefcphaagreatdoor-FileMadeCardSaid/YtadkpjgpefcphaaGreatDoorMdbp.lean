/- Parts of the proof of a law of layer 11 (file): LfW75, LfVal. The conditions stand in each theorem. -/
import Derived.BigQuiet
import Derived.Deep.AppendLies
import Derived.Deep.Cut
import Derived.Deep.CutBlock
import Derived.Deep.CutRange
import Derived.Deep.QuietTactic
import Derived.Deep.RegionHeld3
import Derived.Laws.ResultCell
import Derived.Outline
import Derived.Test.YtadkpjgpefcphaaGreatDoorProg
import Derived.WalkKit
import Derived.WalkLawsBesides
import Derived.WalkSpells
import Derived.Test.YtadkpjgpefcphaaGreatDoorMdbe
import Derived.Test.YtadkpjgpefcphaaGreatDoorMdbm
import Derived.Test.YtadkpjgpefcphaaGreatDoorMdbn
set_option linter.all false
set_option linter.unusedVariables false
set_option linter.unusedSimpArgs false
namespace Go.Proofs.LF
open Go.RowKit Go.Sort
set_option maxHeartbeats 4000000
set_option maxRecDepth 100000
attribute [local go_sem] bs_toList bs_size bs_get
theorem kOf_any (n : List UInt8) (l : List Int) (an : Option Addr) (cn : Nat) (S : Nat → Prop) (w : World) (hl : Ints S w (.slice an l.length cn) l) (hS : ∀ b, S b → b < w.heap.size) :
    Calls Tryz.prog 51 #[.string (bs n), .slice an l.length cn] w fun e w' => e = .returned (.agg #[.string (bs (kyOf n l).n), .bool (kyOf n l).h, .int .i64 (kyOf n l).x]) ∧ Below w.heap.size w w' := by
  cases l with
  | nil =>
    go_enter Tryz.func51, Tryz.ntmps51
    go_wp2
    exact bodyPost_ret (v := .agg #[.string (bs n), .bool false, .int .i64 0]) (by simp [results, Tryz.results51, go_sem]) rfl ⟨rfl, ((Below.refl _ _).alloc (Nat.le_refl _) _)⟩
  | cons x l =>
    obtain ⟨g, o, rfl, hg, _, _, hcell⟩ := SlC.cells hl (by simp)
    · have hx : w.cell? ⟨g, o, none⟩ = some (.int .i64 x) := hcell 0 _ rfl
      have hg' := hS g hg
      clear hcell
      have hne : (((x :: l).length : Nat) : Int) ≠ 0 := by simp; omega
      have hx' : (w.alloc (.cells #[.string ByteArray.empty, .bool false, .int .i64 0] 71)).cell? ⟨g, o, none⟩ = some (.int .i64 x) := below_cell ((Below.refl w.heap.size _).alloc (Nat.le_refl _) _) hg' hx
      go_enter Tryz.func51, Tryz.ntmps51
      go_wp2_with fail
      exact bodyPost_ret (v := .agg #[.string (bs n), .bool true, .int .i64 x]) (by simp [results, Tryz.results51, go_sem]) rfl ⟨rfl, ((Below.refl _ _).alloc (Nat.le_refl _) _)⟩
theorem dupK_own (l : List Ky) (an : Option Addr) (cn : Nat) (S : Nat → Prop) (w : World) (hl : Pth S w (.slice an l.length cn) l) (hS : ∀ b, S b → b < w.heap.size) (hlen : l.length ≤ 1000) :
    Calls Tryz.prog 50 #[.slice an l.length cn] w fun e w' => ∃ a c, e = .returned (.slice a l.length c) ∧ w'.ownsRow w.heap.size 71 3 (.slice a l.length c) l.length (l.flatMap Ky.cells) ∧ Below w.heap.size w w' := by
  obtain ⟨i0, hi0, hz0, hz1, hz2⟩ := info_parts Tryz.info71'
  have hcap := SlC.caps hl
  have hl0 := len_keys l
  go_enter Tryz.func50, Tryz.ntmps50
  go_wp2_with (first | (at_make; refine wpList_make_own _ rfl _ _ 65 rfl w.heap.size 71 i0 _ 3 Tryz.underlying65 hi0 hz0 hz1 .i64 .i64 l.length l.length rfl rfl rfl (by rw [hz2]; omega) (by unfold maxLen; omega) (Nat.le_refl _) ?_; intro w1 hown1 hgrow1) | (at_builtin; refine wpList_append_fits_any _ rfl _ _ 65 rfl w.heap.size 71 i0 3 Tryz.underlying65 hi0 hz1 w.heap.size 0 l.length [] rfl hown1 an l.length cn (l.flatMap Ky.cells) rfl hl0 hcap.2.2 (SlC.news hl (Agree.grown hgrow1 fun b hb => ⟨hS b hb, by simp⟩)) (one_keys l) (by omega) ?_; intro w2 hown2 hgrow2))
  go_ret
  have h2 := hown2
  simp only [Nat.zero_add, List.nil_append] at h2
  exact ⟨_, _, rfl, h2, ((Below.refl _ _).grown hgrow1 (Nat.le_refl _) (by simp)).grown hgrow2 hgrow1.size (fun k hk => by cases hk; exact Nat.le_refl _)⟩
def EqK (g : Nat) : Prop := ∀ (p q : List Ky) (ap aq : Option Addr) (cp cq F : Nat) (S : Nat → Prop) (w : World), Pth S w (.slice ap p.length cp) p → Pth S w (.slice aq q.length cq) q → p.length ≤ 1000 → q.length ≤ 1000 → w.cell? ⟨F, 0, none⟩ = some (.slice aq q.length cq) →
    Calls Tryz.prog g #[.slice ap p.length cp, .pointer (some ⟨F, 0, none⟩)] w fun e w' => e = .returned (.bool (decide (p = q))) ∧ Below w.heap.size w w'
theorem enters129 : Enters 129 := by intro args W; simp [go_sem]
theorem eq129 : EqK 129 := by
  intro p q ap aq cp cq F S w hp hq lp lq hc
  have H := hid (eqKeys_any p q ap aq cp cq S w hp hq (by omega) (by omega))
  clear hp hq
  go_enter Tryz.func129, Tryz.ntmps129
  go_wp2_with fail
  refine H.out.mono ?_
  rintro e w1 ⟨rfl, hb1⟩
  go_wp2_with fail
  go_ret
  exact ⟨rfl, hb1⟩
theorem predK {g : Nat} (h : EqK g) (ps : List (List Ky)) (q : List Ky) (al aq : Option Addr) (cl cq F : Nat) (S T : Nat → Prop) (w : World) (ds : List Value) (h2 : LCs rdPa S w ps ds) (hS : ∀ b, S b → b < w.heap.size) (hq : Pth T w (.slice aq q.length cq) q) (hT : ∀ b, T b → b < w.heap.size)
    (hF : F < w.heap.size) (hc : w.cell? ⟨F, 0, none⟩ = some (.slice aq q.length cq)) (hps : ∀ p ∈ ps, p.length ≤ 1000) (lq : q.length ≤ 1000) (i : Nat) (hi : i < ps.length) :
    PredC g [.pointer (some ⟨F, 0, none⟩)] w [elemV 1 ds i] (decide (ps.getD i [] = q)) := fun W hW => by
  obtain ⟨ap', cp', he, hp'⟩ := path_elem h2 hi
  have hg : ps.getD i [] = ps[i] := by simp [List.getD_eq_getElem?_getD, hi]
  rw [he, hg]
  exact h ps[i] q ap' aq cp' cq F (fun b => S b ∨ T b) W ((hp'.agree (Agree.of_below hW hS)).wide fun b hb => .inl hb) ((hq.agree (Agree.of_below hW hT)).wide fun b hb => .inr hb) (hps _ (List.getElem_mem hi)) lq (below_cell hW hF hc)
theorem idxK_any (ps : List (List Ky)) (q : List Ky) (al aq : Option Addr) (cl cq F : Nat) (S T : Nat → Prop) (w : World) (hv : PaSl S w (.slice al ps.length cl) ps) (hS : ∀ b, S b → b < w.heap.size) (hq : Pth T w (.slice aq q.length cq) q) (hT : ∀ b, T b → b < w.heap.size)
    (hF : F < w.heap.size) (hc : w.cell? ⟨F, 0, none⟩ = some (.slice aq q.length cq)) (hl : ps.length ≤ 1000) (hps : ∀ p ∈ ps, p.length ≤ 1000) (lq : q.length ≤ 1000) :
    Calls Tryz.prog 128 #[.slice al ps.length cl, .func (.func 129) #[] #[.pointer (some ⟨F, 0, none⟩)]] w fun e w' => e = .returned (.int .i64 (idxN (fun i => decide (ps.getD i [] = q)) ps.length)) ∧ Below w.heap.size w w' := by
  obtain ⟨ds, h1, h2⟩ := hv
  exact idx_path 129 enters129 (fun i => decide (ps.getD i [] = q)) [.pointer (some ⟨F, 0, none⟩)] ps.length al cl ds S w h1 hS (by omega) (fun i hi => predK eq129 ps q al aq cl cq F S T w ds h2 hS hq hT hF hc hps lq i hi)
end Go.Proofs.LF
namespace Go.Proofs.LF
def txt1 : List UInt8 := [98, 101, 100, 32, 51, 10, 32, 114, 97, 107, 101, 100, 32, 53, 32, 55, 10, 115, 111, 108, 100, 10]
def txt2 : List UInt8 := [98, 101, 100, 32, 51, 10, 32, 32, 114, 97, 107, 101, 100, 32, 53, 10]
def bed3 : Ky := ⟨bedN, true, 3⟩
def raked5 : Ky := ⟨rakedN, true, 5⟩
def raked6 : Ky := ⟨rakedN, true, 6⟩
def oneB (n : Int) : Fo := .cons bedN [3] (.cons rakedN [5, n] .nil .nil) .nil
def oneS : Fo := .cons soldN [] .nil .nil
def oneM : Fo := .cons bedN [3] (.cons rakedN [5, 7] .nil (.cons rakedN [6] .nil .nil)) (.cons soldN [] .nil .nil)
def difV : List Ch := [⟨[bed3, raked5], true, true, [5, 7], [5, 8]⟩, ⟨[⟨soldN, false, 0⟩], true, false, [], []⟩]
theorem val_chk : chkY (oneY 7) = 0 := by decide +kernel
theorem val_txt : txtL (nodesL [] (oneY 7)) = txt1 := by decide +kernel
theorem val_prs1 : (prs txt1).2 = (0, 0, 0) ∧ prsY txt1 = oneY 7 := by decide +kernel
theorem val_prs2 : (prs txt2).2 = (1, 1, 11) ∧ prsY txt2 = .nil := by decide +kernel
theorem val_dif : difE (oneY 7) (oneB 8) = 0 ∧ difL (oneY 7) (oneB 8) = difV := by decide +kernel
theorem val_get : getE (oneY 7) [bed3, raked5] = 0 ∧ getN (oneY 7) [bed3, raked5] = (rakedN, [5, 7], .nil) := by decide +kernel
theorem val_put : putE (oneY 7) [bed3] rakedN [6] .nil = 0 ∧ putY (oneY 7) [bed3] rakedN [6] .nil = oneM := by decide +kernel
theorem val_join : joE (oneY 7) oneS oneM = 0 ∧ joY (oneY 7) oneS oneM = oneS ∧ joP (oneY 7) oneS oneM = [[bed3, raked6]] := by decide +kernel
end Go.Proofs.LF
