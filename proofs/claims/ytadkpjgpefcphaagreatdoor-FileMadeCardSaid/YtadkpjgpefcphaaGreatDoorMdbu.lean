/- Parts of the proof of a law of layer 11 (file): LfW77. The conditions stand in each theorem. -/
import Derived.BigQuiet
import Derived.Deep.AppendLies
import Derived.Deep.Cut
import Derived.Deep.CutBlock
import Derived.Deep.CutRange
import Derived.Deep.QuietTactic
import Derived.Deep.RegionHeld3
import Derived.Laws.ResultCell
import Derived.Outline
import Derived.Test.YtadkpjgpefcphaaGreatDoorProg
import Derived.WalkKit
import Derived.WalkLawsBesides
import Derived.WalkSpells
import Derived.Test.YtadkpjgpefcphaaGreatDoorMdat
import Derived.Test.YtadkpjgpefcphaaGreatDoorMdbq
set_option linter.all false
set_option linter.unusedVariables false
set_option linter.unusedSimpArgs false
namespace Go.Proofs.LF
open Go.RowKit Go.Sort
set_option maxHeartbeats 4000000
set_option maxRecDepth 100000
attribute [local go_sem] bs_toList bs_size bs_get
def nsAt (y : Fo) (r : List Ky) : List Int := ((rfd (flsL [] y) r).map Fl.l).getD []
def isAt (y : Fo) (r : List Ky) : Bool := (rfd (flsL [] y) r).isSome
theorem idx_rfd (L : List Fl) (r : List Ky) {n : Nat} (hn : n = L.length) : (idxN (fun i => decide ((L.map Fl.p).getD i [] = r)) n = -1 ∧ rfd L r = none) ∨ ∃ (k : Nat) (hk : k < L.length), idxN (fun i => decide ((L.map Fl.p).getD i [] = r)) n = k ∧ rfd L r = some L[k] := by
  subst hn
  cases h : rfd L r with
  | none =>
    left
    refine ⟨idxN_none fun i hi => ?_, rfl⟩
    rw [rfd, List.find?_eq_none] at h
    have := h L[i] (List.getElem_mem hi)
    simpa [List.getD_eq_getElem?_getD, hi] using this
  | some x =>
    right
    rw [rfd, List.find?_eq_some_iff_getElem] at h
    obtain ⟨h1, i, hi, h2, h3⟩ := h
    refine ⟨i, hi, idxN_found (fun j hj => ?_) hi ?_, by rw [h2]⟩
    · have := h3 j hj
      simpa [List.getD_eq_getElem?_getD, show j < L.length by omega] using this
    · have := h1
      rw [← h2] at this
      simpa [List.getD_eq_getElem?_getD, hi] using this
theorem path_length_le {up : List Ky} {y : Fo} {p : List Ky} (h : p ∈ evP up y) : p.length ≤ up.length + y.cnt := by
  have key : ∀ (y : Fo) (up : List Ky), ∀ x ∈ flsL up y, x.p.length ≤ up.length + y.cnt := by
    intro y
    induction y with
    | nil => intro up x hx; cases hx
    | cons n l s r ihs ihr =>
      intro up x hx
      rw [flsL_cons, List.mem_cons, List.mem_append] at hx
      simp only [Fo.cnt]
      rcases hx with rfl | hx | hx
      · simp; omega
      · have := ihs _ x hx; simp at this; omega
      · have := ihr _ x hx; omega
  rw [evP, List.mem_map] at h
  obtain ⟨x, hx, rfl⟩ := h
  exact key y up x hx
theorem atY_any (y : Fo) (q : List Ky) (a aq : Option Addr) (c cq : Nat) (S T : Nat → Prop) (w : World) (hv : FSl S w (.slice a y.len c) y) (hq : Pth T w (.slice aq q.length cq) q) (hS : ∀ b, S b → b < w.heap.size) (hT : ∀ b, T b → b < w.heap.size) (hlen : y.len ≤ 1000) (hsm : y.Sm) (hcnt : y.cnt ≤ 900) (lq : q.length ≤ 1000) :
    Calls Tryz.prog 44 #[.slice a y.len c, .slice aq q.length cq] w fun e w' => ∃ a1 c1, e = .returned (.tuple #[.slice a1 (nsAt y q).length c1, .bool (isAt y q)]) ∧ Ints S w' (.slice a1 (nsAt y q).length c1) (nsAt y q) ∧ Below w.heap.size w w' := by
  have hnil : Pth (fun _ => False) (w.alloc (.cells #[.slice aq q.length cq] 65)) (.slice none ([] : List Ky).length 0) [] := ⟨rfl, none, 0, rfl, Nat.le_refl _, by simp [maxLen], fun _ => rfl, .inl rfl⟩
  have BA := (Below.refl w.heap.size w).alloc (Nat.le_refl _) (.cells #[.slice aq q.length cq] 65)
  have ALL := hid (all_all (y.cnt + 1) y [] a c none 0 S (fun _ => False) (w.alloc (.cells #[.slice aq q.length cq] 65)) (Nat.lt_succ_self _) (hv.agree (Agree.of_below BA hS)) hnil (fun b hb => by have := hS b hb; simp; omega) (fun _ h => h.elim) hlen hsm (by simp; omega))
  have hcell := hid (cells_get (heap_alloc_new w (.cells #[.slice aq q.length cq] 65)) (k := 0) (v := .slice aq q.length cq) rfl)
  have BA := hid BA
  have HQ := hid hq
  clear hq hnil hv
  go_enter Tryz.func44, Tryz.ntmps44
  go_wp2_with fail
  refine ALL.out.mono ?_
  rintro e w1 ⟨a1, c1, a2, c2, rfl, ⟨T1, cs, es, X⟩, hb1⟩
  have B1 := hid (BA.out.trans (hb1.mono (by simp)))
  have hz1 := hb1.size
  simp only [World.size_alloc] at hz1
  have hpl := evP_length [] y
  have hnl := evN_length [] y
  have hpas := X.pas
  have hc1 := below_cell hb1 (by simp) hcell.out
  have IDX := idxK_any (evP [] y) q a1 aq c1 cq w.heap.size (Rg w.heap.size w1.heap.size) T w1 (by rw [hpl]; exact hpas.wide fun b hb => ⟨by have := hb.1; simp at this; omega, hb.2⟩) (fun b hb => hb.2) (HQ.out.agree (Agree.of_below B1.out hT)) (fun b hb => by have := hT b hb; omega) (by omega) hc1 (by omega) (fun p hp => by have := path_length_le hp; simp at this; omega) lq
  rw [hpl] at IDX
  have hrf := idx_rfd (flsL [] y) q (n := y.cnt) (flsL_length [] y).symm
  obtain ⟨ix, hix⟩ : ∃ ix, idxN (fun i => decide ((evP [] y).getD i [] = q)) y.cnt = ix := ⟨_, rfl⟩
  rw [hix] at IDX
  have hrf' : (ix = -1 ∧ rfd (flsL [] y) q = none) ∨ ∃ (k : Nat) (hk : k < (flsL [] y).length), ix = k ∧ rfd (flsL [] y) q = some (flsL [] y)[k] := by rw [← hix]; exact hrf
  have HRF := hid hrf'
  clear hrf hrf' hix
  have IDX := hid IDX
  have X := hid X
  have HB1 := hid hb1
  clear hb1 hpas hc1
  go_wp2_with fail
  refine IDX.out.mono ?_
  rintro e w2 ⟨rfl, hb2⟩
  have B2 := hid (B1.out.trans (hb2.mono (by omega)))
  rcases HRF.out with ⟨h1, h2⟩ | ⟨k, hk, h1, h2⟩
  · subst h1
    have H2 := hid h2
    clear h2 HRF
    go_wp2_with fail
    have e1 : nsAt y q = [] := by rw [nsAt, H2.out]; rfl
    have e2 : isAt y q = false := by rw [isAt, H2.out]; rfl
    rw [e1, e2]
    exact bodyPost_ret (v := .tuple #[.slice none 0 0, .bool false]) (by simp [results, Tryz.results44, go_sem]) rfl ⟨none, 0, rfl, ⟨rfl, none, 0, rfl, Nat.le_refl _, by simp [maxLen], fun _ => rfl, .inl rfl⟩, B2.out⟩
  · subst h1
    have H2 := hid h2
    clear h2 HRF
    have e1 : nsAt y q = (flsL [] y)[k].l := by rw [nsAt, H2.out]; rfl
    have e2 : isAt y q = true := by rw [isAt, H2.out]; rfl
    obtain ⟨hx1, hx2, hx3, hx4, hx5, hx6⟩ := X.out
    have hkn : k < (evN [] y).length := by rw [hnl]; rwa [flsL_length] at hk
    have hls : LSl rdIs (fun b => S b ∨ Rg w.heap.size w1.heap.size b) w1 (.slice a2 y.cnt c2) (evN [] y) := ⟨es, (SlC.of_owns hx3).wide fun b hb => .inr ⟨by have := hb.1; simp at this; omega, hb.2⟩, hx4.wide fun b hb => .inl hb⟩
    obtain ⟨a3, c3, he3, hle3, hm3, hat3⟩ := hls.at
    rw [hnl] at he3
    cases he3
    obtain ⟨g, o, cv, rfl, hg, ⟨a4, c4, rfl, hI⟩, hcl⟩ := hat3 k hkn
    have hgl : g < w1.heap.size := by
      rcases hg with hg | hg
      · have := hS g hg; omega
      · exact hg.2
    have hnk : (evN [] y)[k] = (flsL [] y)[k].l := by simp [evN]
    rw [hnk] at hcl hI
    have hd0 : w2.cell? ⟨g, o + k, none⟩ = some (.slice a4 (flsL [] y)[k].l.length c4) := below_cell hb2 hgl (by have := hcl 0 _ rfl; simpa using this)
    have hI4 : Ints S w1 (.slice a4 (flsL [] y)[k].l.length c4) (flsL [] y)[k].l := by
      have hlc := hx4.drop (i := k)
      rw [List.drop_eq_getElem_cons hkn] at hlc
      obtain ⟨cc, ee, hee, ⟨a5, c5, rfl, h5⟩, _⟩ := hlc
      have := hcl 0 _ rfl
      have e0 : es[k]? = some (.slice a5 (evN [] y)[k].length c5) := by
        have := congrArg (fun l => l[0]?) hee
        simpa [List.getElem?_drop] using this
      have e1 : w1.cell? ⟨g, o + k, none⟩ = some (.slice a5 (evN [] y)[k].length c5) := by
        rw [hnl] at hx3
        obtain ⟨g', o', he', _, _, _, hcc⟩ := (SlC.of_owns hx3).cells (by rw [hnl] at hkn; omega)
        cases he'
        exact hcc k _ e0
      have e2 : w1.cell? ⟨g, o + k, none⟩ = some (.slice a4 (flsL [] y)[k].l.length c4) := by simpa using this
      rw [e2] at e1
      simp only [hnk] at e1 h5
      injection e1 with e1
      injection e1 with e1 _ e3
      rw [e1, e3]
      exact h5
    have HI := hid (hI4.agree (Agree.of_below hb2 fun b hb => by have := hS b hb; omega))
    obtain ⟨N, hN⟩ : ∃ N, (flsL [] y)[k].l = N := ⟨_, rfl⟩
    rw [hN] at hd0 HI e1
    have hk' : k < y.cnt := by rwa [flsL_length] at hk
    clear hcl hx1 hx2 hx3 hx4 hx5 hx6 hls hat3 hI hI4 hnk hkn IDX
    go_wp2_with fail
    rw [e1, e2]
    exact bodyPost_ret (v := .tuple #[.slice a4 N.length c4, .bool true]) (by simp [results, Tryz.results44, go_sem]) rfl ⟨a4, c4, rfl, HI.out, B2.out⟩
end Go.Proofs.LF
