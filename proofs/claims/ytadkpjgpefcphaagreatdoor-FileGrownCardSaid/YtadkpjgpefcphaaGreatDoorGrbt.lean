/- Parts of the proof of a law of layer 11 (file): LfW77, LfW82, LfJo. The conditions stand in each theorem. -/
import Derived.BigQuiet
import Derived.Deep.AppendLies
import Derived.Deep.Cut
import Derived.Deep.CutBlock
import Derived.Deep.CutRange
import Derived.Deep.QuietTactic
import Derived.Deep.RegionHeld3
import Derived.Laws.ResultCell
import Derived.Outline
import Derived.Test.YtadkpjgpefcphaaGreatDoorProg
import Derived.WalkKit
import Derived.WalkLawsBesides
import Derived.WalkSpells
import Derived.Test.YtadkpjgpefcphaaGreatDoorGran
import Derived.Test.YtadkpjgpefcphaaGreatDoorGrav
import Derived.Test.YtadkpjgpefcphaaGreatDoorGrbn
import Derived.Test.YtadkpjgpefcphaaGreatDoorGrbr
import Derived.Test.YtadkpjgpefcphaaGreatDoorGrbs
set_option linter.all false
set_option linter.unusedVariables false
set_option linter.unusedSimpArgs false
namespace Go.Proofs.LF
open Go.RowKit Go.Sort
set_option maxHeartbeats 4000000
set_option maxRecDepth 100000
attribute [local go_sem] bs_toList bs_size bs_get
def nsAt (y : Fo) (r : List Ky) : List Int := ((rfd (flsL [] y) r).map Fl.l).getD []
def isAt (y : Fo) (r : List Ky) : Bool := (rfd (flsL [] y) r).isSome
theorem idx_rfd (L : List Fl) (r : List Ky) {n : Nat} (hn : n = L.length) : (idxN (fun i => decide ((L.map Fl.p).getD i [] = r)) n = -1 ∧ rfd L r = none) ∨ ∃ (k : Nat) (hk : k < L.length), idxN (fun i => decide ((L.map Fl.p).getD i [] = r)) n = k ∧ rfd L r = some L[k] := by
  subst hn
  cases h : rfd L r with
  | none =>
    left
    refine ⟨idxN_none fun i hi => ?_, rfl⟩
    rw [rfd, List.find?_eq_none] at h
    have := h L[i] (List.getElem_mem hi)
    simpa [List.getD_eq_getElem?_getD, hi] using this
  | some x =>
    right
    rw [rfd, List.find?_eq_some_iff_getElem] at h
    obtain ⟨h1, i, hi, h2, h3⟩ := h
    refine ⟨i, hi, idxN_found (fun j hj => ?_) hi ?_, by rw [h2]⟩
    · have := h3 j hj
      simpa [List.getD_eq_getElem?_getD, show j < L.length by omega] using this
    · have := h1
      rw [← h2] at this
      simpa [List.getD_eq_getElem?_getD, hi] using this
theorem path_length_le {up : List Ky} {y : Fo} {p : List Ky} (h : p ∈ evP up y) : p.length ≤ up.length + y.cnt := by
  have key : ∀ (y : Fo) (up : List Ky), ∀ x ∈ flsL up y, x.p.length ≤ up.length + y.cnt := by
    intro y
    induction y with
    | nil => intro up x hx; cases hx
    | cons n l s r ihs ihr =>
      intro up x hx
      rw [flsL_cons, List.mem_cons, List.mem_append] at hx
      simp only [Fo.cnt]
      rcases hx with rfl | hx | hx
      · simp; omega
      · have := ihs _ x hx; simp at this; omega
      · have := ihr _ x hx; omega
  rw [evP, List.mem_map] at h
  obtain ⟨x, hx, rfl⟩ := h
  exact key y up x hx
theorem atY_any (y : Fo) (q : List Ky) (a aq : Option Addr) (c cq : Nat) (S T : Nat → Prop) (w : World) (hv : FSl S w (.slice a y.len c) y) (hq : Pth T w (.slice aq q.length cq) q) (hS : ∀ b, S b → b < w.heap.size) (hT : ∀ b, T b → b < w.heap.size) (hlen : y.len ≤ 1000) (hsm : y.Sm) (hcnt : y.cnt ≤ 900) (lq : q.length ≤ 1000) :
    Calls Tryz.prog 44 #[.slice a y.len c, .slice aq q.length cq] w fun e w' => ∃ a1 c1, e = .returned (.tuple #[.slice a1 (nsAt y q).length c1, .bool (isAt y q)]) ∧ Ints S w' (.slice a1 (nsAt y q).length c1) (nsAt y q) ∧ Below w.heap.size w w' := by
  have hnil : Pth (fun _ => False) (w.alloc (.cells #[.slice aq q.length cq] 65)) (.slice none ([] : List Ky).length 0) [] := ⟨rfl, none, 0, rfl, Nat.le_refl _, by simp [maxLen], fun _ => rfl, .inl rfl⟩
  have BA := (Below.refl w.heap.size w).alloc (Nat.le_refl _) (.cells #[.slice aq q.length cq] 65)
  have ALL := hid (all_all (y.cnt + 1) y [] a c none 0 S (fun _ => False) (w.alloc (.cells #[.slice aq q.length cq] 65)) (Nat.lt_succ_self _) (hv.agree (Agree.of_below BA hS)) hnil (fun b hb => by have := hS b hb; simp; omega) (fun _ h => h.elim) hlen hsm (by simp; omega))
  have hcell := hid (cells_get (heap_alloc_new w (.cells #[.slice aq q.length cq] 65)) (k := 0) (v := .slice aq q.length cq) rfl)
  have BA := hid BA
  have HQ := hid hq
  clear hq hnil hv
  go_enter Tryz.func44, Tryz.ntmps44
  go_wp2_with fail
  refine ALL.out.mono ?_
  rintro e w1 ⟨a1, c1, a2, c2, rfl, ⟨T1, cs, es, X⟩, hb1⟩
  have B1 := hid (BA.out.trans (hb1.mono (by simp)))
  have hz1 := hb1.size
  simp only [World.size_alloc] at hz1
  have hpl := evP_length [] y
  have hnl := evN_length [] y
  have hpas := X.pas
  have hc1 := below_cell hb1 (by simp) hcell.out
  have IDX := idxK_any (evP [] y) q a1 aq c1 cq w.heap.size (Rg w.heap.size w1.heap.size) T w1 (by rw [hpl]; exact hpas.wide fun b hb => ⟨by have := hb.1; simp at this; omega, hb.2⟩) (fun b hb => hb.2) (HQ.out.agree (Agree.of_below B1.out hT)) (fun b hb => by have := hT b hb; omega) (by omega) hc1 (by omega) (fun p hp => by have := path_length_le hp; simp at this; omega) lq
  rw [hpl] at IDX
  have hrf := idx_rfd (flsL [] y) q (n := y.cnt) (flsL_length [] y).symm
  obtain ⟨ix, hix⟩ : ∃ ix, idxN (fun i => decide ((evP [] y).getD i [] = q)) y.cnt = ix := ⟨_, rfl⟩
  rw [hix] at IDX
  have hrf' : (ix = -1 ∧ rfd (flsL [] y) q = none) ∨ ∃ (k : Nat) (hk : k < (flsL [] y).length), ix = k ∧ rfd (flsL [] y) q = some (flsL [] y)[k] := by rw [← hix]; exact hrf
  have HRF := hid hrf'
  clear hrf hrf' hix
  have IDX := hid IDX
  have X := hid X
  have HB1 := hid hb1
  clear hb1 hpas hc1
  go_wp2_with fail
  refine IDX.out.mono ?_
  rintro e w2 ⟨rfl, hb2⟩
  have B2 := hid (B1.out.trans (hb2.mono (by omega)))
  rcases HRF.out with ⟨h1, h2⟩ | ⟨k, hk, h1, h2⟩
  · subst h1
    have H2 := hid h2
    clear h2 HRF
    go_wp2_with fail
    have e1 : nsAt y q = [] := by rw [nsAt, H2.out]; rfl
    have e2 : isAt y q = false := by rw [isAt, H2.out]; rfl
    rw [e1, e2]
    exact bodyPost_ret (v := .tuple #[.slice none 0 0, .bool false]) (by simp [results, Tryz.results44, go_sem]) rfl ⟨none, 0, rfl, ⟨rfl, none, 0, rfl, Nat.le_refl _, by simp [maxLen], fun _ => rfl, .inl rfl⟩, B2.out⟩
  · subst h1
    have H2 := hid h2
    clear h2 HRF
    have e1 : nsAt y q = (flsL [] y)[k].l := by rw [nsAt, H2.out]; rfl
    have e2 : isAt y q = true := by rw [isAt, H2.out]; rfl
    obtain ⟨hx1, hx2, hx3, hx4, hx5, hx6⟩ := X.out
    have hkn : k < (evN [] y).length := by rw [hnl]; rwa [flsL_length] at hk
    have hls : LSl rdIs (fun b => S b ∨ Rg w.heap.size w1.heap.size b) w1 (.slice a2 y.cnt c2) (evN [] y) := ⟨es, (SlC.of_owns hx3).wide fun b hb => .inr ⟨by have := hb.1; simp at this; omega, hb.2⟩, hx4.wide fun b hb => .inl hb⟩
    obtain ⟨a3, c3, he3, hle3, hm3, hat3⟩ := hls.at
    rw [hnl] at he3
    cases he3
    obtain ⟨g, o, cv, rfl, hg, ⟨a4, c4, rfl, hI⟩, hcl⟩ := hat3 k hkn
    have hgl : g < w1.heap.size := by
      rcases hg with hg | hg
      · have := hS g hg; omega
      · exact hg.2
    have hnk : (evN [] y)[k] = (flsL [] y)[k].l := by simp [evN]
    rw [hnk] at hcl hI
    have hd0 : w2.cell? ⟨g, o + k, none⟩ = some (.slice a4 (flsL [] y)[k].l.length c4) := below_cell hb2 hgl (by have := hcl 0 _ rfl; simpa using this)
    have hI4 : Ints S w1 (.slice a4 (flsL [] y)[k].l.length c4) (flsL [] y)[k].l := by
      have hlc := hx4.drop (i := k)
      rw [List.drop_eq_getElem_cons hkn] at hlc
      obtain ⟨cc, ee, hee, ⟨a5, c5, rfl, h5⟩, _⟩ := hlc
      have := hcl 0 _ rfl
      have e0 : es[k]? = some (.slice a5 (evN [] y)[k].length c5) := by
        have := congrArg (fun l => l[0]?) hee
        simpa [List.getElem?_drop] using this
      have e1 : w1.cell? ⟨g, o + k, none⟩ = some (.slice a5 (evN [] y)[k].length c5) := by
        rw [hnl] at hx3
        obtain ⟨g', o', he', _, _, _, hcc⟩ := (SlC.of_owns hx3).cells (by rw [hnl] at hkn; omega)
        cases he'
        exact hcc k _ e0
      have e2 : w1.cell? ⟨g, o + k, none⟩ = some (.slice a4 (flsL [] y)[k].l.length c4) := by simpa using this
      rw [e2] at e1
      simp only [hnk] at e1 h5
      injection e1 with e1
      injection e1 with e1 _ e3
      rw [e1, e3]
      exact h5
    have HI := hid (hI4.agree (Agree.of_below hb2 fun b hb => by have := hS b hb; omega))
    obtain ⟨N, hN⟩ : ∃ N, (flsL [] y)[k].l = N := ⟨_, rfl⟩
    rw [hN] at hd0 HI e1
    have hk' : k < y.cnt := by rwa [flsL_length] at hk
    clear hcl hx1 hx2 hx3 hx4 hx5 hx6 hls hat3 hI hI4 hnk hkn IDX
    go_wp2_with fail
    rw [e1, e2]
    exact bodyPost_ret (v := .tuple #[.slice a4 N.length c4, .bool true]) (by simp [results, Tryz.results44, go_sem]) rfl ⟨a4, c4, rfl, HI.out, B2.out⟩
end Go.Proofs.LF
namespace Go.Proofs.LF
open Go.RowKit Go.Sort
set_option maxHeartbeats 4000000
set_option maxRecDepth 100000
attribute [local go_sem] bs_toList bs_size bs_get
theorem kp_lcs {α : Type} {k : Nat} {r : Rd α k} {S : Nat → Prop} {w : World} {xs : List α} {cs : List Value} (h : LCs r S w xs cs) {p : Nat → Bool} {pr : α → Bool} (hp : ∀ i (hi : i < xs.length), p i = pr xs[i]) : ∀ j, j ≤ xs.length → LCs r S w ((xs.take j).filter fun x => !pr x) (kpC k p cs j) ∧ kpN p j = ((xs.take j).filter fun x => !pr x).length
  | 0, _ => by simp [kpC, kpN, LCs]
  | j + 1, hj => by
    obtain ⟨h1, h2⟩ := kp_lcs h hp j (by omega)
    have hx : j < xs.length := by omega
    rw [List.take_succ_eq_append_getElem hx, List.filter_append, kpC, kpN, hp j hx]
    cases hq : pr xs[j] with
    | true => simpa [hq] using ⟨h1, h2⟩
    | false =>
      have h3 := (h.drop (i := j)).take (i := 1)
      rw [List.drop_eq_getElem_cons hx, Nat.one_mul] at h3
      simp only [List.take_succ_cons, List.take_zero] at h3
      simp only [List.filter_cons, List.filter_nil, hq, Bool.not_false, if_true, Bool.false_eq_true, if_false, List.length_append, List.length_singleton]
      exact ⟨h1.app h3, by rw [h2]⟩
theorem flat_cells {S : Nat → Prop} {w : World} {fs : List Fl} {cs : List Value} (h : LCs rdFl S w fs cs) {i : Nat} (hi : i < fs.length) : ∃ ap cp an cn, cs.getD (i * 2) undef = .slice ap fs[i].p.length cp ∧ cs.getD (i * 2 + 1) undef = .slice an fs[i].l.length cn ∧ Pth S w (.slice ap fs[i].p.length cp) fs[i].p := by
  have h3 := h.drop (i := i)
  rw [List.drop_eq_getElem_cons hi] at h3
  obtain ⟨cc, ee, he, ⟨ap, cp, an, cn, rfl, hp, _⟩, _⟩ := h3
  have e0 := congrArg (fun l => l[0]?) he
  have e1 := congrArg (fun l => l[1]?) he
  simp [List.getElem?_drop] at e0 e1
  exact ⟨ap, cp, an, cn, by rw [List.getD_eq_getElem?_getD, e0]; rfl, by rw [List.getD_eq_getElem?_getD, e1]; rfl, hp⟩
def DropR (y : Fo) (q : List Ky) (w : World) (e : Ending) (w' : World) : Prop :=
  ∃ a c, e = .returned (.tuple #[.slice a (dropY y q).len c, .int .i64 (dropE y q)]) ∧ FSl (Rg w.heap.size w'.heap.size) w' (.slice a (dropY y q).len c) (dropY y q) ∧ Below w.heap.size w w'
theorem DropR.bad {y : Fo} {q : List Ky} {w w' : World} {x : Int} (hx : dropE y q = x) (h0 : x ≠ 0) (hb : Below w.heap.size w w') : DropR y q w (.returned (.tuple #[.slice none 0 0, .int .i64 x])) w' := by
  subst hx
  have h1 : dropY y q = .nil := by rw [dropY, if_neg h0]
  unfold DropR
  rw [h1]
  exact ⟨none, 0, rfl, ⟨[], ⟨rfl, _, 0, rfl, Nat.le_refl _, by simp [maxLen], fun _ => rfl, .inl rfl⟩, rfl⟩, hb⟩
theorem Drop_any (y : Fo) (q : List Ky) (ay aq : Option Addr) (cy cq : Nat) (S T : Nat → Prop) (w : World) (hv : FSl S w (.slice ay y.len cy) y) (hS : ∀ b, S b → b < w.heap.size) (hq : Pth T w (.slice aq q.length cq) q) (hT : ∀ b, T b → b < w.heap.size)
    (hlen : y.len ≤ 1000) (hsm : y.Sm) (hcnt : y.cnt ≤ 900) (lq : q.length ≤ 1000) :
    Calls Tryz.prog 48 #[.slice ay y.len cy, .slice aq q.length cq] w (DropR y q w) := by
  have hb0 : Below w.heap.size w (w.alloc (.cells #[.slice aq q.length cq] 65)) := (Below.refl _ _).alloc (Nat.le_refl _) _
  have HB0 := hid hb0
  have HN0 := hid (heap_alloc_new w (.cells #[.slice aq q.length cq] 65))
  have HC := hid (Check_any y ay cy S _ (hv.agree (Agree.of_below hb0 hS)) (fun b hb => by have := hS b hb; simp; omega) hlen hsm hcnt)
  have HV := hid hv
  have HQ := hid hq
  have HS := hid hS
  have HT := hid hT
  have HSM := hid hsm
  clear hb0 hv hq hS hT hsm
  by_cases hc : chkY y = 0
  · have HCK := hid hc
    go_enter Tryz.func48, Tryz.ntmps48
    go_wp2_with fail
    refine HC.out.mono ?_
    rintro e w1 ⟨rfl, hb1⟩
    have hB1 := HB0.out.trans (hb1.mono (by simp))
    have hF1 := hid ((hb1.block w.heap.size (by simp)).trans HN0.out)
    have hz1 := hb1.size
    simp only [World.size_alloc] at hz1
    have HFL := hid (flats_own y ay cy S w1 (HV.out.agree (Agree.of_below hB1 HS.out)) (fun b hb => by have := HS.out b hb; omega) hlen HSM.out hcnt)
    rw [hc]
    have HB1 := hid hB1
    clear hb1 hB1 hc HC
    go_wp2_with fail
    refine HFL.out.mono ?_
    rintro e w2 ⟨af, cf, cs, M, rfl, how, hls, hM, hb2⟩
    have hz2 := hb2.size
    have HB2 := hid (HB1.out.trans (hb2.mono (by omega)))
    have hF2 := hid ((hb2.block w.heap.size (by omega)).trans hF1.out)
    have hlsl : FlSl (Rg w1.heap.size w2.heap.size) w2 (.slice af (flsL [] y).length cf) (flsL [] y) := ⟨cs, SlC.of_owns how, hls.wide fun b hb' => ⟨(hM b hb').1, (hM b hb').2.1⟩⟩
    have okf := fls_ok HCK.out
    have hsmf : SmF (flsL [] y) := fun x hx => ⟨(okf.2.1 x hx).1, (okf.1 x hx).2.1, (okf.1 x hx).2.2⟩
    have hll := okf.2.2
    have HFD := hid (find_any (flsL [] y) q af aq cf cq _ T w2 hlsl (fun b hb => hb.2) (HQ.out.agree (Agree.of_below HB2.out HT.out)) (fun b hb => by have := HT.out b hb; omega) (by omega) hsmf lq)
    have hcF : w2.cell? ⟨w.heap.size, 0, none⟩ = some (.slice aq q.length cq) := cells_get hF2.out (k := 0) rfl
    have HOW := hid how
    have HLS := hid hls
    have HM := hid hM
    have HSMF := hid hsmf
    clear how hls hM hb2 hlsl okf hsmf HFL
    go_wp2_with fail
    refine HFD.out.mono ?_
    rintro e w3 ⟨ap3, cp3, an3, cn3, rfl, _, _, hb3⟩
    have hz3 := hb3.size
    obtain ⟨is, his⟩ : ∃ is, (fnd (flsL [] y) q).isSome = is := ⟨_, rfl⟩
    rw [his]
    obtain ⟨fv, hfv⟩ : ∃ fv, (fnd (flsL [] y) q).getD fl0 = fv := ⟨_, rfl⟩
    rw [hfv]
    have HIS := hid his
    have hb3' : Below w2.heap.size w2 (w3.alloc (.cells #[.slice ap3 fv.p.length cp3, .slice an3 fv.l.length cn3] 171)) := hb3.alloc hz3 _
    have HB3 := hid hb3'
    obtain ⟨wa, hwa⟩ : ∃ wa, w3.alloc (.cells #[.slice ap3 fv.p.length cp3, .slice an3 fv.l.length cn3] 171) = wa := ⟨_, rfl⟩
    have HWA := hid hwa
    have hza : wa.heap.size = w3.heap.size + 1 := by rw [← hwa]; simp
    rw [hwa] at HB3
    clear his hfv hb3 hb3' hwa HFD hcF
    cases is with
    | false =>
      have hE : dropE y q = 1 := by rw [dropE, if_neg (by simp [HCK.out]), HIS.out]; rfl
      have HE := hid hE
      clear hE
      go_wp2_with fail
      rw [HWA.out]
      exact bodyPost_ret (v := .tuple #[.slice none 0 0, .int .i64 1]) (by simp [results, Tryz.results48, go_sem]) rfl (DropR.bad HE.out (by decide) (HB2.out.trans (HB3.out.mono (by omega))))
    | true =>
      have hE : dropE y q = 0 := by rw [dropE, if_neg (by simp [HCK.out]), HIS.out]; rfl
      have hY : dropY y q = (treF 0 ((flsL [] y).filter fun x => !blP q x.p)).1 := by rw [dropY, if_pos hE]; rfl
      have HE := hid hE
      have HY := hid hY
      have hne : 0 < (flsL [] y).length := by
        rcases Nat.eq_zero_or_pos (flsL [] y).length with h | h
        · have := HIS.out
          rw [List.eq_nil_of_length_eq_zero h] at this
          cases this
        · exact h
      obtain ⟨_, ⟨_, h00⟩ | ⟨gg, cap, cur, he, hbg, hg, hnc, hcap, _, _⟩⟩ := id HOW.out
      · omega
      cases he
      have hggl : gg < w2.heap.size := (Array.getElem?_eq_some_iff.1 hg).1
      have hag : ∀ b, b < w2.heap.size → wa.heap[b]? = w2.heap[b]? := fun b hb => HB3.out.block b hb
      have hgF : w.heap.size ≠ gg := by omega
      have how2 : wa.ownsRow w1.heap.size 171 2 (.slice (some ⟨gg, 0, none⟩) (flsL [] y).length cf) (flsL [] y).length cs := owns_agree HOW.out fun g hg => hag g (HOW.out.lt g hg).2
      have hls2 : LCs rdFl M wa (flsL [] y) cs := HLS.out.agree fun b hb => hag b (HM.out b hb).2.1
      have DEL := hid (del_flat 131 enters131 (fun i => blP q ((flsL [] y).getD i fl0).p) [.pointer (some ⟨w.heap.size, 0, none⟩)] (flsL [] y).length w1.heap.size gg cf cs wa how2 (fun j hj => by
        obtain ⟨ap, cp, an, cn, e1, e2, _⟩ := flat_cells hls2 hj
        exact ⟨ap, _, cp, an, _, cn, e1, e2⟩) (by omega) (fun i hi W hW => by
        obtain ⟨ap, cp, an, cn, e1, e2, hp⟩ := flat_cells hls2 hi
        have hgd : (flsL [] y).getD i fl0 = (flsL [] y)[i] := by simp [List.getD_eq_getElem?_getD, hi]
        have hel : elemV 2 cs i = .agg #[.slice ap (flsL [] y)[i].p.length cp, .slice an (flsL [] y)[i].l.length cn] := by simp [elemV, List.range_succ, e1, e2, -List.getD_eq_getElem?_getD]
        rw [hel, hgd]
        have hzW := hW.size
        have hpM : Pth M W (.slice ap (flsL [] y)[i].p.length cp) (flsL [] y)[i].p := hp.agree fun b hb => hW.block b (by have := (HM.out b hb).2.1; omega) (fun e => (HM.out b hb).2.2 (by rw [e]; rfl))
        have hqT : Pth T W (.slice aq q.length cq) q := HQ.out.agree fun b hb => (hW.block b (by have := HT.out b hb; have := HB2.out.size; omega) (fun e => by
          have := HT.out b hb
          have : gg = b := by simpa using e.symm
          omega)).trans ((hag b (by have := HT.out b hb; have := HB2.out.size; omega)).trans (HB2.out.block b (HT.out b hb)))
        refine drop1_any (flsL [] y)[i] q ap an aq cp cn cq w.heap.size (fun b => M b ∨ T b) W (hpM.wide fun b hb => .inl hb) (hqT.wide fun b hb => .inr hb) (fun b hb => ?_) (HSMF.out _ (List.getElem_mem hi)).1 lq (by omega) ?_
        · rcases hb with hb | hb
          · have := (HM.out b hb).2.1; omega
          · have := HT.out b hb; omega
        · rw [World.cell?_of_block (a := ⟨w.heap.size, 0, none⟩) ((hW.block w.heap.size (by omega) (fun e => hgF (Option.some.inj e))).trans (hag _ (by omega)))]
          exact cells_get hF2.out (k := 0) rfl))
      clear how2 hls2 hE hY hg HOW
      have HAG := hid hag
      clear hag
      go_wp2_with fail
      rw [HWA.out]
      go_wp2_with fail
      refine DEL.out.mono ?_
      rintro e w4 ⟨rfl, hown4, hgr4⟩
      obtain ⟨k1, k2⟩ := kp_lcs (HLS.out.agree fun b hb => HAG.out b (HM.out b hb).2.1) (p := fun i => blP q ((flsL [] y).getD i fl0).p) (pr := fun x => blP q x.p) (fun i hi => by simp [List.getD_eq_getElem?_getD, hi]) (flsL [] y).length (Nat.le_refl _)
      rw [List.take_length] at k1 k2
      rw [k2] at hown4 ⊢
      have hz4 := hgr4.size
      obtain ⟨l2, hl2⟩ : ∃ l2, (flsL [] y).filter (fun x => !blP q x.p) = l2 := ⟨_, rfl⟩
      rw [hl2] at hown4 k1 ⊢
      have HY2 := HY.out
      rw [hl2] at HY2
      have hlsl : FlSl (fun b => b < w4.heap.size) w4 (.slice (some ⟨gg, 0, none⟩) l2.length cf) l2 := ⟨_, (SlC.of_owns hown4).wide fun b hb => hb.2, (k1.agree (w' := w4) fun b hb => hgr4.block b (by have := (HM.out b hb).2.1; omega) (fun e => (HM.out b hb).2.2 (by rw [e]; rfl))).wide fun b hb => by have := (HM.out b hb).2.1; omega⟩
      have hll2 : l2.length ≤ 1000 := by rw [← hl2]; exact Nat.le_trans (List.length_filter_le _ _) (by omega)
      have hsm2 : SmF l2 := fun x hx => HSMF.out x (by rw [← hl2] at hx; exact (List.mem_filter.1 hx).1)
      have TR := hid (tree_any l2 (some ⟨gg, 0, none⟩) cf _ w4 hlsl (fun b hb => hb) hll2 hsm2)
      have hB4 : Below w.heap.size w w4 := by
        have hB3 := HB2.out.trans (HB3.out.mono (by omega))
        exact hB3.grown hgr4 (by omega) (fun b hb => by cases hb; omega)
      have HB4 := hid hB4
      have HY2 := hid HY2
      clear hB4 hlsl hown4 hgr4 k1 k2 hl2 hll2 hsm2 DEL
      go_wp2_with fail
      refine TR.out.mono ?_
      rintro e w5 ⟨a5, c5, rfl, hF5, hb5⟩
      have hz5 := hb5.size
      have hB5 := HB4.out.trans (hb5.mono HB4.out.size)
      have hzz := HB4.out.size
      clear hb5
      go_wp2_with fail
      refine bodyPost_ret (v := .tuple #[.slice a5 (treF 0 l2).1.len c5, .int .i64 0]) (by simp [results, Tryz.results48, go_sem]) rfl ?_
      unfold DropR
      rw [HE.out, HY2.out]
      exact ⟨a5, c5, rfl, hF5.wide fun b hb => ⟨by have := hb.1; omega, hb.2⟩, hB5⟩
  · have hE : dropE y q = chkY y := by rw [dropE, if_pos hc]
    obtain ⟨x, hx⟩ : ∃ x, chkY y = x := ⟨_, rfl⟩
    rw [hx] at hE hc HC
    have hc' : ¬ x = 0 := hc
    have HE := hid hE
    clear hE hx hc
    go_enter Tryz.func48, Tryz.ntmps48
    go_wp2_with fail
    refine HC.out.mono ?_
    rintro e w1 ⟨rfl, hb1⟩
    have hB1 := HB0.out.trans (hb1.mono (by simp))
    clear hb1
    go_wp2_with fail
    exact bodyPost_ret (v := .tuple #[.slice none 0 0, .int .i64 x]) (by simp [results, Tryz.results48, go_sem]) rfl (DropR.bad HE.out hc' hB1)
end Go.Proofs.LF
namespace Go.Proofs.LF
open Go.RowKit Go.Sort
theorem rfd_none_of {l : List Fl} {p : List Ky} (h : ∀ x ∈ l, x.p ≠ p) : rfd l p = none := by
  rw [rfd, List.find?_eq_none]
  intro x hx
  simpa using h x hx
theorem cmpP_ne {a b : List Ky} (h : cmpP a b < 0) : a ≠ b := fun e => by rw [e, cmpP_ord.refl] at h; omega
theorem cmpP_dropLast : ∀ {p : List Ky}, p ≠ [] → cmpP p.dropLast p < 0
  | [], h => absurd rfl h
  | [a], _ => by simp [cmpP]
  | a :: b :: p, _ => by
    have h := cmpP_dropLast (p := b :: p) (by simp)
    have e : byK a a = 0 := byK_ord.refl a
    rw [List.dropLast_cons_of_ne_nil (by simp), cmpP, if_neg (by simp [e])]
    exact h
theorem jnR_at {o a b : List Fl} : ∀ (ps : List (List Ky)) (kept : List Fl) (named : List (List Ky)), SrtP ps → (∀ x ∈ kept, ∀ p ∈ ps, cmpP x.p p < 0) → (∀ q ∈ named, ∀ p ∈ ps, q ≠ p) → ∀ r,
    (r ∈ ps → r ∉ (jnR o a b ps kept named).2 → rfd (jnR o a b ps kept named).1 r = frR o a b r ∧ clB o a b r = false) ∧
    (r ∈ ps → r ∈ (jnR o a b ps kept named).2 → ∀ x, rfd (jnR o a b ps kept named).1 r = some x → clB o a b r = true ∧ frR o a b r = some x) ∧
    (r ∉ ps → rfd (jnR o a b ps kept named).1 r = rfd kept r ∧ (r ∈ (jnR o a b ps kept named).2 ↔ r ∈ named))
  | [], kept, named, _, _, _, r => ⟨(fun h => by cases h), (fun h => by cases h), fun _ => ⟨rfl, Iff.rfl⟩⟩
  | p :: ps, kept, named, hs, hk, hn, r => by
    obtain ⟨s1, s2⟩ := List.pairwise_cons.1 hs
    have hk' : ∀ x ∈ kept, ∀ q ∈ ps, cmpP x.p q < 0 := fun x hx q hq => hk x hx q (by simp [hq])
    have hpn : p ∉ ps := fun h => cmpP_ne (s1 p h) rfl
    have hnp : p ∉ named := fun h => hn p h p (by simp) rfl
    have hkp : rfd kept p = none := rfd_none_of fun x hx => cmpP_ne (hk x hx p (by simp))
    have hn1 : ∀ q ∈ named ++ [p], ∀ p' ∈ ps, q ≠ p' := fun q hq p' hp' => by
      rcases List.mem_append.1 hq with h | h
      · exact hn q h p' (by simp [hp'])
      · simp only [List.mem_singleton] at h; rw [h]; exact fun e => hpn (e ▸ hp')
    have hn2 : ∀ q ∈ (if clB o a b p then named ++ [p] else named), ∀ p' ∈ ps, q ≠ p' := fun q hq p' hp' => by
      split at hq
      · exact hn1 q hq p' hp'
      · exact hn q hq p' (by simp [hp'])
    have hmem : (p ∈ (if clB o a b p then named ++ [p] else named)) ↔ clB o a b p = true := by
      split
      · rename_i h; simp [h]
      · rename_i h; simp [h, hnp]
    have hmem2 : r ≠ p → ((r ∈ (if clB o a b p then named ++ [p] else named)) ↔ r ∈ named) := fun hr => by
      split <;> simp [hr]
    have hmem3 : r ≠ p → ((r ∈ named ++ [p]) ↔ r ∈ named) := fun hr => by simp [hr]
    rw [jnR]
    cases hf : frR o a b p with
    | none =>
      simp only
      have ih := jnR_at (o := o) (a := a) (b := b) ps kept (if clB o a b p then named ++ [p] else named) s2 hk' hn2
      by_cases hr : r = p
      · subst hr
        obtain ⟨e1, e2⟩ := (ih r).2.2 hpn
        rw [e1, e2, hmem, hkp, hf]
        exact ⟨fun _ h => ⟨rfl, by simpa using h⟩, (fun _ _ x h => by cases h), fun h => absurd (by simp) h⟩
      · refine ⟨fun h => (ih r).1 ((List.mem_cons.1 h).resolve_left hr), fun h => (ih r).2.1 ((List.mem_cons.1 h).resolve_left hr), fun h => ?_⟩
        obtain ⟨e1, e2⟩ := (ih r).2.2 (fun h' => h (by simp [h']))
        exact ⟨e1, e2.trans (hmem2 hr)⟩
    | some x =>
      simp only
      have hxp := (frR_p hf).1
      split
      · have ih := jnR_at (o := o) (a := a) (b := b) ps kept (named ++ [p]) s2 hk' hn1
        by_cases hr : r = p
        · subst hr
          obtain ⟨e1, e2⟩ := (ih r).2.2 hpn
          rw [e1, e2, hkp]
          exact ⟨fun _ h => absurd (by simp) h, (fun _ _ x h => by cases h), fun h => absurd (by simp) h⟩
        · refine ⟨fun h => (ih r).1 ((List.mem_cons.1 h).resolve_left hr), fun h => (ih r).2.1 ((List.mem_cons.1 h).resolve_left hr), fun h => ?_⟩
          obtain ⟨e1, e2⟩ := (ih r).2.2 (fun h' => h (by simp [h']))
          exact ⟨e1, e2.trans (hmem3 hr)⟩
      · have hk2 : ∀ z ∈ kept ++ [x], ∀ q ∈ ps, cmpP z.p q < 0 := fun z hz q hq => by
          rcases List.mem_append.1 hz with h | h
          · exact hk' z h q hq
          · simp only [List.mem_singleton] at h; rw [h, hxp]; exact s1 q hq
        have ih := jnR_at (o := o) (a := a) (b := b) ps (kept ++ [x]) (if clB o a b p then named ++ [p] else named) s2 hk2 hn2
        by_cases hr : r = p
        · subst hr
          obtain ⟨e1, e2⟩ := (ih r).2.2 hpn
          have e3 : rfd (kept ++ [x]) r = some x := by
            rw [rfd, List.find?_append]
            rw [show (kept.find? fun x => decide (x.p = r)) = none from hkp]
            simp [hxp]
          rw [e1, e2, hmem, e3, hf]
          exact ⟨fun _ h => ⟨rfl, by simpa using h⟩, fun _ h y hy => ⟨h, by rw [hy]⟩, fun h => absurd (by simp) h⟩
        · refine ⟨fun h => (ih r).1 ((List.mem_cons.1 h).resolve_left hr), fun h => (ih r).2.1 ((List.mem_cons.1 h).resolve_left hr), fun h => ?_⟩
          obtain ⟨e1, e2⟩ := (ih r).2.2 (fun h' => h (by simp [h']))
          refine ⟨e1.trans ?_, e2.trans (hmem2 hr)⟩
          rw [rfd, List.find?_append]
          have hx2 : ¬ x.p = r := fun e => hr (by rw [← e, hxp])
          simp only [List.find?_cons, List.find?_nil, hx2, decide_false]
          rw [rfd]
          cases kept.find? (fun x => decide (x.p = r)) <;> rfl
theorem filtM_self {a : List Fl} (ha : Srt a) : ∀ {ps : List (List Ky)}, SrtP ps → (∀ x ∈ a, x.p ∈ ps) → ps.filterMap (rfd a) = a := by
  intro ps hp hin
  have h1 : (ps.filterMap (rfd a)).map Fl.p = a.map Fl.p := by
    refine srtP_ext ?_ ha.paths fun q => ?_
    · have : (ps.filterMap (rfd a)).map Fl.p = ps.filter (fun p => (rfd a p).isSome) := by
        clear hin hp
        induction ps with
        | nil => rfl
        | cons p ps ih =>
          rw [List.filterMap_cons, List.filter_cons]
          cases hr : rfd a p with
          | none => simpa using ih
          | some x => simp [ih, (rfd_some hr).2]
      rw [this]
      exact hp.sublist List.filter_sublist
    · rw [List.mem_map, List.mem_map]
      constructor
      · rintro ⟨x, hx, rfl⟩
        obtain ⟨p, _, hp2⟩ := List.mem_filterMap.1 hx
        exact ⟨x, (rfd_some hp2).1, rfl⟩
      · rintro ⟨x, hx, rfl⟩
        have hs : (rfd a x.p).isSome = true := rfd_iff.2 (List.mem_map.2 ⟨x, hx, rfl⟩)
        obtain ⟨z, hz⟩ := Option.isSome_iff_exists.1 hs
        exact ⟨z, List.mem_filterMap.2 ⟨x.p, hin x hx, hz⟩, (rfd_some hz).2⟩
  have h2 : ∀ x ∈ ps.filterMap (rfd a), x ∈ a := fun x hx => by
    obtain ⟨p, _, hp2⟩ := List.mem_filterMap.1 hx
    exact (rfd_some hp2).1
  have hnd := ha.paths.nodup
  have key : ∀ (l : List Fl), l.map Fl.p = a.map Fl.p → (∀ x ∈ l, x ∈ a) → l = a := by
    intro l h1 h2
    have hlen : l.length = a.length := by have := congrArg List.length h1; simpa using this
    refine List.ext_getElem hlen fun i hi hj => ?_
    have e1 : l[i].p = a[i].p := by
      have : (l.map Fl.p)[i]'(by simpa using hi) = (a.map Fl.p)[i]'(by simpa using hj) := by simp only [h1]
      simpa using this
    obtain ⟨j, hj', e2⟩ := List.getElem_of_mem (h2 l[i] (List.getElem_mem hi))
    have e3 : j = i := by
      have h4 : (a.map Fl.p)[j]'(by simpa using hj') = (a.map Fl.p)[i]'(by simpa using hj) := by simp [e2, e1]
      have hp := List.pairwise_iff_getElem.1 hnd
      rcases Nat.lt_trichotomy j i with h | h | h
      · exact absurd h4 (hp j i _ _ h)
      · exact h
      · exact absurd h4.symm (hp i j _ _ h)
    subst e3
    exact e2.symm
  exact key _ h1 h2
theorem lsF_clo {a : List Fl} (ha : Srt a) (hc : Clo a) (hne : ∀ x ∈ a, x.p ≠ []) : ∀ (k r : List Fl), a = k ++ r → lsF k [] r = (a, [])
  | k, [], e => by rw [e]; simp [lsF]
  | k, f :: r, e => by
    have hk : Srt k := by rw [e] at ha; exact (List.pairwise_append.1 ha).1
    rw [lsF, if_pos, lsF_clo ha hc hne (k ++ [f]) r (by rw [e]; simp)]
    by_cases h1 : f.p.length = 1
    · exact .inr h1
    · left
      have hf : f ∈ a := by rw [e]; simp
      have hfp : f.p.dropLast ≠ [] := fun h => by
        have h2 := congrArg List.length h
        rw [List.length_dropLast] at h2
        have h3 : f.p.length ≠ 0 := fun h => hne f hf (List.eq_nil_of_length_eq_zero h)
        simp at h2
        omega
      obtain ⟨z, hz, hzp⟩ := hc f hf hfp
      have hzk : z ∈ k := by
        rw [e] at hz
        rcases List.mem_append.1 hz with h | h
        · exact h
        · exfalso
          have hlt : 0 ≤ cmpP z.p f.p := by
            rcases List.mem_cons.1 h with h | h
            · rw [h, cmpP_ord.refl]; omega
            · have h4 := ha
              rw [e] at h4
              have h5 := (List.pairwise_cons.1 (List.pairwise_append.1 h4).2.1).1 z h
              have := cmpP_ord.flip h5
              omega
          have hlt2 : cmpP z.p f.p < 0 := by
            rw [hzp]
            exact cmpP_dropLast (hne f hf)
          omega
      rw [fnd_rfd hk]
      exact rfd_iff.2 (List.mem_map.2 ⟨z, hzk, hzp⟩)
theorem clo_fls {y : Fo} : Clo (flsL [] y) := fun x hx h => by
  rcases fls_clo y [] x hx with h1 | h1
  · exact absurd h1 h
  · exact h1
theorem join_one {o a b : List Fl} (ho : Srt o) (ha : Srt a) (hb : Srt b) (hc : Clo a) (hg : ∀ l ∈ [o, a, b], ∀ x ∈ l, GoodP x.p ∧ x.p ≠ []) (hcl : ∀ p, clB o a b p = false) (hfr : ∀ p, frR o a b p = rfd a p) :
    (lsF [] [] (jnF o a b [] [] (pthsF [o, a, b])).1).1 = a ∧ srtP (cnF (jnF o a b [] [] (pthsF [o, a, b])).2 (lsF [] [] (jnF o a b [] [] (pthsF [o, a, b])).1).2) = [] := by
  obtain ⟨h5, h6⟩ := pths_spec (fun l hl x hx => (hg l hl x hx).1)
  have hJ : jnF o a b [] [] (pthsF [o, a, b]) = (a, []) := by
    rw [jnF_eq ho ha hb]
    have e1 : (pthsF [o, a, b]).filterMap (frR o a b) = a := by
      rw [show frR o a b = rfd a from funext hfr]
      exact filtM_self ha h5 fun x hx => (h6 x.p).2 ⟨a, by simp, List.mem_map.2 ⟨x, hx, rfl⟩⟩
    have e2 : (pthsF [o, a, b]).filter (clB o a b) = [] := List.filter_eq_nil_iff.2 fun p _ => by simp [hcl p]
    rw [e1, e2]
    rfl
  rw [hJ]
  simp only
  rw [lsF_clo ha hc (fun x hx => (hg a (by simp) x hx).2) [] a rfl]
  exact ⟨rfl, rfl⟩
theorem eqR_self (a : List Fl) (p : List Ky) : eqR a a p = true := by unfold eqR; cases rfd a p <;> simp
theorem joined_one {y a b : Fo} (ky : chkY y = 0) (ka : chkY a = 0) (kb : chkY b = 0) (hcl : ∀ p, clB (flsL [] y) (flsL [] a) (flsL [] b) p = false) (hfr : ∀ p, frR (flsL [] y) (flsL [] a) (flsL [] b) p = rfd (flsL [] a) p) :
    joE y a b = 0 ∧ joY y a b = a ∧ joP y a b = [] := by
  have hcp : cpE [y, a, b] = 0 := by simp [cpE, ky, ka, kb]
  have hg : ∀ l ∈ [flsL [] y, flsL [] a, flsL [] b], ∀ q ∈ l, GoodP q.p ∧ q.p ≠ [] := fun l hl q hq => by
    simp only [List.mem_cons, List.not_mem_nil, or_false] at hl
    rcases hl with rfl | rfl | rfl
    · exact ⟨fls_good ky q hq, flsL_ne q hq⟩
    · exact ⟨fls_good ka q hq, flsL_ne q hq⟩
    · exact ⟨fls_good kb q hq, flsL_ne q hq⟩
  obtain ⟨h1, h2⟩ := join_one (fls_srt ky) (fls_srt ka) (fls_srt kb) clo_fls hg hcl hfr
  have hjo : joF y a b = (flsL [] a, []) := Prod.ext h1 h2
  have hE : joE y a b = 0 := by
    rw [joE, if_neg (by simp [hcp]), hjo, if_neg]
    have := (fls_ok ka).2.2
    simp only
    omega
  refine ⟨hE, ?_, ?_⟩
  · rw [joY, if_pos hE, hjo]; exact treF_flsL a
  · rw [joP, if_pos hE, hjo]
theorem joined_base {y a : Fo} (ky : chkY y = 0) (ka : chkY a = 0) : joE y a y = 0 ∧ joY y a y = a ∧ joP y a y = [] :=
  joined_one ky ka ky (fun p => by simp [clB, eqR_self]) (fun p => by
    rw [frR, if_neg (by simp [clB, eqR_self])]
    split
    · rename_i h; exact rfd_same h
    · rfl)
theorem joined_self {y a : Fo} (ky : chkY y = 0) (ka : chkY a = 0) : joE y a a = 0 ∧ joY y a a = a ∧ joP y a a = [] :=
  joined_one ky ka ka (fun p => by simp [clB, eqR_self]) (fun p => by
    rw [frR, if_neg (by simp [clB, eqR_self])]
    split <;> rfl)
def EqA (x y : Fo) (r : List Ky) : Prop := isAt x r = isAt y r ∧ nsAt x r = nsAt y r
theorem eqA_iff {x y : Fo} {r : List Ky} : eqR (flsL [] x) (flsL [] y) r = true ↔ EqA x y r := by
  unfold eqR EqA isAt nsAt
  cases rfd (flsL [] x) r <;> cases rfd (flsL [] y) r <;> simp
theorem eqA_of {x y : Fo} {r : List Ky} (h : rfd (flsL [] x) r = rfd (flsL [] y) r) : EqA x y r := by
  unfold EqA isAt nsAt
  rw [h]
  exact ⟨rfl, rfl⟩
theorem joined_two {y a b : Fo} (ky : chkY y = 0) (ka : chkY a = 0) (kb : chkY b = 0) (h : joE y a b = 0) : (joY y a b).cnt ≤ 60 ∧ ∀ r, r ∈ evP [] a ∨ r ∈ evP [] b →
    (EqA y b r → r ∉ joP y a b → EqA (joY y a b) a r) ∧ (EqA y a r → r ∉ joP y a b → EqA (joY y a b) b r) ∧ (r ∈ joP y a b → isAt (joY y a b) r = true → isAt y r = true ∧ nsAt (joY y a b) r = nsAt y r) ∧ (¬ EqA y a r → ¬ EqA y b r → r ∉ joP y a b → EqA a b r) := by
  have hcp : cpE [y, a, b] = 0 := by simp [cpE, ky, ka, kb]
  have hg : ∀ l ∈ [flsL [] y, flsL [] a, flsL [] b], ∀ q ∈ l, GoodP q.p ∧ q.p ≠ [] := fun l hl q hq => by
    simp only [List.mem_cons, List.not_mem_nil, or_false] at hl
    rcases hl with rfl | rfl | rfl
    · exact ⟨fls_good ky q hq, flsL_ne q hq⟩
    · exact ⟨fls_good ka q hq, flsL_ne q hq⟩
    · exact ⟨fls_good kb q hq, flsL_ne q hq⟩
  obtain ⟨h5, h6⟩ := pths_spec (fun l hl x hx => (hg l hl x hx).1)
  obtain ⟨j1, j2, j3, j4⟩ := join_eq (fls_srt ky) (fls_srt ka) (fls_srt kb) hg
  have hjo : joF y a b = jnR (flsL [] y) (flsL [] a) (flsL [] b) (pthsF [flsL [] y, flsL [] a, flsL [] b]) [] [] := j1.symm
  have hK : KOk (joF y a b).1 := fun q hq => by
    rcases j4 q hq with h | h | h
    · exact fls_kok y [] q h
    · exact fls_kok a [] q h
    · exact fls_kok b [] q h
  have hfl : flsL [] (joY y a b) = (joF y a b).1 := by
    rw [joY, if_pos h]
    exact fls_of j2 j3 hK
  have hlen : (joF y a b).1.length ≤ 60 := by
    have h' := h
    rw [joE, if_neg (by simp [hcp])] at h'
    by_cases h60 : 60 < (joF y a b).1.length
    · rw [if_pos h60] at h'; omega
    · omega
  refine ⟨by rw [← flsL_length [], hfl]; exact hlen, fun r hr => ?_⟩
  have hrp : r ∈ pthsF [flsL [] y, flsL [] a, flsL [] b] := (h6 r).2 (by
    rcases hr with hr | hr
    · exact ⟨_, by simp, hr⟩
    · exact ⟨_, by simp, hr⟩)
  have hat := jnR_at (o := flsL [] y) (a := flsL [] a) (b := flsL [] b) (pthsF [flsL [] y, flsL [] a, flsL [] b]) [] [] h5 (fun x hx => by cases hx) (fun x hx => by cases hx) r
  rw [← hjo] at hat
  rw [joP, if_pos h]
  obtain ⟨A1, A2, _⟩ := hat
  rw [← hfl] at A1 A2
  refine ⟨fun e1 hn => ?_, fun e1 hn => ?_, fun hn hi => ?_, fun e1 e2 hn => ?_⟩
  · obtain ⟨k1, k2⟩ := A1 hrp hn
    refine eqA_of (k1.trans ?_)
    have e1' := eqA_iff.2 e1
    rw [frR, k2, if_neg (by simp)]
    split
    · rename_i h2; exact (rfd_same e1').symm.trans (rfd_same h2)
    · rfl
  · obtain ⟨k1, k2⟩ := A1 hrp hn
    refine eqA_of (k1.trans ?_)
    rw [frR, k2, if_neg (by simp), if_pos (eqA_iff.2 e1)]
  · obtain ⟨x, hx⟩ := Option.isSome_iff_exists.1 hi
    obtain ⟨k1, k2⟩ := A2 hrp hn x hx
    rw [frR, if_pos k1] at k2
    have := eqA_of (x := joY y a b) (y := y) (r := r) (hx.trans k2.symm)
    exact ⟨this.1.symm.trans hi, this.2⟩
  · obtain ⟨k1, k2⟩ := A1 hrp hn
    have e1' : eqR (flsL [] y) (flsL [] a) r = false := by
      rw [← Bool.not_eq_true]; exact fun h => e1 (eqA_iff.1 h)
    have e2' : eqR (flsL [] y) (flsL [] b) r = false := by
      rw [← Bool.not_eq_true]; exact fun h => e2 (eqA_iff.1 h)
    have : eqR (flsL [] a) (flsL [] b) r = true := by
      simp only [clB, e1', e2'] at k2
      simpa using k2
    exact eqA_iff.1 this
end Go.Proofs.LF
