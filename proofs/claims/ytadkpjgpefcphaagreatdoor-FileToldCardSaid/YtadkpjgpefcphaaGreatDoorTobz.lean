/- Parts of the proof of a law of layer 11 (file): LfW78b, LfC87, LfW87. The conditions stand in each theorem. -/
import Derived.BigQuiet
import Derived.Deep.AppendLies
import Derived.Deep.Cut
import Derived.Deep.CutBlock
import Derived.Deep.CutRange
import Derived.Deep.QuietTactic
import Derived.Deep.RegionHeld3
import Derived.Laws.ResultCell
import Derived.Outline
import Derived.Test.YtadkpjgpefcphaaGreatDoorProg
import Derived.WalkKit
import Derived.WalkLawsBesides
import Derived.WalkSpells
import Derived.Test.YtadkpjgpefcphaaGreatDoorTobm
import Derived.Test.YtadkpjgpefcphaaGreatDoorTobn
import Derived.Test.YtadkpjgpefcphaaGreatDoorTobo
import Derived.Test.YtadkpjgpefcphaaGreatDoorTobp
import Derived.Test.YtadkpjgpefcphaaGreatDoorTobu
import Derived.Test.YtadkpjgpefcphaaGreatDoorTobx
import Derived.Test.YtadkpjgpefcphaaGreatDoorToby
set_option linter.all false
set_option linter.unusedVariables false
set_option linter.unusedSimpArgs false
namespace Go.Proofs.LF
open Go.RowKit Go.Sort
theorem alike_c (y a b : Fo) (ay aa ab : Option Addr) (cy ca cb : Nat) (W : World) (hy : In W (.slice ay y.len cy) y) (ha : In W (.slice aa a.len ca) a) (hb : In W (.slice ab b.len cb) b) (by_ : Bd y) (ba : Bd a) (bb : Bd b) (ht : Pow W)
    {E : Int} {P : List (List Ky)} (h : cpE [y, a, b] = E ∧ alP y a b = P) :
    Calls Tryz.prog 34 #[.slice ay y.len cy, .slice aa a.len ca, .slice ab b.len cb] W fun e w' => ∃ ap cp, e = .returned (.tuple #[.slice ap P.length cp, .int .i64 E]) ∧ PaIn w' (.slice ap P.length cp) P ∧ Below W.heap.size W w' := by
  obtain ⟨rfl, rfl⟩ := h
  exact (Alike_any y a b ay aa ab cy ca cb _ W hy ha hb (fun _ h => h) by_ ba bb ht).mono fun e w' ⟨a1, c1, he, h1, h3⟩ => ⟨a1, c1, he, h1.wide fun b hb => hb.2, h3⟩
theorem changed_c (y : Fo) (a : Option Addr) (c : Nat) (W w1 : World) (h : PAt W w1) (hy : In W (.slice a y.len c) y) (ho : OkF 0 y) (hc : y.cnt ≤ 300) :
    Calls Tryz.prog 39 #[.pointer (some ⟨W.heap.size, 0, none⟩), .slice a y.len c] w1 fun e w' => ∃ y' a' c', e = .returned (.slice a' y'.len c') ∧ In w' (.slice a' y'.len c') y' ∧ (OkF 0 y' ∧ y'.cnt ≤ 2 * y.cnt + 1) ∧ Below W.heap.size W w' := by
  obtain ⟨h1, h2, h3⟩ := h
  refine (changed_any y a c W.heap.size _ (fun q => q < W.heap.size) w1 hc ho (hy.agree (Agree.of_below h3 (fun _ h => h))) (fun q hq => by omega) h1 (by omega) (fun q hq => by omega)).mono ?_
  rintro e w' ⟨y', a', c', he, hF, ho', hc', _, hk⟩
  exact ⟨y', a', c', he, hF.wide fun b hb => hb.2, ⟨ho', hc'⟩, h3.trans (Keep.below hk (by omega) (fun b hb => by omega))⟩
theorem eqK_c (p q : List Ky) (ap aq : Option Addr) (cp cq : Nat) (W : World) (hp : PtIn W (.slice ap p.length cp) p) (hq : PtIn W (.slice aq q.length cq) q) (lp : p.length ≤ 1000) (lq : q.length ≤ 1000) :
    Calls Tryz.prog 42 #[.slice ap p.length cp, .slice aq q.length cq] W fun e w' => e = .returned (.bool (decide (p = q))) ∧ Below W.heap.size W w' :=
  eqKeys_any p q ap aq cp cq _ W hp hq (by omega) (by omega)
theorem joinB_c (y a : Fo) (ay ay' aa : Option Addr) (cy cy' ca : Nat) (W : World) (hy : In W (.slice ay y.len cy) y) (hy' : In W (.slice ay' y.len cy') y) (ha : In W (.slice aa a.len ca) a) (by_ : Bd y) (ba : Bd a) (ky : chkY y = 0) (ka : chkY a = 0) (ht : Pow W) :
    Calls Tryz.prog 33 #[.slice ay y.len cy, .slice aa a.len ca, .slice ay' y.len cy'] W fun e w' => ∃ aj cj ap cp, e = .returned (.tuple #[.slice aj a.len cj, .slice ap 0 cp, .int .i64 0]) ∧ In w' (.slice aj a.len cj) a ∧ Below W.heap.size W w' :=
  (join_c y a y ay aa ay' cy ca cy' W hy ha hy' by_ ba by_ ht (joined_base ky ka)).mono fun e w' ⟨a1, c1, a2, c2, he, h1, _, h3⟩ => ⟨a1, c1, a2, c2, he, h1, h3⟩
theorem joinS_c (y a : Fo) (ay aa aa' : Option Addr) (cy ca ca' : Nat) (W : World) (hy : In W (.slice ay y.len cy) y) (ha : In W (.slice aa a.len ca) a) (ha' : In W (.slice aa' a.len ca') a) (by_ : Bd y) (ba : Bd a) (ky : chkY y = 0) (ka : chkY a = 0) (ht : Pow W) :
    Calls Tryz.prog 33 #[.slice ay y.len cy, .slice aa a.len ca, .slice aa' a.len ca'] W fun e w' => ∃ aj cj ap cp, e = .returned (.tuple #[.slice aj a.len cj, .slice ap 0 cp, .int .i64 0]) ∧ In w' (.slice aj a.len cj) a ∧ Below W.heap.size W w' :=
  (join_c y a a ay aa aa' cy ca ca' W hy ha ha' by_ ba ba ht (joined_self ky ka)).mono fun e w' ⟨a1, c1, a2, c2, he, h1, _, h3⟩ => ⟨a1, c1, a2, c2, he, h1, h3⟩
theorem alikeD_c (y a : Fo) (D : List Ch) (ay aa aa' : Option Addr) (cy ca ca' : Nat) (W : World) (hy : In W (.slice ay y.len cy) y) (ha : In W (.slice aa a.len ca) a) (ha' : In W (.slice aa' a.len ca') a) (by_ : Bd y) (ba : Bd a) (h : cpE [y, a, a] = 0 ∧ difE y a = 0 ∧ alP y a a = D.map Ch.p) (ht : Pow W) :
    Calls Tryz.prog 34 #[.slice ay y.len cy, .slice aa a.len ca, .slice aa' a.len ca'] W fun e w' => ∃ ap cp, e = .returned (.tuple #[.slice ap D.length cp, .int .i64 0]) ∧ PaIn w' (.slice ap D.length cp) (D.map Ch.p) ∧ Below W.heap.size W w' := by
  refine (alike_c y a a ay aa aa' cy ca ca' W hy ha ha' by_ ba ba ht ⟨h.1, h.2.2⟩).mono ?_
  rintro e w' ⟨a1, c1, he, h1, h2⟩
  rw [List.length_map] at he h1
  exact ⟨a1, c1, he, h1, h2⟩
theorem dif_bd {y a : Fo} (ky : chkY y = 0) (ka : chkY a = 0) : (difL y a).length ≤ 120 ∧ ∀ c ∈ difL y a, c.p.length ≤ 1000 := by
  have fy := fls_ok ky
  have fa := fls_ok ka
  have hde : difE y a = 0 := by simp [difE, ky, ka]
  rw [difL, if_pos hde, dfF]
  refine ⟨Nat.le_trans (List.length_filterMap_le _ _) ?_, fun c hc => ?_⟩
  · have := pths_len (ls := [flsL [] y, flsL [] a])
    have h1 := fy.2.2
    have h2 := fa.2.2
    simp only [List.flatten_cons, List.flatten_nil, List.append_nil, List.length_append] at this
    omega
  · obtain ⟨p, hp, he⟩ := List.mem_filterMap.1 hc
    have hcp : c.p = p := by
      unfold chD at he
      split at he
      · cases he
      · simp only [Option.some.injEq] at he
        rw [← he]
    rw [hcp]
    obtain ⟨u, hu, rfl⟩ := pths_mem hp
    simp only [List.flatten_cons, List.flatten_nil, List.append_nil, List.mem_append] at hu
    rcases hu with hu | hu
    · exact (fy.2.1 u hu).1
    · exact (fa.2.1 u hu).1
theorem joined_bool {y a b Y : Fo} {P : List (List Ky)} {r : List Ky}
    (h : (EqA y b r → r ∉ P → EqA Y a r) ∧ (EqA y a r → r ∉ P → EqA Y b r) ∧ (r ∈ P → isAt Y r = true → isAt y r = true ∧ nsAt Y r = nsAt y r) ∧ (¬ EqA y a r → ¬ EqA y b r → r ∉ P → EqA a b r))
    {nY nA nB nJ : List Int} {iY iA iB iJ nm qYA qYB qJA qJB qJY qAB : Bool} (h1 : nsAt y r = nY) (h2 : nsAt a r = nA) (h3 : nsAt b r = nB) (h4 : nsAt Y r = nJ) (h5 : isAt y r = iY) (h6 : isAt a r = iA) (h7 : isAt b r = iB) (h8 : isAt Y r = iJ)
    (h9 : decide (r ∈ P) = nm) (h10 : decide (nY = nA) = qYA) (h11 : decide (nY = nB) = qYB) (h12 : decide (nJ = nA) = qJA) (h13 : decide (nJ = nB) = qJB) (h14 : decide (nJ = nY) = qJY) (h15 : decide (nA = nB) = qAB) :
    ((iY == iB && qYB) = true → nm = false → iJ = iA ∧ qJA = true) ∧ ((iY == iA && qYA) = true → nm = false → iJ = iB ∧ qJB = true) ∧ (nm = true → iJ = true → iY = true ∧ qJY = true) ∧ ((iY == iA && qYA) = false → (iY == iB && qYB) = false → nm = false → iA = iB ∧ qAB = true) := by
  obtain ⟨k1, k2, k3, k4⟩ := h
  unfold EqA at k1 k2 k4
  rw [h1, h2, h3, h4, h5, h6, h7, h8] at *
  subst h9 h10 h11 h12 h13 h14 h15
  refine ⟨fun e f => ?_, fun e f => ?_, fun e f => ?_, fun e e' f => ?_⟩
  · simp only [Bool.and_eq_true, beq_iff_eq, decide_eq_true_eq, decide_eq_false_iff_not] at e f ⊢
    exact k1 ⟨e.1, e.2⟩ f
  · simp only [Bool.and_eq_true, beq_iff_eq, decide_eq_true_eq, decide_eq_false_iff_not] at e f ⊢
    exact k2 ⟨e.1, e.2⟩ f
  · simp only [decide_eq_true_eq] at e ⊢
    exact k3 e f
  · rw [← Bool.not_eq_true] at e e'
    simp only [Bool.and_eq_true, beq_iff_eq, decide_eq_true_eq, decide_eq_false_iff_not] at e e' f ⊢
    exact k4 e e' f
end Go.Proofs.LF
namespace Go.Proofs.LF
open Go.RowKit Go.Sort
theorem print_c (y : Fo) (a : Option Addr) (c : Nat) (W : World) (hy : In W (.slice a y.len c) y) (hb : Bd y) (ht : Pow W) (h : chkY y = 0) :
    Calls Tryz.prog 22 #[.slice a y.len c] W fun e w' => e = .returned (.tuple #[.string (bs (txtL (nodesL [] y))), .int .i64 0]) ∧ Below W.heap.size W w' := by
  have := Print_any y a c _ W hy (fun _ h => h) hb.1 hb.2.1 hb.2.2 ht
  rwa [if_pos h, h] at this
theorem parse_c (y : Fo) (W : World) (h : chkY y = 0) :
    Calls Tryz.prog 26 #[.string (bs (txtL (nodesL [] y)))] W fun e w' => ∃ a c, e = .returned (.tuple #[.slice a y.len c, .int .i64 0, .int .i64 0, .int .i64 0]) ∧ In w' (.slice a y.len c) y ∧ Below W.heap.size W w' := by
  have hl : (txtL (nodesL [] y)).length ≤ 100000 := by
    rw [txD_txt]
    have := txD_len y 0 (chk_okG h)
    have := chk_cnt h
    simp only [List.length_nil]
    omega
  have hp := prs_txt h
  have hY : prsY (txtL (nodesL [] y)) = y := by rw [prsY, hp, if_pos rfl]; exact treF_flsL y
  have := Parse_any (txtL (nodesL [] y)) W hl
  rw [hY, hp] at this
  exact this.mono fun e w' ⟨a, c, he, hF, hB⟩ => ⟨a, c, he, hF.wide fun b hb => hb.2, hB⟩
theorem text_c (y : Fo) (a : Option Addr) (c : Nat) (W : World) (hy : In W (.slice a y.len c) y) (h : chkY y = 0) :
    Calls Tryz.prog 79 #[.slice a y.len c, .int .i64 0] W fun e w' => e = .returned (.string (bs (txtL (nodesL [] y)))) ∧ Below W.heap.size W w' := by
  rw [txD_txt]
  exact text_all (y.cnt + 1) y 0 a c _ W (Nat.lt_succ_self _) hy (fun _ h => h) (chk_okG h) (by omega) (by have := chk_cnt h; omega)
theorem equalP2_c (y : List (List Ky)) (ay az : Option Addr) (cy cz : Nat) (W : World) (hy : PaIn W (.slice ay y.length cy) y) (hz : PaIn W (.slice az y.length cz) y) (ly : y.length ≤ 1000 ∧ ∀ p ∈ y, p.length ≤ 1000) :
    Calls Tryz.prog 52 #[.slice ay y.length cy, .slice az y.length cz] W fun e w' => e = .returned (.bool true) ∧ Below W.heap.size W w' := by
  have := equalPaths_any y y ay az cy cz _ W hy hz (fun _ h => h) ly.1 ly.1 ly.2 ly.2
  rwa [decide_eq_true rfl] at this
theorem alP_bd {y a b : Fo} (ky : chkY y = 0) (ka : chkY a = 0) (kb : chkY b = 0) : (alP y a b).length ≤ 1000 ∧ ∀ p ∈ alP y a b, p.length ≤ 1000 := by
  have fy := fls_ok ky
  have fa := fls_ok ka
  have fb := fls_ok kb
  rw [alP, if_pos (by simp [cpE, ky, ka, kb])]
  refine ⟨Nat.le_trans (List.length_filter_le _ _) ?_, fun p hp => ?_⟩
  · have := pths3_len fy.2.2 fa.2.2 fb.2.2
    omega
  · obtain ⟨u, hu, rfl⟩ := pths_mem (List.mem_filter.1 hp).1
    simp only [List.flatten_cons, List.flatten_nil, List.append_nil, List.mem_append] at hu
    rcases hu with hu | hu | hu
    · exact (fy.2.1 u hu).1
    · exact (fa.2.1 u hu).1
    · exact (fb.2.1 u hu).1
theorem told_facts {y a b : Fo} (ky : chkY y = 0) (ka : chkY a = 0) (kb : chkY b = 0) : ∃ E Y P L, (joE y a b = E ∧ joY y a b = Y ∧ joP y a b = P) ∧ (joE y b a = E ∧ joY y b a = Y ∧ joP y b a = P) ∧ (cpE [y, a, b] = 0 ∧ alP y a b = L) ∧ (cpE [y, b, a] = 0 ∧ alP y b a = L) ∧
    Bd Y ∧ (P.length ≤ 1000 ∧ ∀ p ∈ P, p.length ≤ 1000) ∧ (L.length ≤ 1000 ∧ ∀ p ∈ L, p.length ≤ 1000) ∧ (E = 0 ∧ chkY Y = 0 ∨ E = 2) := by
  refine ⟨_, _, _, _, ⟨rfl, rfl, rfl⟩, join_symm ky ka kb, ⟨by simp [cpE, ky, ka, kb], rfl⟩, ⟨by simp [cpE, ky, ka, kb], alike_symm ky ka kb⟩, ?_, joP_bd ky ka kb ⟨rfl, rfl, rfl⟩, alP_bd ky ka kb, ?_⟩
  · rcases joE_two ky ka kb with h | h
    · exact joY_bd ky ka kb ⟨h, rfl, rfl⟩
    · rw [joY, if_neg (by omega)]
      exact ⟨by simp [Fo.len], trivial, by simp [Fo.cnt]⟩
  · rcases joE_two ky ka kb with h | h
    · exact .inl ⟨h, joined_chk ky ka kb h⟩
    · exact .inr h
end Go.Proofs.LF
namespace Go.Proofs.LF
open Go.RowKit Go.Sort
set_option maxHeartbeats 4000000
set_option maxRecDepth 100000
attribute [local go_sem] bs_toList bs_size bs_get
def ofI (k : Nat) (y a b : Fo) : Fo := if k = 0 then y else if k = 1 then a else b
theorem FileTold_any (l1 l2 l3 : List Int) (i1 i2 i3 : Option Addr) (k1 k2 k3 : Nat) (w : World) (h1 : ByIn w (.slice i1 l1.length k1) l1) (h2 : ByIn w (.slice i2 l2.length k2) l2) (h3 : ByIn w (.slice i3 l3.length k3) l3) (ht : Pow w) :
    Calls Tryz.prog 13 #[.slice i1 l1.length k1, .slice i2 l2.length k2, .slice i3 l3.length k3] w fun e w' => e = .returned (.bool true) ∧ Below w.heap.size w w' := by
  have HT := hid ht
  have B1 := hid h1
  have B2 := hid h2
  have B3 := hid h3
  have BW := hid (Below.refl w.heap.size w)
  clear ht h1 h2 h3
  go_enter Tryz.func13, Tryz.ntmps13
  go_wp2_with fail
  refine (pile_c l1 i1 k1 w B1.out).mono ?_
  rintro e p1 ⟨rfl, hp⟩
  have HP := hid hp
  clear hp
  go_wp2_with fail
  refine (made_c w p1 HP.out).mono ?_
  rintro e w1 ⟨y, ay, cy, rfl, hF, ho, hb⟩
  replace B2 := hid (B2.out.on hb)
  replace B3 := hid (B3.out.on hb)
  replace BW := hid (BW.out.trans (hb.mono BW.out.size))
  have Hy := hid hF
  have Oy := hid ho
  clear hF ho hb HP
  go_wp2_with fail
  refine (pile_c l2 i2 k2 w1 B2.out).mono ?_
  rintro e p2 ⟨rfl, hp⟩
  have HP := hid hp
  clear hp
  go_wp2_with fail
  refine (changed_c y ay cy w1 p2 HP.out Hy.out Oy.out.1 (by have := Oy.out.2; omega)).mono ?_
  rintro e w2 ⟨a, aa, ca, rfl, hF, ho, hb⟩
  replace B3 := hid (B3.out.on hb)
  replace Hy := hid (Hy.out.on hb)
  replace BW := hid (BW.out.trans (hb.mono BW.out.size))
  have Ha := hid hF
  have Oa := hid ho
  clear hF ho hb HP
  go_wp2_with fail
  refine (pile_c l3 i3 k3 w2 B3.out).mono ?_
  rintro e p3 ⟨rfl, hp⟩
  have HP := hid hp
  clear hp
  go_wp2_with fail
  refine (changed_c y ay cy w2 p3 HP.out Hy.out Oy.out.1 (by have := Oy.out.2; omega)).mono ?_
  rintro e w3 ⟨b, ab, cb, rfl, hF, ho, hb⟩
  replace Hy := hid (Hy.out.on hb)
  replace Ha := hid (Ha.out.on hb)
  replace BW := hid (BW.out.trans (hb.mono BW.out.size))
  have Hb := hid hF
  have Ob := hid ho
  clear hF ho hb HP
  clear B1 B2 B3
  have ny := Oy.out.2
  have na := Oa.out.2
  have nb := Ob.out.2
  have BDy := hid (okF_bd Oy.out.1 (by omega))
  have BDa := hid (okF_bd Oa.out.1 (by omega))
  have BDb := hid (okF_bd Ob.out.1 (by omega))
  have hb := (Below.refl w3.heap.size w3).alloc (Nat.le_refl _) (.cells #[.slice ay y.len cy, .slice aa a.len ca, .slice ab b.len cb] 22)
  have hblk := heap_alloc_new w3 (.cells #[.slice ay y.len cy, .slice aa a.len ca, .slice ab b.len cb] 22)
  go_wp2_with fail
  obtain ⟨w4, hw4⟩ : ∃ w4, w3.alloc (.cells #[.slice ay y.len cy, .slice aa a.len ca, .slice ab b.len cb] 22) = w4 := ⟨_, rfl⟩
  have h34 : w3.heap.size < w4.heap.size := by rw [← hw4]; simp
  rw [hw4] at hb hblk ⊢
  replace Hy := hid (Hy.out.on hb)
  replace Ha := hid (Ha.out.on hb)
  replace Hb := hid (Hb.out.on hb)
  replace BW := hid (BW.out.trans (hb.mono BW.out.size))
  have HBL := hid hblk
  clear hb hw4 hblk
  have HX : Hid (∀ k, k < 3 → ∃ ax cx, w4.cell? ⟨w3.heap.size, k, none⟩ = some (.slice ax (ofI k y a b).len cx) ∧ In w4 (.slice ax (ofI k y a b).len cx) (ofI k y a b) ∧ OkF 0 (ofI k y a b) ∧ (ofI k y a b).cnt ≤ 400) := fun k hk => by
    match k, hk with
    | 0, _ => exact ⟨ay, cy, cells_get HBL.out (k := 0) rfl, Hy.out, Oy.out.1, show y.cnt ≤ 400 by omega⟩
    | 1, _ => exact ⟨aa, ca, cells_get HBL.out (k := 1) rfl, Ha.out, Oa.out.1, show a.cnt ≤ 400 by omega⟩
    | 2, _ => exact ⟨ab, cb, cells_get HBL.out (k := 2) rfl, Hb.out, Ob.out.1, show b.cnt ≤ 400 by omega⟩
  go_loopw [44] (fun i wr => ∃ k : Nat, k ≤ 3 ∧ i = .int .i64 k ∧ Hid (Below w4.heap.size w4 wr) ∧ Hid (∀ j, j < k → (ofI j y a b).cnt ≤ 60)) (fun i _ => 3 - (intOf i).toNat)
  case atStart => exact ⟨0, by omega, rfl, Below.refl _ _, fun j hj => by omega⟩
  case round =>
    obtain ⟨k, hk, rfl, hB, HC⟩ := hrel
    have hzr := hB.out.size
    by_cases hlt : k < 3
    · as_aux_lemma =>
        have hlt' : (k : Int) < 3 := by omega
        obtain ⟨ax, cx, hc, hI, hO, hn⟩ := HX.out k hlt
        obtain ⟨x, hx⟩ : ∃ x, ofI k y a b = x := ⟨_, rfl⟩
        rw [hx] at hc hI hO hn
        have c0 : wr.cell? ⟨w3.heap.size, k, none⟩ = some (.slice ax x.len cx) := below_cell hB.out h34 hc
        have HXX := hid hx
        have HI := hid (hI.on hB.out)
        have HO := hid hO
        have BD := hid (okF_bd hO (by omega))
        have BZ := hid (Below.refl wr.heap.size wr)
        have HTR := hid (HT.out.below (BW.out.trans (hB.out.mono BW.out.size)))
        clear hc hI hO hx
        by_cases cx60 : x.cnt ≤ 60
        rotate_left
        · as_aux_lemma =>
            go_wp2_with fail
            refine (checkE_c x ax cx wr HI.out BD.out (okF_many2 HO.out cx60)).mono ?_
            rintro e u1 ⟨rfl, hb⟩
            replace HI := hid (HI.out.on hb)
            replace BZ := hid (BZ.out.trans (hb.mono BZ.out.size))
            clear hb
            go_wp2_with fail
            refine (few_c x ax cx u1 HI.out HO.out (by omega) (q := true) (by simp; omega)).mono ?_
            rintro e u2 ⟨rfl, hb⟩
            replace HI := hid (HI.out.on hb)
            replace BZ := hid (BZ.out.trans (hb.mono BZ.out.size))
            clear hb
            go_wp2_with fail
            go_ret
            exact ⟨rfl, BW.out.trans ((hB.out.trans (BZ.out.mono hzr)).mono BW.out.size)⟩
        have ck := hid (okF_few HO.out cx60)
        go_wp2_with fail
        refine (checkE_c x ax cx wr HI.out BD.out ck.out).mono ?_
        rintro e v1 ⟨rfl, hb⟩
        replace HI := hid (HI.out.on hb)
        replace BZ := hid (BZ.out.trans (hb.mono BZ.out.size))
        clear hb
        go_wp2_with fail
        refine (print_c x ax cx v1 HI.out BD.out (HTR.out.below BZ.out) ck.out).mono ?_
        rintro e v2 ⟨rfl, hb⟩
        replace HI := hid (HI.out.on hb)
        replace BZ := hid (BZ.out.trans (hb.mono BZ.out.size))
        clear hb
        go_wp2_with fail
        refine (parse_c x v2 ck.out).mono ?_
        rintro e v3 ⟨a9, c9, rfl, hF, hb⟩
        replace HI := hid (HI.out.on hb)
        replace BZ := hid (BZ.out.trans (hb.mono BZ.out.size))
        have HF := hid hF
        clear hF
        clear hb
        go_wp2_with fail
        refine (text_c x ax cx v3 HI.out ck.out).mono ?_
        rintro e v4 ⟨rfl, hb⟩
        replace HI := hid (HI.out.on hb)
        replace HF := hid (HF.out.on hb)
        replace BZ := hid (BZ.out.trans (hb.mono BZ.out.size))
        clear hb
        go_wp2_with fail
        refine (eqY_c x a9 ax c9 cx v4 HF.out HI.out BD.out).mono ?_
        rintro e v5 ⟨rfl, hb⟩
        replace HI := hid (HI.out.on hb)
        replace HF := hid (HF.out.on hb)
        replace BZ := hid (BZ.out.trans (hb.mono BZ.out.size))
        clear hb
        go_wp2_with fail
        go_roundw
        case rel => exact ⟨k + 1, by omega, by go_num, hid (hB.out.trans (BZ.out.mono hzr)), fun j hj => by
          rcases Nat.lt_succ_iff_lt_or_eq.1 hj with h | h
          · exact HC.out j h
          · rw [h, HXX.out]; exact cx60⟩
        case measure => simp [intOf]; omega
    · as_aux_lemma =>
        have hlt' : ¬ (k : Int) < 3 := by omega
        obtain rfl : k = 3 := by omega
        have ky : y.cnt ≤ 60 := HC.out 0 (by omega)
        have ka : a.cnt ≤ 60 := HC.out 1 (by omega)
        have kb : b.cnt ≤ 60 := HC.out 2 (by omega)
        have hb := hB.out
        replace Hy := hid (Hy.out.on hb)
        replace Ha := hid (Ha.out.on hb)
        replace Hb := hid (Hb.out.on hb)
        replace BW := hid (BW.out.trans (hb.mono BW.out.size))
        clear hb hlt hk HC HX
        have cky := okF_few Oy.out.1 ky
        have cka := okF_few Oa.out.1 ka
        have ckb := okF_few Ob.out.1 kb
        obtain ⟨E, Y, P, L, f1, f2, f3, f4, f5, f6, f7, f8⟩ := told_facts cky cka ckb
        have F1 := hid f1
        have F2 := hid f2
        have F3 := hid f3
        have F4 := hid f4
        have BDY := hid f5
        have F6 := hid f6
        have F7 := hid f7
        clear f1 f2 f3 f4 f5 f6 f7 cky cka ckb
        go_wp2_with fail
        refine (join_c y a b ay aa ab cy ca cb wr Hy.out Ha.out Hb.out BDy.out BDa.out BDb.out (HT.out.below BW.out) F1.out).mono ?_
        rintro e g1 ⟨aj, cj, ap, cp, rfl, hJ, hP, hb⟩
        replace Hy := hid (Hy.out.on hb)
        replace Ha := hid (Ha.out.on hb)
        replace Hb := hid (Hb.out.on hb)
        replace BW := hid (BW.out.trans (hb.mono BW.out.size))
        have HJ := hid hJ
        have HP := hid hP
        clear hJ hP F1
        clear hb
        go_wp2_with fail
        refine (join_c y b a ay ab aa cy cb ca g1 Hy.out Hb.out Ha.out BDy.out BDb.out BDa.out (HT.out.below BW.out) F2.out).mono ?_
        rintro e g2 ⟨ak, ck, aq, cq, rfl, hJ, hP, hb⟩
        replace Hy := hid (Hy.out.on hb)
        replace Ha := hid (Ha.out.on hb)
        replace Hb := hid (Hb.out.on hb)
        replace HJ := hid (HJ.out.on hb)
        replace HP := hid (HP.out.on hb)
        replace BW := hid (BW.out.trans (hb.mono BW.out.size))
        have HK := hid hJ
        have HQ := hid hP
        clear hJ hP F2
        clear hb
        go_wp2_with fail
        refine (alike_c y a b ay aa ab cy ca cb g2 Hy.out Ha.out Hb.out BDy.out BDa.out BDb.out (HT.out.below BW.out) F3.out).mono ?_
        rintro e g3 ⟨al, cl, rfl, hL, hb⟩
        replace Hy := hid (Hy.out.on hb)
        replace Ha := hid (Ha.out.on hb)
        replace Hb := hid (Hb.out.on hb)
        replace HJ := hid (HJ.out.on hb)
        replace HP := hid (HP.out.on hb)
        replace HK := hid (HK.out.on hb)
        replace HQ := hid (HQ.out.on hb)
        replace BW := hid (BW.out.trans (hb.mono BW.out.size))
        have HL := hid hL
        clear hL F3
        clear hb
        go_wp2_with fail
        refine (alike_c y b a ay ab aa cy cb ca g3 Hy.out Hb.out Ha.out BDy.out BDb.out BDa.out (HT.out.below BW.out) F4.out).mono ?_
        rintro e g4 ⟨am, cm, rfl, hL, hb⟩
        replace Hy := hid (Hy.out.on hb)
        replace Ha := hid (Ha.out.on hb)
        replace Hb := hid (Hb.out.on hb)
        replace HJ := hid (HJ.out.on hb)
        replace HP := hid (HP.out.on hb)
        replace HK := hid (HK.out.on hb)
        replace HQ := hid (HQ.out.on hb)
        replace HL := hid (HL.out.on hb)
        replace BW := hid (BW.out.trans (hb.mono BW.out.size))
        have HM := hid hL
        clear hL F4
        clear hb
        go_wp2_with fail
        refine (eqY_c Y aj ak cj ck g4 HJ.out HK.out BDY.out).mono ?_
        rintro e g5 ⟨rfl, hb⟩
        replace Hy := hid (Hy.out.on hb)
        replace Ha := hid (Ha.out.on hb)
        replace Hb := hid (Hb.out.on hb)
        replace HJ := hid (HJ.out.on hb)
        replace HP := hid (HP.out.on hb)
        replace HK := hid (HK.out.on hb)
        replace HQ := hid (HQ.out.on hb)
        replace HL := hid (HL.out.on hb)
        replace HM := hid (HM.out.on hb)
        replace BW := hid (BW.out.trans (hb.mono BW.out.size))
        clear hb
        go_wp2_with fail
        refine (equalP2_c P ap aq cp cq g5 HP.out HQ.out F6.out).mono ?_
        rintro e g6 ⟨rfl, hb⟩
        replace Hy := hid (Hy.out.on hb)
        replace Ha := hid (Ha.out.on hb)
        replace Hb := hid (Hb.out.on hb)
        replace HJ := hid (HJ.out.on hb)
        replace HP := hid (HP.out.on hb)
        replace HK := hid (HK.out.on hb)
        replace HQ := hid (HQ.out.on hb)
        replace HL := hid (HL.out.on hb)
        replace HM := hid (HM.out.on hb)
        replace BW := hid (BW.out.trans (hb.mono BW.out.size))
        clear hb
        go_wp2_with fail
        refine (equalP2_c L al am cl cm g6 HL.out HM.out F7.out).mono ?_
        rintro e g7 ⟨rfl, hb⟩
        replace Hy := hid (Hy.out.on hb)
        replace Ha := hid (Ha.out.on hb)
        replace Hb := hid (Hb.out.on hb)
        replace HJ := hid (HJ.out.on hb)
        replace HP := hid (HP.out.on hb)
        replace HK := hid (HK.out.on hb)
        replace HQ := hid (HQ.out.on hb)
        replace HL := hid (HL.out.on hb)
        replace HM := hid (HM.out.on hb)
        replace BW := hid (BW.out.trans (hb.mono BW.out.size))
        clear hb
        rcases f8 with ⟨rfl, hy0⟩ | rfl
        · as_aux_lemma =>
            have HY0 := hid hy0
            clear hy0
            go_wp2_with fail
            refine (checkE_c Y aj cj g7 HJ.out BDY.out HY0.out).mono ?_
            rintro e g8 ⟨rfl, hb⟩
            replace Hy := hid (Hy.out.on hb)
            replace Ha := hid (Ha.out.on hb)
            replace Hb := hid (Hb.out.on hb)
            replace HJ := hid (HJ.out.on hb)
            replace HP := hid (HP.out.on hb)
            replace HK := hid (HK.out.on hb)
            replace HQ := hid (HQ.out.on hb)
            replace HL := hid (HL.out.on hb)
            replace HM := hid (HM.out.on hb)
            replace BW := hid (BW.out.trans (hb.mono BW.out.size))
            clear hb
            go_wp2_with fail
            refine (awake_any g8 (HT.out.below BW.out)).mono ?_
            rintro e z_ ⟨rfl, hb⟩
            replace Hy := hid (Hy.out.on hb)
            replace Ha := hid (Ha.out.on hb)
            replace Hb := hid (Hb.out.on hb)
            replace HJ := hid (HJ.out.on hb)
            replace HP := hid (HP.out.on hb)
            replace HK := hid (HK.out.on hb)
            replace HQ := hid (HQ.out.on hb)
            replace HL := hid (HL.out.on hb)
            replace HM := hid (HM.out.on hb)
            replace BW := hid (BW.out.trans (hb.mono BW.out.size))
            clear hb
            go_wp2_with fail
            go_ret
            exact ⟨rfl, BW.out⟩
        · as_aux_lemma =>
            go_wp2_with fail
            refine (awake_any g7 (HT.out.below BW.out)).mono ?_
            rintro e z_ ⟨rfl, hb⟩
            replace Hy := hid (Hy.out.on hb)
            replace Ha := hid (Ha.out.on hb)
            replace Hb := hid (Hb.out.on hb)
            replace HJ := hid (HJ.out.on hb)
            replace HP := hid (HP.out.on hb)
            replace HK := hid (HK.out.on hb)
            replace HQ := hid (HQ.out.on hb)
            replace HL := hid (HL.out.on hb)
            replace HM := hid (HM.out.on hb)
            replace BW := hid (BW.out.trans (hb.mono BW.out.size))
            clear hb
            go_wp2_with fail
            go_ret
            exact ⟨rfl, BW.out⟩
end Go.Proofs.LF
