/- Parts of the proof of a law of layer 11 (file): LfW66. The conditions stand in each theorem. -/
import Derived.BigQuiet
import Derived.Deep.AppendLies
import Derived.Deep.Cut
import Derived.Deep.CutBlock
import Derived.Deep.CutRange
import Derived.Deep.QuietTactic
import Derived.Deep.RegionHeld3
import Derived.Laws.ResultCell
import Derived.Outline
import Derived.Test.YtadkpjgpefcphaaGreatDoorProg
import Derived.WalkKit
import Derived.WalkLawsBesides
import Derived.WalkSpells
import Derived.Test.YtadkpjgpefcphaaGreatDoorTobk
set_option linter.all false
set_option linter.unusedVariables false
set_option linter.unusedSimpArgs false
namespace Go.Proofs.LF
open Go.RowKit Go.Sort
set_option maxHeartbeats 4000000
set_option maxRecDepth 100000
attribute [local go_sem] bs_toList bs_size bs_get
def alF (o a b : List Fl) (p : List Ky) : Bool := smF a b p && !smF o a p
def alP (x y z : Fo) : List (List Ky) := if cpE [x, y, z] = 0 then (pthsF [flsL [] x, flsL [] y, flsL [] z]).filter (alF (flsL [] x) (flsL [] y) (flsL [] z)) else []
def AlkR (x y z : Fo) (w : World) (e : Ending) (w' : World) : Prop :=
  ∃ a c, e = .returned (.tuple #[.slice a (alP x y z).length c, .int .i64 (cpE [x, y, z])]) ∧ PaSl (Rg w.heap.size w'.heap.size) w' (.slice a (alP x y z).length c) (alP x y z) ∧ Below w.heap.size w w'
theorem filt_tk {l : List (List Ky)} {f : List Ky → Bool} {k : Nat} {p : List Ky} (hk : k < l.length) (hx : l[k] = p) : (l.take (k + 1)).filter f = (l.take k).filter f ++ (if f p then [p] else []) := by
  rw [List.take_succ_eq_append_getElem hk, hx, List.filter_append]
  simp only [List.filter_cons, List.filter_nil]
theorem Alike_any (x y z : Fo) (ax ay az : Option Addr) (cx cy cz : Nat) (S : Nat → Prop) (w : World) (hx : FSl S w (.slice ax x.len cx) x) (hy : FSl S w (.slice ay y.len cy) y) (hz : FSl S w (.slice az z.len cz) z) (hS : ∀ b, S b → b < w.heap.size)
    (lx : x.len ≤ 1000 ∧ x.Sm ∧ x.cnt ≤ 900) (ly : y.len ≤ 1000 ∧ y.Sm ∧ y.cnt ≤ 900) (lz : z.len ≤ 1000 ∧ z.Sm ∧ z.cnt ≤ 900) (ht : Pow w) :
    Calls Tryz.prog 34 #[.slice ax x.len cx, .slice ay y.len cy, .slice az z.len cz] w (AlkR x y z w) := by
  have hb1 : Below w.heap.size w (w.alloc (.cells #[.slice ax x.len cx, .slice ay y.len cy, .slice az z.len cz] 22)) := (Below.refl _ _).alloc (Nat.le_refl _) _
  have hblk := heap_alloc_new w (.cells #[.slice ax x.len cx, .slice ay y.len cy, .slice az z.len cz] 22)
  have hls : LSl rdYs (fun b => S b ∨ b = w.heap.size) (w.alloc (.cells #[.slice ax x.len cx, .slice ay y.len cy, .slice az z.len cz] 22)) (.slice (some ⟨w.heap.size, 0, none⟩) [x, y, z].length 3) [x, y, z] := by
    refine ⟨[.slice ax x.len cx, .slice ay y.len cy, .slice az z.len cz], ⟨rfl, _, 3, rfl, by simp, by simp [maxLen], (fun h => by cases h), .inr ⟨_, 0, rfl, .inr rfl, fun j u hj => ?_⟩⟩,
      _, _, rfl, ⟨ax, cx, rfl, (hx.agree (Agree.of_below hb1 hS)).wide fun b hb => .inl hb⟩, _, _, rfl, ⟨ay, cy, rfl, (hy.agree (Agree.of_below hb1 hS)).wide fun b hb => .inl hb⟩, _, _, rfl, ⟨az, cz, rfl, (hz.agree (Agree.of_below hb1 hS)).wide fun b hb => .inl hb⟩, rfl⟩
    have := cells_get hblk (k := j) (v := u) (by simpa using hj)
    simpa using this
  have HCP := hid (copies_any [x, y, z] (some ⟨w.heap.size, 0, none⟩) 3 _ _ hls (fun b hb => by rcases hb with hb | rfl; have := hS b hb; simp; omega; simp) (by simp) (fun y' hy' => by
    simp only [List.mem_cons, List.not_mem_nil, or_false] at hy'
    rcases hy' with rfl | rfl | rfl
    · exact lx
    · exact ly
    · exact lz))
  have HB1 := hid hb1
  have HT := hid ht
  clear hx hy hz hS hb1 hblk hls ht lx ly lz
  go_enter Tryz.func34, Tryz.ntmps34
  go_wp2_with fail
  refine HCP.out.mono ?_
  rintro e w2 ⟨a2, c2, rfl, hL2, hb2⟩
  have HB2 := hid (HB1.out.trans (hb2.mono (by simp)))
  have hz2 := hb2.size
  simp only [World.size_alloc] at hz2
  clear hb2
  by_cases hc : cpE [x, y, z] = 0
  · have hc' : (cpE [x, y, z] != 0) = false := by simpa using hc
    obtain ⟨q1, q2, q3⟩ := cpE_zero hc
    have fx := fls_ok q1
    have fy := fls_ok q2
    have fz := fls_ok q3
    have hcl : cpL [x, y, z] = [flsL [] x, flsL [] y, flsL [] z] := by rw [cpL, if_pos hc]; rfl
    have hneo := flsL_ne (y := x) (u := [])
    have hnea := flsL_ne (y := y) (u := [])
    have hneb := flsL_ne (y := z) (u := [])
    have hap : alP x y z = (pthsF [flsL [] x, flsL [] y, flsL [] z]).filter (alF (flsL [] x) (flsL [] y) (flsL [] z)) := by rw [alP, if_pos hc]
    have hjo : joF x y z = ((lsF [] [] (jnF (flsL [] x) (flsL [] y) (flsL [] z) [] [] (pthsF [flsL [] x, flsL [] y, flsL [] z])).1).1, srtP (cnF (jnF (flsL [] x) (flsL [] y) (flsL [] z) [] [] (pthsF [flsL [] x, flsL [] y, flsL [] z])).2 (lsF [] [] (jnF (flsL [] x) (flsL [] y) (flsL [] z) [] [] (pthsF [flsL [] x, flsL [] y, flsL [] z])).1).2)) := rfl
    rw [hcl] at hL2 ⊢
    obtain ⟨fo, hfo⟩ : ∃ f, flsL [] x = f := ⟨_, rfl⟩
    obtain ⟨fa, hfa⟩ : ∃ f, flsL [] y = f := ⟨_, rfl⟩
    obtain ⟨fb, hfb⟩ : ∃ f, flsL [] z = f := ⟨_, rfl⟩
    rw [hfo, hfa, hfb] at hL2 hjo hap
    rw [hfo] at fx hneo
    rw [hfa] at fy hnea
    rw [hfb] at fz hneb
    obtain ⟨SL, hSL⟩ : ∃ SL : Nat → Prop, SL = Rg (w.alloc (.cells #[.slice ax x.len cx, .slice ay y.len cy, .slice az z.len cz] 22)).heap.size w2.heap.size := ⟨_, rfl⟩
    rw [← hSL] at hL2
    have hSLt : ∀ b, SL b → b < w2.heap.size := fun b hb => by rw [hSL] at hb; exact hb.2
    obtain ⟨ps, hps⟩ : ∃ ps, pthsF [fo, fa, fb] = ps := ⟨_, rfl⟩
    have hpl : ps.length ≤ 180 := by
      have := pths_len (ls := [fo, fa, fb])
      rw [hps] at this
      have h1 := fx.2.2; have h2 := fy.2.2; have h3 := fz.2.2
      simp at this; omega
    have hpm : ∀ p ∈ ps, p.length ≤ 1000 ∧ ∀ k ∈ p, OkK k := by
      intro p hp
      rw [← hps] at hp
      obtain ⟨u, hu, rfl⟩ := pths_mem hp
      simp only [List.flatten_cons, List.flatten_nil, List.append_nil, List.mem_append] at hu
      rcases hu with hu | hu | hu
      · exact fx.2.1 u hu
      · exact fy.2.1 u hu
      · exact fz.2.1 u hu
    have hpth := paths_any [fo, fa, fb] a2 c2 SL w2 hL2 hSLt (by simp) (by have h1 := fx.2.2; have h2 := fy.2.2; have h3 := fz.2.2; simp; omega) (fun u hu => by
      simp only [List.flatten_cons, List.flatten_nil, List.append_nil, List.mem_append] at hu
      rcases hu with hu | hu | hu
      · exact fx.2.1 u hu
      · exact fy.2.1 u hu
      · exact fz.2.1 u hu) (HT.out.below HB2.out)
    rw [hps] at hpth hjo hap
    have HAP := hid hap
    clear hap
    obtain ⟨aL, cL, heL, hcL, hcmL, hatL⟩ := hL2.at
    obtain ⟨rfl, rfl⟩ : a2 = aL ∧ c2 = cL := by cases heL; exact ⟨rfl, rfl⟩
    obtain ⟨g, o, cs0, rfl, hg, ⟨aO, cO, rfl, hFO⟩, hcell0⟩ := hatL 0 (by simp)
    obtain ⟨g', o', cs1, he1, _, ⟨aA, cA, rfl, hFA⟩, hcell1⟩ := hatL 1 (by simp)
    obtain ⟨rfl, rfl⟩ : g = g' ∧ o = o' := by cases he1; exact ⟨rfl, rfl⟩
    obtain ⟨g', o', cs2, he2, _, ⟨aB, cB, rfl, hFB⟩, hcell2⟩ := hatL 2 (by simp)
    obtain ⟨rfl, rfl⟩ : g = g' ∧ o = o' := by cases he2; exact ⟨rfl, rfl⟩
    have d0 : w2.cell? ⟨g, o, none⟩ = some (.slice aO fo.length cO) := by have := hcell0 0 _ rfl; simpa using this
    have d1 : w2.cell? ⟨g, o + 1, none⟩ = some (.slice aA fa.length cA) := by have := hcell1 0 _ rfl; simpa using this
    have d2 : w2.cell? ⟨g, o + 2, none⟩ = some (.slice aB fb.length cB) := by have := hcell2 0 _ rfl; simpa using this
    simp only [List.getElem_cons_zero, List.getElem_cons_succ] at hFO hFA hFB
    have HD0 := hid d0
    have HD1 := hid d1
    have HD2 := hid d2
    have HFO := hid hFO
    have HFA := hid hFA
    have HFB := hid hFB
    have HPT := hid hpth
    have HJO := hid hjo
    have HPM := hid hpm
    have HC := hid hc
    have SO := hid fx.1
    have SA := hid fy.1
    have SB := hid fz.1
    have lO := fx.2.2
    have lA := fy.2.2
    have lB := fz.2.2
    have NO := hid hneo
    have NA := hid hnea
    have NB := hid hneb
    have hgl : g < w2.heap.size := hSLt g hg
    have HSL := hid hSLt
    unfold maxLen at hcmL
    clear hSL hSLt hc fx fy fz hcl hneo hnea hneb hjo hfo hfa hfb hpm hpth hps hL2 heL hatL hcell0 hcell1 hcell2 he1 he2 hFO hFA hFB d0 d1 d2 q1 q2 q3 HCP
    go_wp2_with fail
    refine HPT.out.mono ?_
    rintro e w3 ⟨a3, c3, rfl, hP3, hb3⟩
    have hz3 := hb3.size
    have HB3 := hid (HB2.out.trans (hb3.mono (by omega)))
    obtain ⟨a', c', he, hc, hcm, hat⟩ := hP3.at
    obtain ⟨rfl, rfl⟩ : a3 = a' ∧ c3 = c' := by cases he; exact ⟨rfl, rfl⟩
    have HAT := hid hat
    have HX3 := hid hb3
    clear hP3 he hat hb3
    unfold maxLen at hcm
    go_wp2_with fail
    have hS3 : ∀ b, (SL b ∨ Rg w2.heap.size w3.heap.size b) → b < w3.heap.size := fun b hb => hb.elim (fun h => by have := HSL.out b h; omega) (fun h => h.2)
    have HS3 := hid hS3
    have HSL3 := hid (show ∀ b, SL b → b < w3.heap.size from fun b hb => by have := HSL.out b hb; omega)
    have HFO3 := hid (LSl.agree HFO.out (Agree.of_below HX3.out HSL.out))
    have HFA3 := hid (LSl.agree HFA.out (Agree.of_below HX3.out HSL.out))
    have HFB3 := hid (LSl.agree HFB.out (Agree.of_below HX3.out HSL.out))
    have d0 := below_cell HX3.out hgl HD0.out
    have d1 := below_cell HX3.out hgl HD1.out
    have d2 := below_cell HX3.out hgl HD2.out
    have HE0 := hid d0
    have HE1 := hid d1
    have HE2 := hid d2
    obtain ⟨j0, hj0, hy0, hy1, hyb⟩ := info_parts Tryz.info65'
    clear hS3 d0 d1 d2
    go_loopw [10, 27] (fun v i wr => ∃ (k : Nat) (acc : List (List Ky)) (cs : List Value), k ≤ ps.length ∧ i = .int .i64 k ∧ acc.length ≤ k ∧ Hid (acc = (ps.take k).filter (alF fo fa fb)) ∧ wr.ownsRow w3.heap.size 65 1 v acc.length cs ∧ Hid (LCs rdPa (Rx w3.heap.size wr.heap.size v) wr acc cs) ∧ Hid (Below w3.heap.size w3 wr)) (fun _ i _ => ps.length - (intOf i).toNat)
    case atStart => exact ⟨0, [], [], by omega, rfl, by simp, rfl, World.ownsRow_nil _ _ _ _, rfl, Below.refl _ _⟩
    case round =>
      obtain ⟨k, acc, cs, hk, rfl, hak, hA, hown, hlc, hB⟩ := hrel
      have hzr := hB.out.size
      by_cases hlt : k < ps.length
      · have hlt' : (k : Int) < (ps.length : Int) := by omega
        obtain ⟨gp, op, csp, rfl, hgp, ⟨ap, cp, rfl, hP⟩, hcell⟩ := HAT.out k hlt
        have c0 := (Agree.of_below hB.out HS3.out).cell hgp (hcell 0 _ rfl)
        rw [Nat.mul_one, Nat.add_zero] at c0
        have hpk := HPM.out ps[k] (List.getElem_mem hlt)
        obtain ⟨p, hp⟩ : ∃ p, ps[k] = p := ⟨_, rfl⟩
        have hdk := filt_tk (f := alF fo fa fb) hlt hp
        rw [hp] at c0 hP hpk
        have SAME : ∀ (W : World), Below w3.heap.size w3 W → (Calls Tryz.prog 116 #[.slice aA fa.length cA, .slice aB fb.length cB, .slice ap p.length cp] W fun e w' => e = .returned (.bool (smF fa fb p)) ∧ Below W.heap.size W w') ∧
            (Calls Tryz.prog 116 #[.slice aO fo.length cO, .slice aB fb.length cB, .slice ap p.length cp] W fun e w' => e = .returned (.bool (smF fo fb p)) ∧ Below W.heap.size W w') ∧
            (Calls Tryz.prog 116 #[.slice aO fo.length cO, .slice aA fa.length cA, .slice ap p.length cp] W fun e w' => e = .returned (.bool (smF fo fa p)) ∧ Below W.heap.size W w') ∧
            (Calls Tryz.prog 117 #[.slice ap p.length cp] W fun e w' => ∃ a' c', e = .returned (.slice a' p.length c') ∧ Pth (Rg W.heap.size w'.heap.size) w' (.slice a' p.length c') p ∧ Below W.heap.size W w') := fun W hW => by
          have hs := hW.size
          have hA := Agree.of_below hW HSL3.out
          have hA3 := Agree.of_below hW HS3.out
          have hl : ∀ b, SL b → b < W.heap.size := fun b hb => by have := HSL3.out b hb; omega
          have hl3 : ∀ b, (SL b ∨ Rg w2.heap.size w3.heap.size b) → b < W.heap.size := fun b hb => by have := HS3.out b hb; omega
          exact ⟨same_any fa fb p aA aB ap cA cB cp SL SL _ W (LSl.agree HFA3.out hA) hl (LSl.agree HFB3.out hA) hl (hP.agree hA3) hl3 (by omega) (by omega) SA.out SB.out hpk.1,
            same_any fo fb p aO aB ap cO cB cp SL SL _ W (LSl.agree HFO3.out hA) hl (LSl.agree HFB3.out hA) hl (hP.agree hA3) hl3 (by omega) (by omega) SO.out SB.out hpk.1,
            same_any fo fa p aO aA ap cO cA cp SL SL _ W (LSl.agree HFO3.out hA) hl (LSl.agree HFA3.out hA) hl (hP.agree hA3) hl3 (by omega) (by omega) SO.out SA.out hpk.1,
            cloneK_any p ap cp _ W (hP.agree hA3) hl3 hpk.1⟩
        have HSA := hid SAME
        have HP := hid hP
        have HPK := hid hpk
        have HDK := hid hdk
        have r0 := below_cell hB.out (show g < w3.heap.size by omega) HE0.out
        have r1 := below_cell hB.out (show g < w3.heap.size by omega) HE1.out
        have r2 := below_cell hB.out (show g < w3.heap.size by omega) HE2.out
        have hgr : g < wr.heap.size := by omega
        clear SAME hcell hP hpk hdk hp
        have hbd : Below wr.heap.size wr wr.drew := (Below.refl _ _).drew
        have CSL : ∀ (W : World), Below wr.heap.size wr W → W.cell? ⟨g, o, none⟩ = some (.slice aO fo.length cO) ∧ W.cell? ⟨g, o + 1, none⟩ = some (.slice aA fa.length cA) ∧ W.cell? ⟨g, o + 2, none⟩ = some (.slice aB fb.length cB) := fun W hW => ⟨below_cell hW hgr r0, below_cell hW hgr r1, below_cell hW hgr r2⟩
        have KEEP : ∀ (W : World), Below wr.heap.size wr W → W.ownsRow w3.heap.size 65 1 u10 acc.length cs ∧ LCs rdPa (Rx w3.heap.size W.heap.size u10) W acc cs ∧ Below w3.heap.size w3 W := fun W hW =>
          ⟨owns_below hown hW (Nat.le_refl _), (hlc.out.agree (Agree.of_below hW (fun b hb => hb.2.1))).wide (fun b hb => ⟨hb.1, by have := hb.2.1; have := hW.size; omega, hb.2.2⟩), hB.out.trans (hW.mono hzr)⟩
        have HKEEP := hid KEEP
        have HCS := hid CSL
        have HBD := hid hbd
        have HS0 := hid (CSL wr.drew hbd)
        clear KEEP hbd CSL
        cases h1 : smF fa fb p with
        | false =>
          have hal : alF fo fa fb p = false := by rw [alF, h1]; rfl
          have H1 := hid h1
          have HAL := hid hal
          clear h1 hal
          go_wp2_with fail
          refine (wpIn_wide (n := 9)).1 ?_
          refine region_held (fun w' : World => w'.cell? ⟨g, o, none⟩ = some (.slice aO fo.length cO) ∧ w'.cell? ⟨g, o + 1, none⟩ = some (.slice aA fa.length cA) ∧ w'.cell? ⟨g, o + 2, none⟩ = some (.slice aB fb.length cB)) (by kernel_rfl) ?_
          have hS0 := HS0.out
          refine AnyH_takeD (fun _ => trivial) (by kernel_rfl) 0 31 (.slice (some ⟨g, o, none⟩) 3 c2) rfl rfl (by kernel_rfl) (by kernel_rfl) (by kernel_rfl) (fun _ _ _ h => h) (.inl ⟨by kernel_rfl, fun w' hs => ?_⟩) hS0 ?_
          · go_simp
          refine AnyH_takeD (fun _ => trivial) (by kernel_rfl) 1 32 (.pointer (some ⟨g, o + 1, none⟩)) rfl rfl (by kernel_rfl) (by kernel_rfl) (by kernel_rfl) (fun _ _ _ h => h) (.inl ⟨by kernel_rfl, fun w' hs => ?_⟩) hS0 ?_
          · go_simp
          refine AnyH_takeD (fun _ => trivial) (by kernel_rfl) 2 33 (.slice aA fa.length cA) rfl rfl (by kernel_rfl) (by kernel_rfl) (by kernel_rfl) (fun _ _ _ h => h) (.inl ⟨by kernel_rfl, fun w' hs => ?_⟩) hS0 ?_
          · obtain ⟨q0, q1, q2⟩ := hs
            go_simp
          refine AnyH_takeD (fun _ => trivial) (by kernel_rfl) 3 34 (.slice (some ⟨g, o, none⟩) 3 c2) rfl rfl (by kernel_rfl) (by kernel_rfl) (by kernel_rfl) (fun _ _ _ h => h) (.inl ⟨by kernel_rfl, fun w' hs => ?_⟩) hS0 ?_
          · go_simp
          refine AnyH_takeD (fun _ => trivial) (by kernel_rfl) 4 35 (.pointer (some ⟨g, o + 2, none⟩)) rfl rfl (by kernel_rfl) (by kernel_rfl) (by kernel_rfl) (fun _ _ _ h => h) (.inl ⟨by kernel_rfl, fun w' hs => ?_⟩) hS0 ?_
          · go_simp
          refine AnyH_takeD (fun _ => trivial) (by kernel_rfl) 5 36 (.slice aB fb.length cB) rfl rfl (by kernel_rfl) (by kernel_rfl) (by kernel_rfl) (fun _ _ _ h => h) (.inl ⟨by kernel_rfl, fun w' hs => ?_⟩) hS0 ?_
          · obtain ⟨q0, q1, q2⟩ := hs
            go_simp
          refine AnyH_takeD (fun _ => trivial) (by kernel_rfl) 6 37 (.slice ap p.length cp) rfl rfl (by kernel_rfl) (by kernel_rfl) (by kernel_rfl) (fun _ _ _ h => h) (.inl ⟨by kernel_rfl, fun w' hs => ?_⟩) hS0 ?_
          · go_simp
          refine AnyH_one (i := 7) (by kernel_rfl) rfl (by kernel_rfl) (fun K hK => ?_)
          go_simp
          refine ⟨trivial, (callsIn_wide.2 (HSA.out _ (hB.out.trans (HBD.out.mono hzr))).1).mono ?_⟩
          rintro e w5 ⟨he5, hb5⟩
          rw [H1.out] at he5
          subst he5
          have hb5' := HBD.out.trans (hb5.mono (by simp))
          have hS5 := HCS.out w5 hb5'
          refine hK _ _ ⟨hS5, ?_⟩
          clear hK
          refine AnyH_takeD (fun _ => trivial) (by kernel_rfl) 8 39 (.bool false) rfl rfl (by kernel_rfl) (by kernel_rfl) (by kernel_rfl) (fun _ _ _ h => h) (.inl ⟨by kernel_rfl, fun w' hs => ?_⟩) hS5 ?_
          · go_simp
          refine AnyH_takeD (fun _ => trivial) (by kernel_rfl) 9 40 undef rfl rfl (by kernel_rfl) (by kernel_rfl) (by kernel_rfl) (fun _ _ _ h => h) (.inr ⟨by kernel_rfl, rfl⟩) hS5 ?_
          refine AnyH_takeD (fun _ => trivial) (by kernel_rfl) 10 41 undef rfl rfl (by kernel_rfl) (by kernel_rfl) (by kernel_rfl) (fun _ _ _ h => h) (.inr ⟨by kernel_rfl, rfl⟩) hS5 ?_
          refine AnyH_takeD (fun _ => trivial) (by kernel_rfl) 11 42 undef rfl rfl (by kernel_rfl) (by kernel_rfl) (by kernel_rfl) (fun _ _ _ h => h) (.inr ⟨by kernel_rfl, rfl⟩) hS5 ?_
          refine AnyH_takeD (fun _ => trivial) (by kernel_rfl) 12 43 undef rfl rfl (by kernel_rfl) (by kernel_rfl) (by kernel_rfl) (fun _ _ _ h => h) (.inr ⟨by kernel_rfl, rfl⟩) hS5 ?_
          refine AnyH_takeD (fun _ => trivial) (by kernel_rfl) 13 44 undef rfl rfl (by kernel_rfl) (by kernel_rfl) (by kernel_rfl) (fun _ _ _ h => h) (.inr ⟨by kernel_rfl, rfl⟩) hS5 ?_
          refine AnyH_takeD (fun _ => trivial) (by kernel_rfl) 14 45 undef rfl rfl (by kernel_rfl) (by kernel_rfl) (by kernel_rfl) (fun _ _ _ h => h) (.inr ⟨by kernel_rfl, rfl⟩) hS5 ?_
          refine AnyH_takeD (fun _ => trivial) (by kernel_rfl) 15 46 undef rfl rfl (by kernel_rfl) (by kernel_rfl) (by kernel_rfl) (fun _ _ _ h => h) (.inr ⟨by kernel_rfl, rfl⟩) hS5 ?_
          refine AnyH_takeD (fun _ => trivial) (by kernel_rfl) 16 47 undef rfl rfl (by kernel_rfl) (by kernel_rfl) (by kernel_rfl) (fun _ _ _ h => h) (.inr ⟨by kernel_rfl, rfl⟩) hS5 ?_
          refine AnyH_takeD (fun _ => trivial) (by kernel_rfl) 17 48 undef rfl rfl (by kernel_rfl) (by kernel_rfl) (by kernel_rfl) (fun _ _ _ h => h) (.inr ⟨by kernel_rfl, rfl⟩) hS5 ?_
          refine AnyH_takeD (fun _ => trivial) (by kernel_rfl) 18 49 (.bool false) rfl rfl (by kernel_rfl) (by kernel_rfl) (by kernel_rfl) (fun _ _ _ h => h) (.inl ⟨by kernel_rfl, fun w' hs => ?_⟩) hS5 ?_
          · go_simp
          refine AnyH_done (by kernel_rfl) ?_
          go_simp
          obtain ⟨k1, k2, k3⟩ := HKEEP.out w5 hb5'
          have K2 := hid k2
          have K3 := hid k3
          clear k2 k3
          go_wp2_with fail
          go_roundw
          case rel => exact ⟨k + 1, acc, cs, by omega, by go_num, by omega, by rw [Hid, HDK.out, HAL.out, ← hA.out]; simp, k1, K2, K3⟩
          case measure => simp [intOf]; omega
        | true =>
          cases h2 : smF fo fa p with
          | true =>
            have hal : alF fo fa fb p = false := by rw [alF, h1, h2]; rfl
            have H1 := hid h1
            have H2 := hid h2
            have HAL := hid hal
            clear h1 h2 hal
            go_wp2_with fail
            refine (wpIn_wide (n := 9)).1 ?_
            refine region_held (fun w' : World => w'.cell? ⟨g, o, none⟩ = some (.slice aO fo.length cO) ∧ w'.cell? ⟨g, o + 1, none⟩ = some (.slice aA fa.length cA) ∧ w'.cell? ⟨g, o + 2, none⟩ = some (.slice aB fb.length cB)) (by kernel_rfl) ?_
            have hS0 := HS0.out
            refine AnyH_takeD (fun _ => trivial) (by kernel_rfl) 0 31 (.slice (some ⟨g, o, none⟩) 3 c2) rfl rfl (by kernel_rfl) (by kernel_rfl) (by kernel_rfl) (fun _ _ _ h => h) (.inl ⟨by kernel_rfl, fun w' hs => ?_⟩) hS0 ?_
            · go_simp
            refine AnyH_takeD (fun _ => trivial) (by kernel_rfl) 1 32 (.pointer (some ⟨g, o + 1, none⟩)) rfl rfl (by kernel_rfl) (by kernel_rfl) (by kernel_rfl) (fun _ _ _ h => h) (.inl ⟨by kernel_rfl, fun w' hs => ?_⟩) hS0 ?_
            · go_simp
            refine AnyH_takeD (fun _ => trivial) (by kernel_rfl) 2 33 (.slice aA fa.length cA) rfl rfl (by kernel_rfl) (by kernel_rfl) (by kernel_rfl) (fun _ _ _ h => h) (.inl ⟨by kernel_rfl, fun w' hs => ?_⟩) hS0 ?_
            · obtain ⟨q0, q1, q2⟩ := hs
              go_simp
            refine AnyH_takeD (fun _ => trivial) (by kernel_rfl) 3 34 (.slice (some ⟨g, o, none⟩) 3 c2) rfl rfl (by kernel_rfl) (by kernel_rfl) (by kernel_rfl) (fun _ _ _ h => h) (.inl ⟨by kernel_rfl, fun w' hs => ?_⟩) hS0 ?_
            · go_simp
            refine AnyH_takeD (fun _ => trivial) (by kernel_rfl) 4 35 (.pointer (some ⟨g, o + 2, none⟩)) rfl rfl (by kernel_rfl) (by kernel_rfl) (by kernel_rfl) (fun _ _ _ h => h) (.inl ⟨by kernel_rfl, fun w' hs => ?_⟩) hS0 ?_
            · go_simp
            refine AnyH_takeD (fun _ => trivial) (by kernel_rfl) 5 36 (.slice aB fb.length cB) rfl rfl (by kernel_rfl) (by kernel_rfl) (by kernel_rfl) (fun _ _ _ h => h) (.inl ⟨by kernel_rfl, fun w' hs => ?_⟩) hS0 ?_
            · obtain ⟨q0, q1, q2⟩ := hs
              go_simp
            refine AnyH_takeD (fun _ => trivial) (by kernel_rfl) 6 37 (.slice ap p.length cp) rfl rfl (by kernel_rfl) (by kernel_rfl) (by kernel_rfl) (fun _ _ _ h => h) (.inl ⟨by kernel_rfl, fun w' hs => ?_⟩) hS0 ?_
            · go_simp
            refine AnyH_one (i := 7) (by kernel_rfl) rfl (by kernel_rfl) (fun K hK => ?_)
            go_simp
            refine ⟨trivial, (callsIn_wide.2 (HSA.out _ (hB.out.trans (HBD.out.mono hzr))).1).mono ?_⟩
            rintro e w5 ⟨he5, hb5⟩
            rw [H1.out] at he5
            subst he5
            have hb5' := HBD.out.trans (hb5.mono (by simp))
            have hS5 := HCS.out w5 hb5'
            refine hK _ _ ⟨hS5, ?_⟩
            clear hK
            refine AnyH_takeD (fun _ => trivial) (by kernel_rfl) 8 39 (.bool true) rfl rfl (by kernel_rfl) (by kernel_rfl) (by kernel_rfl) (fun _ _ _ h => h) (.inl ⟨by kernel_rfl, fun w' hs => ?_⟩) hS5 ?_
            · go_simp
            refine AnyH_takeD (fun _ => trivial) (by kernel_rfl) 9 40 (.slice (some ⟨g, o, none⟩) 3 c2) rfl rfl (by kernel_rfl) (by kernel_rfl) (by kernel_rfl) (fun _ _ _ h => h) (.inl ⟨by kernel_rfl, fun w' hs => ?_⟩) hS5 ?_
            · go_simp
            refine AnyH_takeD (fun _ => trivial) (by kernel_rfl) 10 41 (.pointer (some ⟨g, o, none⟩)) rfl rfl (by kernel_rfl) (by kernel_rfl) (by kernel_rfl) (fun _ _ _ h => h) (.inl ⟨by kernel_rfl, fun w' hs => ?_⟩) hS5 ?_
            · go_simp
            refine AnyH_takeD (fun _ => trivial) (by kernel_rfl) 11 42 (.slice aO fo.length cO) rfl rfl (by kernel_rfl) (by kernel_rfl) (by kernel_rfl) (fun _ _ _ h => h) (.inl ⟨by kernel_rfl, fun w' hs => ?_⟩) hS5 ?_
            · obtain ⟨q0, q1, q2⟩ := hs
              go_simp
            refine AnyH_takeD (fun _ => trivial) (by kernel_rfl) 12 43 (.slice (some ⟨g, o, none⟩) 3 c2) rfl rfl (by kernel_rfl) (by kernel_rfl) (by kernel_rfl) (fun _ _ _ h => h) (.inl ⟨by kernel_rfl, fun w' hs => ?_⟩) hS5 ?_
            · go_simp
            refine AnyH_takeD (fun _ => trivial) (by kernel_rfl) 13 44 (.pointer (some ⟨g, o + 1, none⟩)) rfl rfl (by kernel_rfl) (by kernel_rfl) (by kernel_rfl) (fun _ _ _ h => h) (.inl ⟨by kernel_rfl, fun w' hs => ?_⟩) hS5 ?_
            · go_simp
            refine AnyH_takeD (fun _ => trivial) (by kernel_rfl) 14 45 (.slice aA fa.length cA) rfl rfl (by kernel_rfl) (by kernel_rfl) (by kernel_rfl) (fun _ _ _ h => h) (.inl ⟨by kernel_rfl, fun w' hs => ?_⟩) hS5 ?_
            · obtain ⟨q0, q1, q2⟩ := hs
              go_simp
            refine AnyH_takeD (fun _ => trivial) (by kernel_rfl) 15 46 (.slice ap p.length cp) rfl rfl (by kernel_rfl) (by kernel_rfl) (by kernel_rfl) (fun _ _ _ h => h) (.inl ⟨by kernel_rfl, fun w' hs => ?_⟩) hS5 ?_
            · go_simp
            refine AnyH_one (i := 16) (by kernel_rfl) rfl (by kernel_rfl) (fun K hK => ?_)
            go_simp
            refine ⟨trivial, (callsIn_wide.2 (HSA.out _ (hB.out.trans (hb5'.mono hzr))).2.2.1).mono ?_⟩
            rintro e w6 ⟨he6, hb6⟩
            rw [H2.out] at he6
            subst he6
            have hb6' := hb5'.trans (hb6.mono hb5'.size)
            have hS6 := HCS.out w6 hb6'
            refine hK _ _ ⟨hS6, ?_⟩
            clear hK
            refine AnyH_takeD (fun _ => trivial) (by kernel_rfl) 17 48 (.bool false) rfl rfl (by kernel_rfl) (by kernel_rfl) (by kernel_rfl) (fun _ _ _ h => h) (.inl ⟨by kernel_rfl, fun w' hs => ?_⟩) hS6 ?_
            · go_simp
            refine AnyH_takeD (fun _ => trivial) (by kernel_rfl) 18 49 (.bool false) rfl rfl (by kernel_rfl) (by kernel_rfl) (by kernel_rfl) (fun _ _ _ h => h) (.inl ⟨by kernel_rfl, fun w' hs => ?_⟩) hS6 ?_
            · go_simp
            refine AnyH_done (by kernel_rfl) ?_
            go_simp
            obtain ⟨k1, k2, k3⟩ := HKEEP.out w6 hb6'
            have K2 := hid k2
            have K3 := hid k3
            clear k2 k3
            go_wp2_with fail
            go_roundw
            case rel => exact ⟨k + 1, acc, cs, by omega, by go_num, by omega, by rw [Hid, HDK.out, HAL.out, ← hA.out]; simp, k1, K2, K3⟩
            case measure => simp [intOf]; omega
          | false =>
            have hal : alF fo fa fb p = true := by rw [alF, h1, h2]; rfl
            have H1 := hid h1
            have H2 := hid h2
            have HAL := hid hal
            clear h1 h2 hal
            go_wp2_with fail
            refine (wpIn_wide (n := 9)).1 ?_
            refine region_held (fun w' : World => w'.cell? ⟨g, o, none⟩ = some (.slice aO fo.length cO) ∧ w'.cell? ⟨g, o + 1, none⟩ = some (.slice aA fa.length cA) ∧ w'.cell? ⟨g, o + 2, none⟩ = some (.slice aB fb.length cB)) (by kernel_rfl) ?_
            have hS0 := HS0.out
            refine AnyH_takeD (fun _ => trivial) (by kernel_rfl) 0 31 (.slice (some ⟨g, o, none⟩) 3 c2) rfl rfl (by kernel_rfl) (by kernel_rfl) (by kernel_rfl) (fun _ _ _ h => h) (.inl ⟨by kernel_rfl, fun w' hs => ?_⟩) hS0 ?_
            · go_simp
            refine AnyH_takeD (fun _ => trivial) (by kernel_rfl) 1 32 (.pointer (some ⟨g, o + 1, none⟩)) rfl rfl (by kernel_rfl) (by kernel_rfl) (by kernel_rfl) (fun _ _ _ h => h) (.inl ⟨by kernel_rfl, fun w' hs => ?_⟩) hS0 ?_
            · go_simp
            refine AnyH_takeD (fun _ => trivial) (by kernel_rfl) 2 33 (.slice aA fa.length cA) rfl rfl (by kernel_rfl) (by kernel_rfl) (by kernel_rfl) (fun _ _ _ h => h) (.inl ⟨by kernel_rfl, fun w' hs => ?_⟩) hS0 ?_
            · obtain ⟨q0, q1, q2⟩ := hs
              go_simp
            refine AnyH_takeD (fun _ => trivial) (by kernel_rfl) 3 34 (.slice (some ⟨g, o, none⟩) 3 c2) rfl rfl (by kernel_rfl) (by kernel_rfl) (by kernel_rfl) (fun _ _ _ h => h) (.inl ⟨by kernel_rfl, fun w' hs => ?_⟩) hS0 ?_
            · go_simp
            refine AnyH_takeD (fun _ => trivial) (by kernel_rfl) 4 35 (.pointer (some ⟨g, o + 2, none⟩)) rfl rfl (by kernel_rfl) (by kernel_rfl) (by kernel_rfl) (fun _ _ _ h => h) (.inl ⟨by kernel_rfl, fun w' hs => ?_⟩) hS0 ?_
            · go_simp
            refine AnyH_takeD (fun _ => trivial) (by kernel_rfl) 5 36 (.slice aB fb.length cB) rfl rfl (by kernel_rfl) (by kernel_rfl) (by kernel_rfl) (fun _ _ _ h => h) (.inl ⟨by kernel_rfl, fun w' hs => ?_⟩) hS0 ?_
            · obtain ⟨q0, q1, q2⟩ := hs
              go_simp
            refine AnyH_takeD (fun _ => trivial) (by kernel_rfl) 6 37 (.slice ap p.length cp) rfl rfl (by kernel_rfl) (by kernel_rfl) (by kernel_rfl) (fun _ _ _ h => h) (.inl ⟨by kernel_rfl, fun w' hs => ?_⟩) hS0 ?_
            · go_simp
            refine AnyH_one (i := 7) (by kernel_rfl) rfl (by kernel_rfl) (fun K hK => ?_)
            go_simp
            refine ⟨trivial, (callsIn_wide.2 (HSA.out _ (hB.out.trans (HBD.out.mono hzr))).1).mono ?_⟩
            rintro e w5 ⟨he5, hb5⟩
            rw [H1.out] at he5
            subst he5
            have hb5' := HBD.out.trans (hb5.mono (by simp))
            have hS5 := HCS.out w5 hb5'
            refine hK _ _ ⟨hS5, ?_⟩
            clear hK
            refine AnyH_takeD (fun _ => trivial) (by kernel_rfl) 8 39 (.bool true) rfl rfl (by kernel_rfl) (by kernel_rfl) (by kernel_rfl) (fun _ _ _ h => h) (.inl ⟨by kernel_rfl, fun w' hs => ?_⟩) hS5 ?_
            · go_simp
            refine AnyH_takeD (fun _ => trivial) (by kernel_rfl) 9 40 (.slice (some ⟨g, o, none⟩) 3 c2) rfl rfl (by kernel_rfl) (by kernel_rfl) (by kernel_rfl) (fun _ _ _ h => h) (.inl ⟨by kernel_rfl, fun w' hs => ?_⟩) hS5 ?_
            · go_simp
            refine AnyH_takeD (fun _ => trivial) (by kernel_rfl) 10 41 (.pointer (some ⟨g, o, none⟩)) rfl rfl (by kernel_rfl) (by kernel_rfl) (by kernel_rfl) (fun _ _ _ h => h) (.inl ⟨by kernel_rfl, fun w' hs => ?_⟩) hS5 ?_
            · go_simp
            refine AnyH_takeD (fun _ => trivial) (by kernel_rfl) 11 42 (.slice aO fo.length cO) rfl rfl (by kernel_rfl) (by kernel_rfl) (by kernel_rfl) (fun _ _ _ h => h) (.inl ⟨by kernel_rfl, fun w' hs => ?_⟩) hS5 ?_
            · obtain ⟨q0, q1, q2⟩ := hs
              go_simp
            refine AnyH_takeD (fun _ => trivial) (by kernel_rfl) 12 43 (.slice (some ⟨g, o, none⟩) 3 c2) rfl rfl (by kernel_rfl) (by kernel_rfl) (by kernel_rfl) (fun _ _ _ h => h) (.inl ⟨by kernel_rfl, fun w' hs => ?_⟩) hS5 ?_
            · go_simp
            refine AnyH_takeD (fun _ => trivial) (by kernel_rfl) 13 44 (.pointer (some ⟨g, o + 1, none⟩)) rfl rfl (by kernel_rfl) (by kernel_rfl) (by kernel_rfl) (fun _ _ _ h => h) (.inl ⟨by kernel_rfl, fun w' hs => ?_⟩) hS5 ?_
            · go_simp
            refine AnyH_takeD (fun _ => trivial) (by kernel_rfl) 14 45 (.slice aA fa.length cA) rfl rfl (by kernel_rfl) (by kernel_rfl) (by kernel_rfl) (fun _ _ _ h => h) (.inl ⟨by kernel_rfl, fun w' hs => ?_⟩) hS5 ?_
            · obtain ⟨q0, q1, q2⟩ := hs
              go_simp
            refine AnyH_takeD (fun _ => trivial) (by kernel_rfl) 15 46 (.slice ap p.length cp) rfl rfl (by kernel_rfl) (by kernel_rfl) (by kernel_rfl) (fun _ _ _ h => h) (.inl ⟨by kernel_rfl, fun w' hs => ?_⟩) hS5 ?_
            · go_simp
            refine AnyH_one (i := 16) (by kernel_rfl) rfl (by kernel_rfl) (fun K hK => ?_)
            go_simp
            refine ⟨trivial, (callsIn_wide.2 (HSA.out _ (hB.out.trans (hb5'.mono hzr))).2.2.1).mono ?_⟩
            rintro e w6 ⟨he6, hb6⟩
            rw [H2.out] at he6
            subst he6
            have hb6' := hb5'.trans (hb6.mono hb5'.size)
            have hS6 := HCS.out w6 hb6'
            refine hK _ _ ⟨hS6, ?_⟩
            clear hK
            refine AnyH_takeD (fun _ => trivial) (by kernel_rfl) 17 48 (.bool true) rfl rfl (by kernel_rfl) (by kernel_rfl) (by kernel_rfl) (fun _ _ _ h => h) (.inl ⟨by kernel_rfl, fun w' hs => ?_⟩) hS6 ?_
            · go_simp
            refine AnyH_takeD (fun _ => trivial) (by kernel_rfl) 18 49 (.bool true) rfl rfl (by kernel_rfl) (by kernel_rfl) (by kernel_rfl) (fun _ _ _ h => h) (.inl ⟨by kernel_rfl, fun w' hs => ?_⟩) hS6 ?_
            · go_simp
            refine AnyH_done (by kernel_rfl) ?_
            go_simp
            have hz6 := hb6'.size
            go_wp2_with fail
            refine (HSA.out w6 (hB.out.trans (hb6'.mono hzr))).2.2.2.mono ?_
            rintro e w7 ⟨a7, c7, rfl, hP7, hb7⟩
            have hz7 := hb7.size
            obtain ⟨k1, k2, k3⟩ := HKEEP.out w6 hb6'
            have hown7 := owns_below k1 hb7 (Nat.le_refl _)
            have K2 := hid k2
            have K3 := hid k3
            have H7 := hid hP7
            have HB7 := hid hb7
            have lpk := HPK.out.1
            clear k2 k3 hP7 hb7
            go_wp2_with (at_builtin; refine (wpList_append_ao _ rfl _ _ _ rfl w3.heap.size 65 j0 _ 1 24 Tryz.underlying49 hj0 hy0 hy1 hyb rfl (by omega) u10 acc.length cs rfl (hown7.alloc _) (some ⟨w7.heap.size, 0, none⟩) 1 1 [.slice a7 p.length c7] rfl rfl (fun h => by cases h) (fun ad had => by cases had; exact World.news_of_block (cs := #[.slice a7 p.length c7]) (t := 65) (fr := (0, 0)) (heap_alloc_new _ _)) (by simp [Value.oneCell']) (by unfold maxLen; omega) (by omega) (by simp; omega) ?_); intro a8 c8 w8 hown8 hgrow8 hat8)
            obtain ⟨g8, cap8, he8, hg8, hlt8⟩ := hown8.form (by omega)
            cases he8
            have st : Step w3.heap.size w6 (w7.alloc (.cells #[.slice a7 p.length c7] 65)) w8 u10 g8 := ⟨HB7.out.alloc (by omega) _, ⟨hgrow8.os, hgrow8.tape, hgrow8.output, hgrow8.size, hgrow8.block⟩, by omega, fun b hb => by have := hown.lt b hb; omega, hat8 g8 rfl, hlt8⟩
            have hv8 : (Value.slice (some ⟨g8, 0, none⟩) (acc.length + 1) c8).ownBlock = some g8 := rfl
            have n1 := st.keep (Stable.lcs _ _) hv8 K2.out
            have n2 := st.lift (Stable.pth _ _) hv8 H7.out (Nat.le_refl _) (by simp) ((Below.refl _ _).alloc (Nat.le_refl _) _)
            have n3 := hid (st.out K3.out)
            have n4 := hid (n1.app (LCs.single (r := rdPa) (x := p) ⟨a7, c7, rfl, n2⟩))
            have hown9 : w8.ownsRow w3.heap.size 65 1 (.slice (some ⟨g8, 0, none⟩) (acc.length + 1) c8) (acc ++ [p]).length (cs ++ [.slice a7 p.length c7]) := by rw [List.length_append]; exact hown8
            clear n1 n2 st
            go_roundw
            case rel => exact ⟨k + 1, acc ++ [p], _, by omega, by go_num, by simp; omega, by rw [Hid, HDK.out, HAL.out, ← hA.out]; simp, hown9, n4, n3⟩
            case measure => simp [intOf]; omega
      · have hlt' : ¬ (k : Int) < (ps.length : Int) := by omega
        obtain rfl : k = ps.length := by omega
        have ha := hA.out
        rw [List.take_length, ← HAP.out] at ha
        have HA := hid ha
        have HC9 := HC.out
        have HCZ := hid HC9
        obtain ⟨a9, c9, rfl, _, _⟩ := owns_shape hown
        clear ha HC9
        go_wp2_with fail
        refine bodyPost_ret (v := .tuple #[.slice a9 acc.length c9, .int .i64 0]) (by simp [results, Tryz.results34, go_sem]) rfl ?_
        have hls : PaSl (Rg w3.heap.size wr.heap.size) wr (.slice a9 acc.length c9) acc := ⟨cs, SlC.of_owns hown, hlc.out.wide fun b hb => ⟨hb.1, hb.2.1⟩⟩
        rw [HA.out] at hls ⊢
        exact ⟨a9, c9, by rw [HCZ.out], hls.wide (fun b hb => ⟨by have := hb.1; have := HB3.out.size; omega, hb.2⟩), HB3.out.trans (hB.out.mono HB3.out.size)⟩
  · have hc' : (cpE [x, y, z] != 0) = true := by simpa using hc
    have HE := hid (show alP x y z = [] by rw [alP, if_neg hc])
    have hcl : cpL [x, y, z] = [] := by rw [cpL, if_neg hc]
    rw [hcl] at hL2
    obtain ⟨n, hn⟩ : ∃ n, cpE [x, y, z] = n := ⟨_, rfl⟩
    have HN := hid hn
    rw [hn] at hc' ⊢
    clear hc hcl hn
    go_wp2_with fail
    refine bodyPost_ret (v := .tuple #[.slice none 0 0, .int .i64 n]) (by simp [results, Tryz.results34, go_sem]) rfl ?_
    exact ⟨none, 0, by rw [HE.out, HN.out]; rfl, by rw [HE.out]; exact ⟨[], ⟨rfl, none, 0, rfl, Nat.le_refl _, by simp [maxLen], fun _ => rfl, .inl rfl⟩, rfl⟩, HB2.out⟩
end Go.Proofs.LF
