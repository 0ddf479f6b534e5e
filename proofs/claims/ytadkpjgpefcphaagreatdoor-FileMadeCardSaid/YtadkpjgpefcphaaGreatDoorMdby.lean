/- Parts of the proof of a law of layer 11 (file): LfC101, LfW101. The conditions stand in each theorem. -/
import Derived.BigQuiet
import Derived.Deep.AppendLies
import Derived.Deep.Cut
import Derived.Deep.CutBlock
import Derived.Deep.CutRange
import Derived.Deep.QuietTactic
import Derived.Deep.RegionHeld3
import Derived.Laws.ResultCell
import Derived.Outline
import Derived.Test.YtadkpjgpefcphaaGreatDoorProg
import Derived.WalkKit
import Derived.WalkLawsBesides
import Derived.WalkSpells
import Derived.Test.YtadkpjgpefcphaaGreatDoorMdbt
import Derived.Test.YtadkpjgpefcphaaGreatDoorMdbv
import Derived.Test.YtadkpjgpefcphaaGreatDoorMdbw
import Derived.Test.YtadkpjgpefcphaaGreatDoorMdbx
set_option linter.all false
set_option linter.unusedVariables false
set_option linter.unusedSimpArgs false
namespace Go.Proofs.LF
open Go.RowKit Go.Sort
theorem make_c (y : Fo) (D : List Ch) (ay aD : Option Addr) (cy cD : Nat) (W : World) (hy : In W (.slice ay y.len cy) y) (hD : ChIn W (.slice aD D.length cD) D) (hb : Bd y) (hl : D.length ≤ 1000) (hsm : SmCh D) {E : Int} {Z : Fo} (h : mkE y D = E ∧ mkY y D = Z) :
    Calls Tryz.prog 71 #[.slice ay y.len cy, .slice aD D.length cD] W fun e w' => ∃ a c, e = .returned (.tuple #[.slice a Z.len c, .int .i64 E]) ∧ In w' (.slice a Z.len c) Z ∧ Below W.heap.size W w' := by
  obtain ⟨rfl, rfl⟩ := h
  exact (Make_u y D ay aD cy cD _ _ W hy (fun _ h => h) hD (fun _ h => h) hb.1 hb.2.1 hb.2.2 hl hsm).mono fun e w' ⟨a, c, he, h1, h2⟩ => ⟨a, c, he, h1.fsl.wide fun b hb => hb.2, h2⟩
theorem back_c (D B : List Ch) (aD : Option Addr) (cD : Nat) (W : World) (hD : ChIn W (.slice aD D.length cD) D) (hl : D.length ≤ 1000) (hsm : SmCh D) (h : ckC D = 0 ∧ D.map turnC = B) :
    Calls Tryz.prog 72 #[.slice aD D.length cD] W fun e w' => ∃ a c, e = .returned (.tuple #[.slice a B.length c, .int .i64 0]) ∧ ChIn w' (.slice a B.length c) B ∧ Below W.heap.size W w' := by
  obtain ⟨h0, rfl⟩ := h
  have hb : backL D = D.map turnC := by rw [backL, if_pos h0]
  refine (Back_any D aD cD _ W hD (fun _ h => h) hl hsm).mono ?_
  rintro e w' ⟨a, c, he, h1, h2⟩
  rw [hb] at he h1
  rw [h0] at he
  exact ⟨a, c, he, h1.wide fun b hb => hb.2, h2⟩
theorem ckc_c (D : List Ch) (aD : Option Addr) (cD : Nat) (W : World) (hD : ChIn W (.slice aD D.length cD) D) (hl : D.length ≤ 1000) (hsm : SmCh D) {E : Int} (h : ckC D = E) :
    Calls Tryz.prog 67 #[.slice aD D.length cD] W fun e w' => e = .returned (.int .i64 E) ∧ Below W.heap.size W w' := by
  subst h
  exact CheckChanges_any D aD cD _ W hD (fun _ h => h) hl hsm
theorem idx_c (D : List Ch) (r : List Ky) (aD aq : Option Addr) (cD cq F : Nat) (W : World) (hD : ChIn W (.slice aD D.length cD) D) (hq : PtIn W (.slice aq r.length cq) r) (hF : F < W.heap.size) (hc : W.cell? ⟨F, 0, none⟩ = some (.slice aq r.length cq)) (hl : D.length ≤ 1000) (hps : ∀ x ∈ D, x.p.length ≤ 1000) (lq : r.length ≤ 1000) {k : Nat}
    (h : idxN (fun i => decide ((D.map (·.p)).getD i [] = r)) D.length = k) :
    Calls Tryz.prog 77 #[.slice aD D.length cD, .func (.func 78) #[] #[.pointer (some ⟨F, 0, none⟩)]] W fun e w' => e = .returned (.int .i64 k) ∧ Below W.heap.size W w' := by
  rw [← h]
  exact idxC_any D r aD aq cD cq F _ _ W hD (fun _ h => h) hq (fun _ h => h) hF hc hl hps lq
theorem ck_sm {D : List Ch} (h : ckC D = 0) : SmCh D := fun c hc => by
  obtain ⟨h1, h2, h3, _⟩ := ckOne_zero ((ckC_zero h).2.1 c hc)
  refine ⟨by omega, fun k hk => ?_, by omega, by omega⟩
  simp only [okNm, List.all_eq_true, Bool.not_eq_true'] at h2
  have := badNm_len (h2 k hk)
  omega
end Go.Proofs.LF
namespace Go.Proofs.LF
open Go.RowKit Go.Sort
set_option maxHeartbeats 4000000
set_option maxRecDepth 100000
attribute [local go_sem] bs_toList bs_size bs_get
theorem FileMade_any (l1 l2 : List Int) (i1 i2 : Option Addr) (k1 k2 : Nat) (w : World) (h1 : ByIn w (.slice i1 l1.length k1) l1) (h2 : ByIn w (.slice i2 l2.length k2) l2) (ht : Pow w) :
    Calls Tryz.prog 12 #[.slice i1 l1.length k1, .slice i2 l2.length k2] w fun e w' => e = .returned (.bool true) ∧ Below w.heap.size w w' := by
  have HT := hid ht
  have B1 := hid h1
  have B2 := hid h2
  have BW := hid (Below.refl w.heap.size w)
  obtain ⟨i0, hi0, hz0, hz1, hz2⟩ := info_parts Tryz.info65'
  clear ht h1 h2
  go_enter Tryz.func12, Tryz.ntmps12
  go_wp2_with fail
  refine (pile_c l1 i1 k1 w B1.out).mono ?_
  rintro e p1 ⟨rfl, hp⟩
  have HP := hid hp
  clear hp
  go_wp2_with fail
  refine (made_c w p1 HP.out).mono ?_
  rintro e w1 ⟨y, ay, cy, rfl, hF, ho, hb⟩
  replace B2 := hid (B2.out.on hb)
  replace BW := hid (BW.out.trans (hb.mono BW.out.size))
  have Hy := hid hF
  have Oy := hid ho
  clear hF ho hb HP
  go_wp2_with fail
  refine (pile_c l2 i2 k2 w1 B2.out).mono ?_
  rintro e p2 ⟨rfl, hp⟩
  have HP := hid hp
  clear hp
  go_wp2_with fail
  refine (changed_c y ay cy w1 p2 HP.out Hy.out Oy.out.1 (by have := Oy.out.2; omega)).mono ?_
  rintro e w2 ⟨x, ax, cx, rfl, hF, ho, hb⟩
  replace Hy := hid (Hy.out.on hb)
  replace BW := hid (BW.out.trans (hb.mono BW.out.size))
  have Hx := hid hF
  have Ox := hid ho
  clear hF ho hb HP
  clear B1
  have ny := Oy.out.2
  have nx := Ox.out.2
  have BDy := hid (okF_bd Oy.out.1 (by omega))
  have BDx := hid (okF_bd Ox.out.1 (by omega))
  by_cases ky : y.cnt ≤ 60
  rotate_left
  · as_aux_lemma =>
      go_wp2_with fail
      refine (checkE_c y ay cy w2 Hy.out BDy.out (okF_many2 Oy.out.1 ky)).mono ?_
      rintro e c0_ ⟨rfl, hb⟩
      replace Hy := hid (Hy.out.on hb)
      replace Hx := hid (Hx.out.on hb)
      replace BW := hid (BW.out.trans (hb.mono BW.out.size))
      clear hb
      go_wp2_with fail
      refine (few_c y ay cy c0_ Hy.out Oy.out.1 (by omega) (q := true) (by simp; omega)).mono ?_
      rintro e f0_ ⟨rfl, hb⟩
      replace Hy := hid (Hy.out.on hb)
      replace Hx := hid (Hx.out.on hb)
      replace BW := hid (BW.out.trans (hb.mono BW.out.size))
      clear hb
      go_wp2_with fail
      refine (awake_any f0_ (HT.out.below BW.out)).mono ?_
      rintro e z_ ⟨rfl, hb⟩
      replace Hy := hid (Hy.out.on hb)
      replace Hx := hid (Hx.out.on hb)
      replace BW := hid (BW.out.trans (hb.mono BW.out.size))
      clear hb
      go_wp2_with fail
      go_ret
      exact ⟨rfl, BW.out⟩
  by_cases kx : x.cnt ≤ 60
  rotate_left
  · as_aux_lemma =>
      go_wp2_with fail
      refine (checkE_c y ay cy w2 Hy.out BDy.out (okF_few Oy.out.1 ky)).mono ?_
      rintro e c0_ ⟨rfl, hb⟩
      replace Hy := hid (Hy.out.on hb)
      replace Hx := hid (Hx.out.on hb)
      replace BW := hid (BW.out.trans (hb.mono BW.out.size))
      clear hb
      go_wp2_with fail
      refine (checkE_c x ax cx c0_ Hx.out BDx.out (okF_many2 Ox.out.1 kx)).mono ?_
      rintro e c1_ ⟨rfl, hb⟩
      replace Hy := hid (Hy.out.on hb)
      replace Hx := hid (Hx.out.on hb)
      replace BW := hid (BW.out.trans (hb.mono BW.out.size))
      clear hb
      go_wp2_with fail
      refine (few_c y ay cy c1_ Hy.out Oy.out.1 (by omega) (q := false) (by simp; omega)).mono ?_
      rintro e f0_ ⟨rfl, hb⟩
      replace Hy := hid (Hy.out.on hb)
      replace Hx := hid (Hx.out.on hb)
      replace BW := hid (BW.out.trans (hb.mono BW.out.size))
      clear hb
      go_wp2_with fail
      refine (few_c x ax cx f0_ Hx.out Ox.out.1 (by omega) (q := true) (by simp; omega)).mono ?_
      rintro e f1_ ⟨rfl, hb⟩
      replace Hy := hid (Hy.out.on hb)
      replace Hx := hid (Hx.out.on hb)
      replace BW := hid (BW.out.trans (hb.mono BW.out.size))
      clear hb
      go_wp2_with fail
      refine (awake_any f1_ (HT.out.below BW.out)).mono ?_
      rintro e z_ ⟨rfl, hb⟩
      replace Hy := hid (Hy.out.on hb)
      replace Hx := hid (Hx.out.on hb)
      replace BW := hid (BW.out.trans (hb.mono BW.out.size))
      clear hb
      go_wp2_with fail
      go_ret
      exact ⟨rfl, BW.out⟩
  have cky := okF_few Oy.out.1 ky
  have ckx := okF_few Ox.out.1 kx
  have hl1 := difL_eq cky ckx
  have hm1 := mk_dif cky ckx
  have hm2 := mk_dif ckx cky
  have hk1 := dif_ck cky ckx
  have hk2 := dif_ck ckx cky
  have ht1 := dif_turn cky ckx
  have hln := dif_len cky ckx
  have hln2 := dif_len ckx cky
  have hcn := cntR_all cky ckx
  obtain ⟨D, hD⟩ : ∃ D, difL y x = D := ⟨_, rfl⟩
  obtain ⟨E, hE⟩ : ∃ E, difL x y = E := ⟨_, rfl⟩
  rw [hD] at hm1 hk1 ht1 hln hcn
  have hix : ∀ (r : List Ky) (i : Nat), r ∈ evP [] y ++ evP [] x → skB y x y.cnt i r = false → ∃ (k : Nat) (hk : k < D.length), idxN (fun i => decide ((D.map (·.p)).getD i [] = r)) D.length = k ∧ D[k] = ⟨r, isAt y r, isAt x r, nsAt y r, nsAt x r⟩ := by
    subst hD
    exact fun r i h1 h2 => dif_idx cky ckx h1 h2
  rw [hE] at hm2 hk2 ht1 hln2
  have DIF := hid (And.intro hl1.1 hD)
  have MK1 := hid hm1
  have MK2 := hid hm2
  have CK1 := hid hk1
  have SM1 := hid (ck_sm hk1)
  have SM2 := hid (ck_sm hk2)
  have TU := hid ht1
  have CN := hid hcn
  have IX := hid hix
  clear cky ckx hm1 hm2 hk1 hk2 ht1 hcn hix hD hE hl1
  go_wp2_with fail
  refine (checkE_c y ay cy w2 Hy.out BDy.out (okF_few Oy.out.1 ky)).mono ?_
  rintro e c0_ ⟨rfl, hb⟩
  replace Hy := hid (Hy.out.on hb)
  replace Hx := hid (Hx.out.on hb)
  replace BW := hid (BW.out.trans (hb.mono BW.out.size))
  clear hb
  go_wp2_with fail
  refine (checkE_c x ax cx c0_ Hx.out BDx.out (okF_few Ox.out.1 kx)).mono ?_
  rintro e c1_ ⟨rfl, hb⟩
  replace Hy := hid (Hy.out.on hb)
  replace Hx := hid (Hx.out.on hb)
  replace BW := hid (BW.out.trans (hb.mono BW.out.size))
  clear hb
  go_wp2_with fail
  refine (diff_c y x ay ax cy cx c1_ Hy.out Hx.out BDy.out BDx.out (HT.out.below BW.out) DIF.out).mono ?_
  rintro e g1_ ⟨ad, cd, rfl, hL, hb⟩
  replace Hy := hid (Hy.out.on hb)
  replace Hx := hid (Hx.out.on hb)
  replace BW := hid (BW.out.trans (hb.mono BW.out.size))
  have HD := hid hL
  clear hL
  clear hb
  go_wp2_with fail
  refine (make_c y D ay ad cy cd g1_ Hy.out HD.out BDy.out (by omega) SM1.out MK1.out).mono ?_
  rintro e g2_ ⟨am, cm, rfl, hL, hb⟩
  replace Hy := hid (Hy.out.on hb)
  replace Hx := hid (Hx.out.on hb)
  replace HD := hid (HD.out.on hb)
  replace BW := hid (BW.out.trans (hb.mono BW.out.size))
  have HM := hid hL
  clear hL
  clear hb
  go_wp2_with fail
  refine (back_c D E ad cd g2_ HD.out (by omega) SM1.out (And.intro CK1.out TU.out)).mono ?_
  rintro e g3_ ⟨ab, cb, rfl, hL, hb⟩
  replace Hy := hid (Hy.out.on hb)
  replace Hx := hid (Hx.out.on hb)
  replace HD := hid (HD.out.on hb)
  replace HM := hid (HM.out.on hb)
  replace BW := hid (BW.out.trans (hb.mono BW.out.size))
  have HB := hid hL
  clear hL
  clear hb
  go_wp2_with fail
  refine (make_c x E ax ab cx cb g3_ Hx.out HB.out BDx.out (by omega) SM2.out MK2.out).mono ?_
  rintro e g4_ ⟨an, cn, rfl, hL, hb⟩
  replace Hy := hid (Hy.out.on hb)
  replace Hx := hid (Hx.out.on hb)
  replace HD := hid (HD.out.on hb)
  replace HM := hid (HM.out.on hb)
  replace HB := hid (HB.out.on hb)
  replace BW := hid (BW.out.trans (hb.mono BW.out.size))
  have HN := hid hL
  clear hL
  clear hb
  go_wp2_with fail
  refine (ckc_c D ad cd g4_ HD.out (by omega) SM1.out CK1.out).mono ?_
  rintro e g5_ ⟨rfl, hb⟩
  replace Hy := hid (Hy.out.on hb)
  replace Hx := hid (Hx.out.on hb)
  replace HD := hid (HD.out.on hb)
  replace HM := hid (HM.out.on hb)
  replace HB := hid (HB.out.on hb)
  replace HN := hid (HN.out.on hb)
  replace BW := hid (BW.out.trans (hb.mono BW.out.size))
  clear hb
  go_wp2_with fail
  refine (eqY_c x am ax cm cx g5_ HM.out Hx.out BDx.out).mono ?_
  rintro e g6_ ⟨rfl, hb⟩
  replace Hy := hid (Hy.out.on hb)
  replace Hx := hid (Hx.out.on hb)
  replace HD := hid (HD.out.on hb)
  replace HM := hid (HM.out.on hb)
  replace HB := hid (HB.out.on hb)
  replace HN := hid (HN.out.on hb)
  replace BW := hid (BW.out.trans (hb.mono BW.out.size))
  clear hb
  go_wp2_with fail
  refine (eqY_c y an ay cn cy g6_ HN.out Hy.out BDy.out).mono ?_
  rintro e g7_ ⟨rfl, hb⟩
  replace Hy := hid (Hy.out.on hb)
  replace Hx := hid (Hx.out.on hb)
  replace HD := hid (HD.out.on hb)
  replace HM := hid (HM.out.on hb)
  replace HB := hid (HB.out.on hb)
  replace HN := hid (HN.out.on hb)
  replace BW := hid (BW.out.trans (hb.mono BW.out.size))
  clear hb
  clear HM
  clear HB
  clear HN
  go_wp2_with fail
  refine (all_c y ay cy g7_ Hy.out BDy.out).mono ?_
  rintro e g8_ ⟨a1, c1, a2, c2, cs1, rfl, hX, hb⟩
  have HX := hid hX
  have HXB := hid hb
  clear hX hb
  go_wp2_with fail
  refine (all_c x ax cx g8_ (Hx.out.on HXB.out) BDx.out).mono ?_
  rintro e g9_ ⟨a3, c3, a4, c4, cs2, rfl, hV, hb⟩
  have HV := hid hV
  have HVB := hid hb
  clear hV hb
  obtain ⟨v1, v2, v3, v4⟩ := HV.out.news
  have ow1 := owns_below HX.out.2.1 HVB.out (Nat.le_refl _)
  have z8 := HXB.out.size
  have z9 := HVB.out.size
  have V1 := hid v1
  have V2 := hid v2
  have V3 := hid v3
  have V4 := hid v4
  have OW1 := hid ow1
  clear v1 v2 v3 v4 ow1
  go_wp2_with (at_builtin; refine (wpList_append_ao _ rfl _ _ _ rfl g7_.heap.size 65 i0 _ 1 24 Tryz.underlying49 hi0 hz0 hz1 hz2 rfl (by omega) _ y.cnt cs1 rfl OW1.out a3 x.cnt c3 cs2 rfl V1.out V2.out V3.out V4.out (by unfold maxLen; omega) (by omega) (by omega) ?_); intro a5 c5 ga_ hown5 hgrow5 hat5)
  obtain ⟨hrs, hb⟩ := all_app HX.out HXB.out HV.out HVB.out hown5 hgrow5
  have HRS := hid hrs
  clear hown5 hgrow5 hat5 hrs HX HXB HV HVB V1 V2 V3 V4 OW1 z8 z9
  replace Hy := hid (Hy.out.on hb)
  replace Hx := hid (Hx.out.on hb)
  replace HD := hid (HD.out.on hb)
  replace BW := hid (BW.out.trans (hb.mono BW.out.size))
  clear hb
  obtain ⟨rs, hrs⟩ : ∃ rs, evP [] y ++ evP [] x = rs := ⟨_, rfl⟩
  have hrl : rs.length = y.cnt + x.cnt := by rw [← hrs, List.length_append, evP_length, evP_length]
  have hrb : ∀ r ∈ rs, r.length ≤ 1000 := fun r h => by
    rw [← hrs] at h
    rcases List.mem_append.1 h with h | h
    · have := path_length_le h; simp at this; omega
    · have := path_length_le h; simp at this; omega
  have hcn := CN.out
  have hix := IX.out
  have hrq := HRS.out
  rw [hrs] at hrq hcn
  simp only [hrs] at hix
  have CN2 := hid hcn
  have IX2 := hid hix
  obtain ⟨a5', c5', e1, _, hmR, hatR⟩ := LSl.at hrq
  rw [hrl] at e1
  obtain ⟨rfl, rfl⟩ : a5 = a5' ∧ c5 = c5' := by cases e1; exact ⟨rfl, rfl⟩
  have HatR := hid hatR
  have HRB := hid hrb
  have HRL := hid hrl
  have hDs := HD.out
  obtain ⟨ad', cd', e2, _, hmD, hatD⟩ := LSl.at hDs
  obtain ⟨rfl, rfl⟩ : ad = ad' ∧ cd = cd' := by cases e2; exact ⟨rfl, rfl⟩
  have HatD := hid hatD
  unfold maxLen at hmR hmD
  have hnn : y.cnt + x.cnt ≤ 400 := by omega
  clear hrs hrl hrb hrq hatR e1 HRS hcn hix CN IX hDs e2 hatD
  go_wp2_with fail
  go_loopw [15, 119] (fun d i wr => ∃ k dn : Nat, k ≤ y.cnt + x.cnt ∧ i = .int .i64 k ∧ d = .int .i64 dn ∧ dn ≤ 120 ∧ Hid (dn + cntR y x y.cnt k (rs.drop k) = D.length) ∧ Hid (Below ga_.heap.size ga_ wr)) (fun _ i _ => (y.cnt + x.cnt) - (intOf i).toNat)
  case atStart => exact ⟨0, 0, by omega, rfl, rfl, by omega, by rw [Hid]; simpa using CN2.out, Below.refl _ _⟩
  case round =>
    obtain ⟨k, dn, hk, rfl, rfl, hdn, hD, hB⟩ := hrel
    have hzr := hB.out.size
    by_cases hlt : k < y.cnt + x.cnt
    · as_aux_lemma =>
        have hlt' : (k : Int) < (y.cnt : Int) + (x.cnt : Int) := by omega
        have hlr : k < rs.length := by rw [HRL.out]; exact hlt
        obtain ⟨gl, ol, csl, rfl, hgl, ⟨ap2, cp2, rfl, hPl⟩, hcl⟩ := HatR.out k hlr
        have hrbk := HRB.out rs[k] (List.getElem_mem hlr)
        have hrmk := List.getElem_mem hlr
        have hdr : rs.drop k = rs[k] :: rs.drop (k + 1) := List.drop_eq_getElem_cons hlr
        obtain ⟨r, hx⟩ : ∃ x, rs[k] = x := ⟨_, rfl⟩
        rw [hx] at hPl hcl hrbk hrmk hdr
        have hag := Agree.of_below (S := fun q => q < ga_.heap.size) hB.out (fun _ h => h)
        have c0 := hag.cell hgl (hcl 0 _ rfl)
        rw [Nat.mul_one, Nat.add_zero] at c0
        have HR := hid (PtIn.on hPl hB.out)
        obtain ⟨nY, hnY⟩ : ∃ q, nsAt y r = q := ⟨_, rfl⟩
        obtain ⟨nX, hnX⟩ : ∃ q, nsAt x r = q := ⟨_, rfl⟩
        obtain ⟨iY, hiY⟩ : ∃ q, isAt y r = q := ⟨_, rfl⟩
        obtain ⟨iX, hiX⟩ : ∃ q, isAt x r = q := ⟨_, rfl⟩
        obtain ⟨q, hq⟩ : ∃ q, decide (nY = nX) = q := ⟨_, rfl⟩
        have hdd := hD.out
        rw [hdr, cntR] at hdd
        have hix := IX2.out r k hrmk
        obtain ⟨sk, hsk⟩ : ∃ sk, skB y x y.cnt k r = sk := ⟨_, rfl⟩
        rw [hsk] at hdd hix
        unfold skB at hsk
        rw [hnY, hnX, hiY, hiX] at hix
        rw [hnY, hnX, hiY, hiX, hq] at hsk
        have lY : nY.length ≤ 1000 := by rw [← hnY]; exact nsAt_len BDy.out r
        have lX : nX.length ≤ 1000 := by rw [← hnX]; exact nsAt_len BDx.out r
        have EY := hid (And.intro hnY hiY)
        have EX := hid (And.intro hnX hiX)
        have QQ := hid hq
        have SK := hid hsk
        have DD := hid hdd
        have IX := hid hix
        have hb := hB.out
        clear hcl hPl hrmk hx hag hnY hnX hiY hiX hq hdr hdd hix hsk hD
        replace Hy := hid (Hy.out.on hb)
        replace Hx := hid (Hx.out.on hb)
        replace HD := hid (HD.out.on hb)
        replace BW := hid (BW.out.trans (hb.mono BW.out.size))
        clear hb
        go_upto_region 17 with fail
        have NBK := hid (heap_alloc_new wr (.cells #[.slice ap2 r.length cp2] 65))
        have hb := (Below.refl wr.heap.size wr).alloc (Nat.le_refl _) (.cells #[.slice ap2 r.length cp2] 65)
        obtain ⟨wa, hwa⟩ : ∃ wa, wr.alloc (.cells #[.slice ap2 r.length cp2] 65) = wa := ⟨_, rfl⟩
        have hza : wr.heap.size < wa.heap.size := by rw [← hwa]; simp
        rw [hwa] at NBK hb ⊢
        have HWA := hid hwa
        have BR := hid hb
        clear hwa c0
        replace Hy := hid (Hy.out.on hb)
        replace Hx := hid (Hx.out.on hb)
        replace HD := hid (HD.out.on hb)
        replace HR := hid (HR.out.on hb)
        replace BW := hid (BW.out.trans (hb.mono BW.out.size))
        clear hb
        have BC := hid (Below.refl wa.heap.size wa)
        have hcF := cells_get NBK.out (k := 0) (v := .slice ap2 r.length cp2) rfl
        have HCF := hid hcF
        go_wp2_with fail
        refine (at_c y r ay ap2 cy cp2 wa Hy.out HR.out BDy.out hrbk EY.out).mono ?_
        rintro e tY_ ⟨aY, cY, rfl, hN, hb⟩
        replace Hy := hid (Hy.out.on hb)
        replace Hx := hid (Hx.out.on hb)
        replace HD := hid (HD.out.on hb)
        replace HR := hid (HR.out.on hb)
        replace BW := hid (BW.out.trans (hb.mono BW.out.size))
        replace BR := hid (BR.out.trans (hb.mono BR.out.size))
        replace BC := hid (BC.out.trans (hb.mono BC.out.size))
        have NY := hid hN
        clear hN hcF
        clear hb
        have hcF := below_cell BC.out hza HCF.out
        go_wp2_with fail
        refine (at_c x r ax ap2 cx cp2 tY_ Hx.out HR.out BDx.out hrbk EX.out).mono ?_
        rintro e tX_ ⟨aX, cX, rfl, hN, hb⟩
        replace Hy := hid (Hy.out.on hb)
        replace Hx := hid (Hx.out.on hb)
        replace HD := hid (HD.out.on hb)
        replace HR := hid (HR.out.on hb)
        replace NY := hid (NY.out.on hb)
        replace BW := hid (BW.out.trans (hb.mono BW.out.size))
        replace BR := hid (BR.out.trans (hb.mono BR.out.size))
        replace BC := hid (BC.out.trans (hb.mono BC.out.size))
        have NX := hid hN
        clear hN hcF
        clear hb
        have hcF := below_cell BC.out hza HCF.out
        have HCF2 := hid hcF
        clear hcF
        have EQ := hid (fun W (h : Below tX_.heap.size tX_ W) => eqN_c nY nX aY aX cY cX W (NY.out.on h) (NX.out.on h) lY lX QQ.out)
        go_upto_region 19 with fail
        go_cut [152] from 136 to 151 (fun v wx => v = .bool sk ∧ Hid (Below tX_.heap.size tX_ wx))
        case first =>
          have hskk := SK.out
          by_cases hN : y.cnt ≤ k
          · have hN' : (y.cnt : Int) ≤ (k : Int) := by omega
            rw [show decide (y.cnt ≤ k) = true by simp; omega] at hskk
            have SK2 := hid hskk
            clear hskk hN
            cases iY <;> cases iX
            · as_aux_lemma =>
                have BZ := hid (Below.refl tX_.heap.size tX_)
                go_wp2_with fail
                refine (EQ.out tX_ BZ.out).mono ?_
                rintro e u1_ ⟨rfl, hb⟩
                replace BZ := hid (BZ.out.trans (hb.mono BZ.out.size))
                clear hb
                go_wp2_with fail
                go_meet
                case rel => exact ⟨by rw [← SK2.out]; simp, BZ⟩
            · as_aux_lemma =>
                have BZ := hid (Below.refl tX_.heap.size tX_)
                go_wp2_with fail
                go_meet
                case rel => exact ⟨by rw [← SK2.out]; simp, BZ⟩
            · as_aux_lemma =>
                have BZ := hid (Below.refl tX_.heap.size tX_)
                go_wp2_with fail
                go_meet
                case rel => exact ⟨by rw [← SK2.out]; simp, BZ⟩
            · as_aux_lemma =>
                have BZ := hid (Below.refl tX_.heap.size tX_)
                go_wp2_with fail
                go_meet
                case rel => exact ⟨by rw [← SK2.out]; simp, BZ⟩
          · have hN' : ¬ (y.cnt : Int) ≤ (k : Int) := by omega
            rw [show decide (y.cnt ≤ k) = false by simp; omega] at hskk
            have SK2 := hid hskk
            clear hskk hN
            cases iY <;> cases iX
            · as_aux_lemma =>
                have BZ := hid (Below.refl tX_.heap.size tX_)
                go_wp2_with fail
                refine (EQ.out tX_ BZ.out).mono ?_
                rintro e u1_ ⟨rfl, hb⟩
                replace BZ := hid (BZ.out.trans (hb.mono BZ.out.size))
                clear hb
                go_wp2_with fail
                go_meet
                case rel => exact ⟨by rw [← SK2.out]; simp, BZ⟩
            · as_aux_lemma =>
                have BZ := hid (Below.refl tX_.heap.size tX_)
                go_wp2_with fail
                go_meet
                case rel => exact ⟨by rw [← SK2.out]; simp, BZ⟩
            · as_aux_lemma =>
                have BZ := hid (Below.refl tX_.heap.size tX_)
                go_wp2_with fail
                go_meet
                case rel => exact ⟨by rw [← SK2.out]; simp, BZ⟩
            · as_aux_lemma =>
                have BZ := hid (Below.refl tX_.heap.size tX_)
                go_wp2_with fail
                refine (EQ.out tX_ BZ.out).mono ?_
                rintro e u1_ ⟨rfl, hb⟩
                replace BZ := hid (BZ.out.trans (hb.mono BZ.out.size))
                clear hb
                go_wp2_with fail
                go_meet
                case rel => exact ⟨by rw [← SK2.out]; simp, BZ⟩
        case rest =>
          obtain ⟨rfl, HCUT⟩ := hcut
          have hbz := hid (BR.out.trans (HCUT.out.mono BR.out.size))
          have hdd := DD.out
          cases sk
          · as_aux_lemma =>
              rw [if_neg (by simp)] at hdd
              obtain ⟨kk, hkk, hid1, hid2⟩ := IX.out rfl
              obtain ⟨gD, oD, csD, rfl, hgD, ⟨apD, cpD, aoD, coD, anD, cnD, rfl, hPD, hOD, hND⟩, hcD⟩ := HatD.out kk hkk
              rw [hid2] at hPD hOD hND hcD
              have hgDc : gD < tX_.heap.size := by have := BC.out.size; omega
              have hBW := hB.out.trans (BR.out.mono hzr)
              have hBW2 := hBW.trans (HCUT.out.mono hBW.size)
              have hag := Agree.of_below (S := fun q => q < ga_.heap.size) hBW2 (fun _ h => h)
              have d1 := hag.cell hgD (hcD 1 _ rfl)
              have d2 := hag.cell hgD (hcD 2 _ rfl)
              have d3 := hag.cell hgD (hcD 3 _ rfl)
              have d4 := hag.cell hgD (hcD 4 _ rfl)
              simp only [← Nat.add_assoc] at d1 d2 d3 d4
              have hdd2 : (dn + 1) + cntR y x y.cnt (k + 1) (rs.drop (k + 1)) = D.length := by omega
              have hdn2 : dn + 1 ≤ 120 := by omega
              have HD1 := hid d1
              have HD2 := hid d2
              have HD3 := hid d3
              have HD4 := hid d4
              have HKK := hid hid1
              have HOD := hid (IsIn.on (w := ga_) (w' := wc) (show IsIn ga_ (.slice aoD nY.length coD) nY from hOD) hBW2)
              have HND := hid (IsIn.on (w := ga_) (w' := wc) (show IsIn ga_ (.slice anD nX.length cnD) nX from hND) hBW2)
              have DD2 := hid hdd2
              have hkk' : (kk : Int) < (D.length : Int) := by omega
              have hkk0 : (0 : Int) ≤ (kk : Int) := by omega
              have hkn : ¬ (kk : Int) < 0 := by omega
              have hgDw : gD < wc.heap.size := by have := HCUT.out.size; omega
              have hD120 : D.length ≤ 120 := by omega
              clear hid1 hid2 hPD hOD hND hcD hBW hBW2 hag hdd hdd2 d1 d2 d3 d4
              have BZ := hid (Below.refl wc.heap.size wc)
              replace HD := hid (HD.out.on HCUT.out)
              replace HR := hid (HR.out.on HCUT.out)
              replace NY := hid (NY.out.on HCUT.out)
              replace NX := hid (NX.out.on HCUT.out)
              go_wp2_with fail
              refine (idx_c D r (some ⟨gD, oD, none⟩) ap2 cd cp2 wr.heap.size wc HD.out HR.out (Nat.lt_of_lt_of_le hza (Nat.le_trans BC.out.size HCUT.out.size)) (below_cell HCUT.out (Nat.lt_of_lt_of_le hza BC.out.size) HCF2.out) (by omega) (fun x hx => (SM1.out x hx).1) hrbk HKK.out).mono ?_
              rintro e v1_ ⟨rfl, hb⟩
              replace NY := hid (NY.out.on hb)
              replace NX := hid (NX.out.on hb)
              replace HOD := hid (HOD.out.on hb)
              replace HND := hid (HND.out.on hb)
              replace BZ := hid (BZ.out.trans (hb.mono BZ.out.size))
              clear hb
              have d1 := below_cell BZ.out hgDw HD1.out
              have d2 := below_cell BZ.out hgDw HD2.out
              have d3 := below_cell BZ.out hgDw HD3.out
              have bY : (iY != iY) = false := by simp
              have bX : (iX != iX) = false := by simp
              go_wp2_with fail
              refine (eqN_c nY nY aoD aY coD cY v1_ HOD.out NY.out lY lY (b := true) (by simp)).mono ?_
              rintro e v2_ ⟨rfl, hb⟩
              replace NY := hid (NY.out.on hb)
              replace NX := hid (NX.out.on hb)
              replace HOD := hid (HOD.out.on hb)
              replace HND := hid (HND.out.on hb)
              replace BZ := hid (BZ.out.trans (hb.mono BZ.out.size))
              clear hb
              clear d1 d2 d3
              have d4 := below_cell BZ.out hgDw HD4.out
              go_wp2_with fail
              refine (eqN_c nX nX anD aX cnD cX v2_ HND.out NX.out lX lX (b := true) (by simp)).mono ?_
              rintro e v3_ ⟨rfl, hb⟩
              replace NY := hid (NY.out.on hb)
              replace NX := hid (NX.out.on hb)
              replace HOD := hid (HOD.out.on hb)
              replace HND := hid (HND.out.on hb)
              replace BZ := hid (BZ.out.trans (hb.mono BZ.out.size))
              clear hb
              clear d4
              go_wp2_with fail
              go_roundw
              case rel => exact ⟨k + 1, dn + 1, by omega, by go_num, by go_num, hdn2, DD2, hid (hB.out.trans ((hbz.out.trans (BZ.out.mono (by have := hbz.out.size; have := HCUT.out.size; omega))).mono hzr))⟩
              case measure => simp [intOf]; omega
          · as_aux_lemma =>
              rw [if_pos rfl] at hdd
              have DD2 := hid (show dn + cntR y x y.cnt (k + 1) (rs.drop (k + 1)) = D.length by omega)
              clear hdd
              go_wp2_with fail
              go_roundw
              case rel => exact ⟨k + 1, dn, by omega, by go_num, rfl, hdn, DD2, hid (hB.out.trans (hbz.out.mono hzr))⟩
              case measure => simp [intOf]; omega
    · as_aux_lemma =>
        obtain rfl : k = y.cnt + x.cnt := by omega
        have hlt' : ¬ ((y.cnt + x.cnt : Nat) : Int) < (y.cnt : Int) + (x.cnt : Int) := by omega
        have hdd := hD.out
        rw [List.drop_eq_nil_of_le (by rw [HRL.out]; omega), cntR, Nat.add_zero] at hdd
        have heq : ((dn : Int) == (D.length : Int)) = true := by simp; omega
        have hb := hB.out
        clear hlt hk hdd
        replace Hy := hid (Hy.out.on hb)
        replace Hx := hid (Hx.out.on hb)
        replace HD := hid (HD.out.on hb)
        replace BW := hid (BW.out.trans (hb.mono BW.out.size))
        clear hb
        go_wp2_with fail
        refine (awake_any wr (HT.out.below BW.out)).mono ?_
        rintro e z_ ⟨rfl, hb⟩
        replace Hy := hid (Hy.out.on hb)
        replace Hx := hid (Hx.out.on hb)
        replace HD := hid (HD.out.on hb)
        replace BW := hid (BW.out.trans (hb.mono BW.out.size))
        clear hb
        go_wp2_with fail
        go_ret
        exact ⟨rfl, BW.out⟩
end Go.Proofs.LF
