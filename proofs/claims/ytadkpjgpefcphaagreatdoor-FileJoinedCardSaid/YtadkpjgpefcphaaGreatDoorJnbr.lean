/- Parts of the proof of a law of layer 11 (file): LfW79. The conditions stand in each theorem. -/
import Derived.BigQuiet
import Derived.Deep.AppendLies
import Derived.Deep.Cut
import Derived.Deep.CutBlock
import Derived.Deep.CutRange
import Derived.Deep.QuietTactic
import Derived.Deep.RegionHeld3
import Derived.Laws.ResultCell
import Derived.Outline
import Derived.Test.YtadkpjgpefcphaaGreatDoorProg
import Derived.WalkKit
import Derived.WalkLawsBesides
import Derived.WalkSpells
import Derived.Test.YtadkpjgpefcphaaGreatDoorJnbq
set_option linter.all false
set_option linter.unusedVariables false
set_option linter.unusedSimpArgs false
namespace Go.Proofs.LF
open Go.RowKit Go.Sort
set_option maxHeartbeats 4000000
set_option maxRecDepth 100000
attribute [local go_sem] bs_toList bs_size bs_get
theorem FileJoined_any (l1 l2 l3 : List Int) (i1 i2 i3 : Option Addr) (k1 k2 k3 : Nat) (w : World) (h1 : ByIn w (.slice i1 l1.length k1) l1) (h2 : ByIn w (.slice i2 l2.length k2) l2) (h3 : ByIn w (.slice i3 l3.length k3) l3) (ht : Pow w) :
    Calls Tryz.prog 6 #[.slice i1 l1.length k1, .slice i2 l2.length k2, .slice i3 l3.length k3] w fun e w' => e = .returned (.bool true) ∧ Below w.heap.size w w' := by
  have HT := hid ht
  have B1 := hid h1
  have B2 := hid h2
  have B3 := hid h3
  have BW := hid (Below.refl w.heap.size w)
  obtain ⟨i0, hi0, hz0, hz1, hz2⟩ := info_parts Tryz.info65'
  clear ht h1 h2 h3
  go_enter Tryz.func6, Tryz.ntmps6
  go_wp2_with fail
  refine (pile_c l1 i1 k1 w B1.out).mono ?_
  rintro e p1 ⟨rfl, hp⟩
  have HP := hid hp
  clear hp
  go_wp2_with fail
  refine (made_c w p1 HP.out).mono ?_
  rintro e w1 ⟨y, ay, cy, rfl, hF, ho, hb⟩
  replace B2 := hid (B2.out.on hb)
  replace B3 := hid (B3.out.on hb)
  replace BW := hid (BW.out.trans (hb.mono BW.out.size))
  have Hy := hid hF
  have Oy := hid ho
  clear hF ho hb HP
  go_wp2_with fail
  refine (pile_c l2 i2 k2 w1 B2.out).mono ?_
  rintro e p2 ⟨rfl, hp⟩
  have HP := hid hp
  clear hp
  go_wp2_with fail
  refine (changed_c y ay cy w1 p2 HP.out Hy.out Oy.out.1 (by have := Oy.out.2; omega)).mono ?_
  rintro e w2 ⟨a, aa, ca, rfl, hF, ho, hb⟩
  replace B3 := hid (B3.out.on hb)
  replace Hy := hid (Hy.out.on hb)
  replace BW := hid (BW.out.trans (hb.mono BW.out.size))
  have Ha := hid hF
  have Oa := hid ho
  clear hF ho hb HP
  go_wp2_with fail
  refine (pile_c l3 i3 k3 w2 B3.out).mono ?_
  rintro e p3 ⟨rfl, hp⟩
  have HP := hid hp
  clear hp
  go_wp2_with fail
  refine (changed_c y ay cy w2 p3 HP.out Hy.out Oy.out.1 (by have := Oy.out.2; omega)).mono ?_
  rintro e w3 ⟨b, ab, cb, rfl, hF, ho, hb⟩
  replace Hy := hid (Hy.out.on hb)
  replace Ha := hid (Ha.out.on hb)
  replace BW := hid (BW.out.trans (hb.mono BW.out.size))
  have Hb := hid hF
  have Ob := hid ho
  clear hF ho hb HP
  clear B1
  have ny := Oy.out.2
  have na := Oa.out.2
  have nb := Ob.out.2
  have BDy := hid (okF_bd Oy.out.1 (by omega))
  have BDa := hid (okF_bd Oa.out.1 (by omega))
  have BDb := hid (okF_bd Ob.out.1 (by omega))
  by_cases ky : y.cnt ≤ 60
  rotate_left
  · as_aux_lemma =>
      go_wp2_with fail
      refine (checkE_c y ay cy w3 Hy.out BDy.out (okF_many2 Oy.out.1 ky)).mono ?_
      rintro e c0_ ⟨rfl, hb⟩
      replace Hy := hid (Hy.out.on hb)
      replace Ha := hid (Ha.out.on hb)
      replace Hb := hid (Hb.out.on hb)
      replace BW := hid (BW.out.trans (hb.mono BW.out.size))
      clear hb
      go_wp2_with fail
      refine (few_c y ay cy c0_ Hy.out Oy.out.1 (by omega) (q := true) (by simp; omega)).mono ?_
      rintro e f0_ ⟨rfl, hb⟩
      replace Hy := hid (Hy.out.on hb)
      replace Ha := hid (Ha.out.on hb)
      replace Hb := hid (Hb.out.on hb)
      replace BW := hid (BW.out.trans (hb.mono BW.out.size))
      clear hb
      go_wp2_with fail
      refine (awake_any f0_ (HT.out.below BW.out)).mono ?_
      rintro e z_ ⟨rfl, hb⟩
      replace Hy := hid (Hy.out.on hb)
      replace Ha := hid (Ha.out.on hb)
      replace Hb := hid (Hb.out.on hb)
      replace BW := hid (BW.out.trans (hb.mono BW.out.size))
      clear hb
      go_wp2_with fail
      go_ret
      exact ⟨rfl, BW.out⟩
  by_cases ka : a.cnt ≤ 60
  rotate_left
  · as_aux_lemma =>
      go_wp2_with fail
      refine (checkE_c y ay cy w3 Hy.out BDy.out (okF_few Oy.out.1 ky)).mono ?_
      rintro e c0_ ⟨rfl, hb⟩
      replace Hy := hid (Hy.out.on hb)
      replace Ha := hid (Ha.out.on hb)
      replace Hb := hid (Hb.out.on hb)
      replace BW := hid (BW.out.trans (hb.mono BW.out.size))
      clear hb
      go_wp2_with fail
      refine (checkE_c a aa ca c0_ Ha.out BDa.out (okF_many2 Oa.out.1 ka)).mono ?_
      rintro e c1_ ⟨rfl, hb⟩
      replace Hy := hid (Hy.out.on hb)
      replace Ha := hid (Ha.out.on hb)
      replace Hb := hid (Hb.out.on hb)
      replace BW := hid (BW.out.trans (hb.mono BW.out.size))
      clear hb
      go_wp2_with fail
      refine (few_c y ay cy c1_ Hy.out Oy.out.1 (by omega) (q := false) (by simp; omega)).mono ?_
      rintro e f0_ ⟨rfl, hb⟩
      replace Hy := hid (Hy.out.on hb)
      replace Ha := hid (Ha.out.on hb)
      replace Hb := hid (Hb.out.on hb)
      replace BW := hid (BW.out.trans (hb.mono BW.out.size))
      clear hb
      go_wp2_with fail
      refine (few_c a aa ca f0_ Ha.out Oa.out.1 (by omega) (q := true) (by simp; omega)).mono ?_
      rintro e f1_ ⟨rfl, hb⟩
      replace Hy := hid (Hy.out.on hb)
      replace Ha := hid (Ha.out.on hb)
      replace Hb := hid (Hb.out.on hb)
      replace BW := hid (BW.out.trans (hb.mono BW.out.size))
      clear hb
      go_wp2_with fail
      refine (awake_any f1_ (HT.out.below BW.out)).mono ?_
      rintro e z_ ⟨rfl, hb⟩
      replace Hy := hid (Hy.out.on hb)
      replace Ha := hid (Ha.out.on hb)
      replace Hb := hid (Hb.out.on hb)
      replace BW := hid (BW.out.trans (hb.mono BW.out.size))
      clear hb
      go_wp2_with fail
      go_ret
      exact ⟨rfl, BW.out⟩
  by_cases kb : b.cnt ≤ 60
  rotate_left
  · as_aux_lemma =>
      go_wp2_with fail
      refine (checkE_c y ay cy w3 Hy.out BDy.out (okF_few Oy.out.1 ky)).mono ?_
      rintro e c0_ ⟨rfl, hb⟩
      replace Hy := hid (Hy.out.on hb)
      replace Ha := hid (Ha.out.on hb)
      replace Hb := hid (Hb.out.on hb)
      replace BW := hid (BW.out.trans (hb.mono BW.out.size))
      clear hb
      go_wp2_with fail
      refine (checkE_c a aa ca c0_ Ha.out BDa.out (okF_few Oa.out.1 ka)).mono ?_
      rintro e c1_ ⟨rfl, hb⟩
      replace Hy := hid (Hy.out.on hb)
      replace Ha := hid (Ha.out.on hb)
      replace Hb := hid (Hb.out.on hb)
      replace BW := hid (BW.out.trans (hb.mono BW.out.size))
      clear hb
      go_wp2_with fail
      refine (checkE_c b ab cb c1_ Hb.out BDb.out (okF_many2 Ob.out.1 kb)).mono ?_
      rintro e c2_ ⟨rfl, hb⟩
      replace Hy := hid (Hy.out.on hb)
      replace Ha := hid (Ha.out.on hb)
      replace Hb := hid (Hb.out.on hb)
      replace BW := hid (BW.out.trans (hb.mono BW.out.size))
      clear hb
      go_wp2_with fail
      refine (few_c y ay cy c2_ Hy.out Oy.out.1 (by omega) (q := false) (by simp; omega)).mono ?_
      rintro e f0_ ⟨rfl, hb⟩
      replace Hy := hid (Hy.out.on hb)
      replace Ha := hid (Ha.out.on hb)
      replace Hb := hid (Hb.out.on hb)
      replace BW := hid (BW.out.trans (hb.mono BW.out.size))
      clear hb
      go_wp2_with fail
      refine (few_c a aa ca f0_ Ha.out Oa.out.1 (by omega) (q := false) (by simp; omega)).mono ?_
      rintro e f1_ ⟨rfl, hb⟩
      replace Hy := hid (Hy.out.on hb)
      replace Ha := hid (Ha.out.on hb)
      replace Hb := hid (Hb.out.on hb)
      replace BW := hid (BW.out.trans (hb.mono BW.out.size))
      clear hb
      go_wp2_with fail
      refine (few_c b ab cb f1_ Hb.out Ob.out.1 (by omega) (q := true) (by simp; omega)).mono ?_
      rintro e f2_ ⟨rfl, hb⟩
      replace Hy := hid (Hy.out.on hb)
      replace Ha := hid (Ha.out.on hb)
      replace Hb := hid (Hb.out.on hb)
      replace BW := hid (BW.out.trans (hb.mono BW.out.size))
      clear hb
      go_wp2_with fail
      refine (awake_any f2_ (HT.out.below BW.out)).mono ?_
      rintro e z_ ⟨rfl, hb⟩
      replace Hy := hid (Hy.out.on hb)
      replace Ha := hid (Ha.out.on hb)
      replace Hb := hid (Hb.out.on hb)
      replace BW := hid (BW.out.trans (hb.mono BW.out.size))
      clear hb
      go_wp2_with fail
      go_ret
      exact ⟨rfl, BW.out⟩
  have cky := okF_few Oy.out.1 ky
  have cka := okF_few Oa.out.1 ka
  have ckb := okF_few Ob.out.1 kb
  obtain ⟨D, hD⟩ : ∃ D, difL y a = D := ⟨_, rfl⟩
  have dbd := dif_bd cky cka
  rw [hD] at dbd
  have HDB := hid dbd.2
  have hDl := dbd.1
  have hdd := alike_self cky cka
  rw [hD] at hdd
  have HDD := hid hdd
  have HDE := hid hD
  have J2 := hid (joE_two cky cka ckb)
  have JT := hid (fun h => joined_two cky cka ckb h)
  have CKy := hid cky
  have CKa := hid cka
  clear cky cka ckb dbd hdd hD
  go_wp2_with fail
  refine (checkE_c y ay cy w3 Hy.out BDy.out (okF_few Oy.out.1 ky)).mono ?_
  rintro e c0_ ⟨rfl, hb⟩
  replace Hy := hid (Hy.out.on hb)
  replace Ha := hid (Ha.out.on hb)
  replace Hb := hid (Hb.out.on hb)
  replace BW := hid (BW.out.trans (hb.mono BW.out.size))
  clear hb
  go_wp2_with fail
  refine (checkE_c a aa ca c0_ Ha.out BDa.out (okF_few Oa.out.1 ka)).mono ?_
  rintro e c1_ ⟨rfl, hb⟩
  replace Hy := hid (Hy.out.on hb)
  replace Ha := hid (Ha.out.on hb)
  replace Hb := hid (Hb.out.on hb)
  replace BW := hid (BW.out.trans (hb.mono BW.out.size))
  clear hb
  go_wp2_with fail
  refine (checkE_c b ab cb c1_ Hb.out BDb.out (okF_few Ob.out.1 kb)).mono ?_
  rintro e c2_ ⟨rfl, hb⟩
  replace Hy := hid (Hy.out.on hb)
  replace Ha := hid (Ha.out.on hb)
  replace Hb := hid (Hb.out.on hb)
  replace BW := hid (BW.out.trans (hb.mono BW.out.size))
  clear hb
  go_wp2_with fail
  refine (joinB_c y a ay ay aa cy cy ca c2_ Hy.out Hy.out Ha.out BDy.out BDa.out CKy.out CKa.out (HT.out.below BW.out)).mono ?_
  rintro e g1_ ⟨aj, cj, ap, cp, rfl, hJ, hb⟩
  replace Hy := hid (Hy.out.on hb)
  replace Ha := hid (Ha.out.on hb)
  replace Hb := hid (Hb.out.on hb)
  replace BW := hid (BW.out.trans (hb.mono BW.out.size))
  have HJ := hid hJ
  clear hJ
  clear hb
  go_wp2_with fail
  refine (joinS_c y a ay aa aa cy ca ca g1_ Hy.out Ha.out Ha.out BDy.out BDa.out CKy.out CKa.out (HT.out.below BW.out)).mono ?_
  rintro e g2_ ⟨ak, ck, aq, cq, rfl, hJ, hb⟩
  replace Hy := hid (Hy.out.on hb)
  replace Ha := hid (Ha.out.on hb)
  replace Hb := hid (Hb.out.on hb)
  replace HJ := hid (HJ.out.on hb)
  replace BW := hid (BW.out.trans (hb.mono BW.out.size))
  have HK := hid hJ
  clear hJ
  clear hb
  go_wp2_with fail
  refine (alikeD_c y a D ay aa aa cy ca ca g2_ Hy.out Ha.out Ha.out BDy.out BDa.out HDD.out (HT.out.below BW.out)).mono ?_
  rintro e g3_ ⟨al, cl, rfl, hL, hb⟩
  replace Hy := hid (Hy.out.on hb)
  replace Ha := hid (Ha.out.on hb)
  replace Hb := hid (Hb.out.on hb)
  replace HJ := hid (HJ.out.on hb)
  replace HK := hid (HK.out.on hb)
  replace BW := hid (BW.out.trans (hb.mono BW.out.size))
  have HL := hid hL
  clear hL
  clear hb
  go_wp2_with fail
  refine (diff_c y a ay aa cy ca g3_ Hy.out Ha.out BDy.out BDa.out (HT.out.below BW.out) (E := 0) (D := D) ⟨HDD.out.2.1, HDE.out⟩).mono ?_
  rintro e g4_ ⟨ad, cd, rfl, hL, hb⟩
  replace Hy := hid (Hy.out.on hb)
  replace Ha := hid (Ha.out.on hb)
  replace Hb := hid (Hb.out.on hb)
  replace HJ := hid (HJ.out.on hb)
  replace HK := hid (HK.out.on hb)
  replace HL := hid (HL.out.on hb)
  replace BW := hid (BW.out.trans (hb.mono BW.out.size))
  have HD := hid hL
  clear hL
  clear hb
  go_wp2_with fail
  refine (eqY_c a aj aa cj ca g4_ HJ.out Ha.out BDa.out).mono ?_
  rintro e g5_ ⟨rfl, hb⟩
  replace Hy := hid (Hy.out.on hb)
  replace Ha := hid (Ha.out.on hb)
  replace Hb := hid (Hb.out.on hb)
  replace HJ := hid (HJ.out.on hb)
  replace HK := hid (HK.out.on hb)
  replace HL := hid (HL.out.on hb)
  replace HD := hid (HD.out.on hb)
  replace BW := hid (BW.out.trans (hb.mono BW.out.size))
  clear hb
  clear HJ
  go_wp2_with fail
  refine (eqY_c a ak aa ck ca g5_ HK.out Ha.out BDa.out).mono ?_
  rintro e g6_ ⟨rfl, hb⟩
  replace Hy := hid (Hy.out.on hb)
  replace Ha := hid (Ha.out.on hb)
  replace Hb := hid (Hb.out.on hb)
  replace HK := hid (HK.out.on hb)
  replace HL := hid (HL.out.on hb)
  replace HD := hid (HD.out.on hb)
  replace BW := hid (BW.out.trans (hb.mono BW.out.size))
  clear hb
  clear HK
  have hLs := HL.out
  have hDs := HD.out
  obtain ⟨al', cl', e1, _, hmL, hatL⟩ := LSl.at hLs
  rw [List.length_map] at e1
  obtain ⟨ad', cd', e2, _, hmD, hatD⟩ := LSl.at hDs
  have HatL := hid hatL
  have HatD := hid hatD
  obtain ⟨rfl, rfl⟩ : al = al' ∧ cl = cl' := by cases e1; exact ⟨rfl, rfl⟩
  obtain ⟨rfl, rfl⟩ : ad = ad' ∧ cd = cd' := by cases e2; exact ⟨rfl, rfl⟩
  unfold maxLen at hmL hmD
  clear hLs hDs hatL hatD e1 e2
  go_wp2_with fail
  go_loopw [148] (fun i wr => ∃ k : Nat, k ≤ D.length ∧ i = .int .i64 k ∧ Hid (Below g6_.heap.size g6_ wr)) (fun i _ => D.length - (intOf i).toNat)
  case atStart => exact ⟨0, by omega, rfl, Below.refl _ _⟩
  case round =>
    obtain ⟨k, hk, rfl, hB⟩ := hrel
    have hzr := hB.out.size
    by_cases hlt : k < D.length
    · as_aux_lemma =>
        have hlt' : (k : Int) < (D.length : Int) := by omega
        obtain ⟨gd, od, csd, rfl, hgd, ⟨ap1, cp1, ao1, co1, an1, cn1, rfl, hPd, _, _⟩, hcd⟩ := HatD.out k hlt
        obtain ⟨gl, ol, csl, rfl, hgl, ⟨ap2, cp2, rfl, hPl⟩, hcl⟩ := HatL.out k (by simpa using hlt)
        rw [List.getElem_map] at hPl hcl
        have hpl := HDB.out D[k] (List.getElem_mem hlt)
        obtain ⟨x, hx⟩ : ∃ x, D[k] = x := ⟨_, rfl⟩
        rw [hx] at hPd hcd hPl hcl hpl
        have hag := Agree.of_below (S := fun q => q < g6_.heap.size) hB.out (fun _ h => h)
        have c0 := hag.cell hgd (hcd 0 _ rfl)
        have c1 := hag.cell hgd (hcd 1 _ rfl)
        have c2 := hag.cell hgd (hcd 2 _ rfl)
        have c3 := hag.cell hgd (hcd 3 _ rfl)
        have c4 := hag.cell hgd (hcd 4 _ rfl)
        have d0 := hag.cell hgl (hcl 0 _ rfl)
        rw [Nat.mul_one, Nat.add_zero] at d0
        rw [Nat.add_zero] at c0
        simp only [← Nat.add_assoc] at c1 c2 c3 c4
        have hglr : gl < wr.heap.size := by omega
        have HPd := hid (PtIn.on hPd hB.out)
        have HPl := hid (PtIn.on hPl hB.out)
        have HD0 := hid d0
        clear hcd hcl hPd hPl hx hag d0
        go_wp2_with fail
        have NB := hid (heap_alloc_new wr (.cells #[.slice ap1 x.p.length cp1, .bool x.had, .bool x.has, .slice ao1 x.old.length co1, .slice an1 x.new.length cn1] 68))
        have BA := hid ((Below.refl wr.heap.size wr).alloc (Nat.le_refl _) (.cells #[.slice ap1 x.p.length cp1, .bool x.had, .bool x.has, .slice ao1 x.old.length co1, .slice an1 x.new.length cn1] 68))
        obtain ⟨wa, hwa⟩ : ∃ wa, wr.alloc (.cells #[.slice ap1 x.p.length cp1, .bool x.had, .bool x.has, .slice ao1 x.old.length co1, .slice an1 x.new.length cn1] 68) = wa := ⟨_, rfl⟩
        have hza : wr.heap.size < wa.heap.size := by rw [← hwa]; simp
        rw [hwa] at NB BA ⊢
        have hS0 : wa.drew.cell? ⟨gl, ol + k, none⟩ = some (.slice ap2 x.p.length cp2) ∧ wa.drew.cell? ⟨wr.heap.size, 0, none⟩ = some (.slice ap1 x.p.length cp1) := ⟨below_cell BA.out.drew hglr HD0.out, below_cell (Below.refl wa.heap.size wa).drew hza (cells_get NB.out (k := 0) rfl)⟩
        have CALL := hid (eqK_c x.p x.p ap2 ap1 cp2 cp1 wa.drew (HPl.out.on BA.out.drew) (HPd.out.on BA.out.drew) hpl hpl)
        have HS0 := hid hS0
        have BD2 := hid BA.out.drew
        have HWA := hid hwa
        clear hwa NB BA c0 c1 c2 c3 c4 hS0
        refine (wpIn_wide (n := 9)).1 ?_
        refine region_held (fun w' : World => w'.cell? ⟨gl, ol + k, none⟩ = some (.slice ap2 x.p.length cp2) ∧ w'.cell? ⟨wr.heap.size, 0, none⟩ = some (.slice ap1 x.p.length cp1)) (by kernel_rfl) ?_
        have hS0 := HS0.out
        refine AnyH_takeD (fun _ => trivial) (by kernel_rfl) 0 153 (.slice (some ⟨gl, ol, none⟩) D.length cl) rfl rfl (by kernel_rfl) (by kernel_rfl) (by kernel_rfl) (fun _ _ _ h => h) (.inl ⟨by kernel_rfl, fun w' hs => ?_⟩) hS0 ?_
        · go_simp
        refine AnyH_takeD (fun _ => trivial) (by kernel_rfl) 1 154 (.int .i64 k) rfl rfl (by kernel_rfl) (by kernel_rfl) (by kernel_rfl) (fun _ _ _ h => h) (.inl ⟨by kernel_rfl, fun w' hs => ?_⟩) hS0 ?_
        · go_simp
        refine AnyH_takeD (fun _ => trivial) (by kernel_rfl) 2 155 (.pointer (some ⟨gl, ol + k, none⟩)) rfl rfl (by kernel_rfl) (by kernel_rfl) (by kernel_rfl) (fun _ _ _ h => h) (.inl ⟨by kernel_rfl, fun w' hs => ?_⟩) hS0 ?_
        · go_simp
        refine AnyH_takeD (fun _ => trivial) (by kernel_rfl) 3 156 (.slice ap2 x.p.length cp2) rfl rfl (by kernel_rfl) (by kernel_rfl) (by kernel_rfl) (fun _ _ _ h => h) (.inl ⟨by kernel_rfl, fun w' hs => ?_⟩) hS0 ?_
        · obtain ⟨q0, q1⟩ := hs
          go_simp
        refine AnyH_takeD (fun _ => trivial) (by kernel_rfl) 4 157 (.pointer (some ⟨wr.heap.size, 0, none⟩)) rfl rfl (by kernel_rfl) (by kernel_rfl) (by kernel_rfl) (fun _ _ _ h => h) (.inl ⟨by kernel_rfl, fun w' hs => ?_⟩) hS0 ?_
        · go_simp
        refine AnyH_takeD (fun _ => trivial) (by kernel_rfl) 5 158 (.slice ap1 x.p.length cp1) rfl rfl (by kernel_rfl) (by kernel_rfl) (by kernel_rfl) (fun _ _ _ h => h) (.inl ⟨by kernel_rfl, fun w' hs => ?_⟩) hS0 ?_
        · obtain ⟨q0, q1⟩ := hs
          go_simp
        refine AnyH_one (i := 6) (by kernel_rfl) rfl (by kernel_rfl) (fun K hK => ?_)
        go_simp
        refine ⟨trivial, (callsIn_wide.2 CALL.out).mono ?_⟩
        rintro e w5 ⟨he5, hb5⟩
        rw [decide_eq_true rfl] at he5
        subst he5
        have BX := BD2.out.trans (hb5.mono (by have := BD2.out.size; omega))
        have hS5 : w5.cell? ⟨gl, ol + k, none⟩ = some (.slice ap2 x.p.length cp2) ∧ w5.cell? ⟨wr.heap.size, 0, none⟩ = some (.slice ap1 x.p.length cp1) := ⟨below_cell BX hglr HD0.out, below_cell hb5 (by simpa using hza) HS0.out.2⟩
        refine hK _ _ ⟨hS5, ?_⟩
        clear hK
        refine AnyH_takeD (fun _ => trivial) (by kernel_rfl) 7 160 (.bool false) rfl rfl (by kernel_rfl) (by kernel_rfl) (by kernel_rfl) (fun _ _ _ h => h) (.inl ⟨by kernel_rfl, fun w' hs => ?_⟩) hS5 ?_
        · go_simp
        refine AnyH_done (by kernel_rfl) ?_
        go_simp
        have HBX := hid BX
        clear hb5 hS5 BX
        go_wp2_with fail
        go_roundw
        case rel => exact ⟨k + 1, by omega, by go_num, hid (hB.out.trans (HBX.out.mono hzr))⟩
        case measure => simp [intOf]; omega
    · have hlt' : ¬ (k : Int) < (D.length : Int) := by omega
      have hb := hB.out
      clear hlt hk
      clear HL HD HatL HatD
      replace Hy := hid (Hy.out.on hb)
      replace Ha := hid (Ha.out.on hb)
      replace Hb := hid (Hb.out.on hb)
      replace BW := hid (BW.out.trans (hb.mono BW.out.size))
      clear hb hB
      obtain ⟨Y, hY⟩ : ∃ Y, joY y a b = Y := ⟨_, rfl⟩
      obtain ⟨P, hP⟩ : ∃ P, joP y a b = P := ⟨_, rfl⟩
      obtain ⟨E, hE⟩ : ∃ E, joE y a b = E := ⟨_, rfl⟩
      have hjt := JT.out
      have hj2 := J2.out
      rw [hY, hP, hE] at hjt
      rw [hE] at hj2
      have HJT := hid hjt
      have HJE := hid (And.intro hE (And.intro hY hP))
      clear hjt hY hP hE JT J2
      go_wp2_with fail
      refine (join_c y a b ay aa ab cy ca cb wr Hy.out Ha.out Hb.out BDy.out BDa.out BDb.out (HT.out.below BW.out) HJE.out).mono ?_
      rintro e g7_ ⟨aj, cj, ap, cp, rfl, hJ, hP, hb⟩
      replace Hy := hid (Hy.out.on hb)
      replace Ha := hid (Ha.out.on hb)
      replace Hb := hid (Hb.out.on hb)
      replace BW := hid (BW.out.trans (hb.mono BW.out.size))
      have HJ := hid hJ
      have HP := hid hP
      clear hJ hP
      clear hb
      rcases hj2 with rfl | rfl
      rotate_left
      · as_aux_lemma =>
          go_wp2_with fail
          refine (awake_any g7_ (HT.out.below BW.out)).mono ?_
          rintro e z_ ⟨rfl, hb⟩
          replace Hy := hid (Hy.out.on hb)
          replace Ha := hid (Ha.out.on hb)
          replace Hb := hid (Hb.out.on hb)
          replace HJ := hid (HJ.out.on hb)
          replace HP := hid (HP.out.on hb)
          replace BW := hid (BW.out.trans (hb.mono BW.out.size))
          clear hb
          go_wp2_with fail
          go_ret
          exact ⟨rfl, BW.out⟩
      obtain ⟨hJn, hjr⟩ := HJT.out rfl
      have HJR := hid hjr
      have HPB := hid (joP_bd CKy.out CKa.out (okF_few Ob.out.1 kb) HJE.out)
      have BDJ := hid (joY_bd CKy.out CKa.out (okF_few Ob.out.1 kb) HJE.out)
      clear hjr HJT HJE
      go_wp2_with fail
      refine (all_c a aa ca g7_ Ha.out BDa.out).mono ?_
      rintro e g8_ ⟨a1, c1, a2, c2, cs1, rfl, hX, hb⟩
      have HX := hid hX
      have HXB := hid hb
      clear hX hb
      go_wp2_with fail
      refine (all_c b ab cb g8_ (Hb.out.on HXB.out) BDb.out).mono ?_
      rintro e g9_ ⟨a3, c3, a4, c4, cs2, rfl, hV, hb⟩
      have HV := hid hV
      have HVB := hid hb
      clear hV hb
      obtain ⟨v1, v2, v3, v4⟩ := HV.out.news
      have ow1 := owns_below HX.out.2.1 HVB.out (Nat.le_refl _)
      have z8 := HXB.out.size
      have z9 := HVB.out.size
      have V1 := hid v1
      have V2 := hid v2
      have V3 := hid v3
      have V4 := hid v4
      have OW1 := hid ow1
      clear v1 v2 v3 v4 ow1
      go_wp2_with (at_builtin; refine (wpList_append_ao _ rfl _ _ _ rfl g7_.heap.size 65 i0 _ 1 24 Tryz.underlying49 hi0 hz0 hz1 hz2 rfl (by omega) _ a.cnt cs1 rfl OW1.out a3 b.cnt c3 cs2 rfl V1.out V2.out V3.out V4.out (by unfold maxLen; omega) (by omega) (by omega) ?_); intro a5 c5 ga_ hown5 hgrow5 hat5)
      obtain ⟨hrs, hb⟩ := all_app HX.out HXB.out HV.out HVB.out hown5 hgrow5
      have HRS := hid hrs
      clear hown5 hgrow5 hat5 hrs HX HXB HV HVB V1 V2 V3 V4 OW1 z8 z9
      replace Hy := hid (Hy.out.on hb)
      replace Ha := hid (Ha.out.on hb)
      replace Hb := hid (Hb.out.on hb)
      replace HJ := hid (HJ.out.on hb)
      replace HP := hid (HP.out.on hb)
      replace BW := hid (BW.out.trans (hb.mono BW.out.size))
      clear hb
      obtain ⟨rs, hrs⟩ : ∃ rs, evP [] a ++ evP [] b = rs := ⟨_, rfl⟩
      have hrl : rs.length = a.cnt + b.cnt := by rw [← hrs, List.length_append, evP_length, evP_length]
      have hrm : ∀ r ∈ rs, r ∈ evP [] a ∨ r ∈ evP [] b := fun r h => by rw [← hrs] at h; exact List.mem_append.1 h
      have hrb : ∀ r ∈ rs, r.length ≤ 1000 := fun r h => by
        rcases hrm r h with h | h
        · have := path_length_le h; simp at this; omega
        · have := path_length_le h; simp at this; omega
      have hrq := HRS.out
      rw [hrs] at hrq
      obtain ⟨a5', c5', e1, _, hmR, hatR⟩ := LSl.at hrq
      rw [hrl] at e1
      obtain ⟨rfl, rfl⟩ : a5 = a5' ∧ c5 = c5' := by cases e1; exact ⟨rfl, rfl⟩
      have HatR := hid hatR
      have HRM := hid hrm
      have HRB := hid hrb
      have HRL := hid hrl
      unfold maxLen at hmR
      have hnn : a.cnt + b.cnt ≤ 400 := by omega
      clear hrs hrl hrm hrb hrq hatR e1 HRS
      go_wp2_with fail
      go_loopw [191] (fun i wr => ∃ k : Nat, k ≤ a.cnt + b.cnt ∧ i = .int .i64 k ∧ Hid (Below ga_.heap.size ga_ wr)) (fun i _ => (a.cnt + b.cnt) - (intOf i).toNat)
      case atStart => exact ⟨0, by omega, rfl, Below.refl _ _⟩
      case round =>
        rename_i _ wq
        obtain ⟨k, hk, rfl, hB⟩ := hrel
        have hzr := hB.out.size
        by_cases hlt : k < a.cnt + b.cnt
        · as_aux_lemma =>
            have hlt' : (k : Int) < (a.cnt : Int) + (b.cnt : Int) := by omega
            have hlr : k < rs.length := by rw [HRL.out]; exact hlt
            obtain ⟨gl, ol, csl, rfl, hgl, ⟨ap2, cp2, rfl, hPl⟩, hcl⟩ := HatR.out k hlr
            have hrbk := HRB.out rs[k] (List.getElem_mem hlr)
            have hrmk := HRM.out rs[k] (List.getElem_mem hlr)
            obtain ⟨x, hx⟩ : ∃ x, rs[k] = x := ⟨_, rfl⟩
            rw [hx] at hPl hcl hrbk hrmk
            have hag := Agree.of_below (S := fun q => q < ga_.heap.size) hB.out (fun _ h => h)
            have c0 := hag.cell hgl (hcl 0 _ rfl)
            rw [Nat.mul_one, Nat.add_zero] at c0
            have HR := hid (PtIn.on hPl hB.out)
            obtain ⟨nY, hnY⟩ : ∃ q, nsAt y x = q := ⟨_, rfl⟩
            obtain ⟨nA, hnA⟩ : ∃ q, nsAt a x = q := ⟨_, rfl⟩
            obtain ⟨nB, hnB⟩ : ∃ q, nsAt b x = q := ⟨_, rfl⟩
            obtain ⟨nJ, hnJ⟩ : ∃ q, nsAt Y x = q := ⟨_, rfl⟩
            obtain ⟨iY, hiY⟩ : ∃ q, isAt y x = q := ⟨_, rfl⟩
            obtain ⟨iA, hiA⟩ : ∃ q, isAt a x = q := ⟨_, rfl⟩
            obtain ⟨iB, hiB⟩ : ∃ q, isAt b x = q := ⟨_, rfl⟩
            obtain ⟨iJ, hiJ⟩ : ∃ q, isAt Y x = q := ⟨_, rfl⟩
            obtain ⟨nm, hnm⟩ : ∃ q, decide (x ∈ P) = q := ⟨_, rfl⟩
            obtain ⟨qYA, hqYA⟩ : ∃ q, decide (nY = nA) = q := ⟨_, rfl⟩
            obtain ⟨qYB, hqYB⟩ : ∃ q, decide (nY = nB) = q := ⟨_, rfl⟩
            obtain ⟨qJA, hqJA⟩ : ∃ q, decide (nJ = nA) = q := ⟨_, rfl⟩
            obtain ⟨qJB, hqJB⟩ : ∃ q, decide (nJ = nB) = q := ⟨_, rfl⟩
            obtain ⟨qJY, hqJY⟩ : ∃ q, decide (nJ = nY) = q := ⟨_, rfl⟩
            obtain ⟨qAB, hqAB⟩ : ∃ q, decide (nA = nB) = q := ⟨_, rfl⟩
            have LAW := hid (joined_bool (HJR.out x hrmk) hnY hnA hnB hnJ hiY hiA hiB hiJ hnm hqYA hqYB hqJA hqJB hqJY hqAB)
            have lY : nY.length ≤ 1000 := by rw [← hnY]; exact nsAt_len BDy.out x
            have lA : nA.length ≤ 1000 := by rw [← hnA]; exact nsAt_len BDa.out x
            have lB : nB.length ≤ 1000 := by rw [← hnB]; exact nsAt_len BDb.out x
            have lJ : nJ.length ≤ 1000 := by rw [← hnJ]; exact nsAt_len BDJ.out x
            have EY := hid (And.intro hnY hiY)
            have EA := hid (And.intro hnA hiA)
            have EB := hid (And.intro hnB hiB)
            have EJ := hid (And.intro hnJ hiJ)
            have QYA := hid hqYA
            have QYB := hid hqYB
            have QJA := hid hqJA
            have QJB := hid hqJB
            have QJY := hid hqJY
            have QAB := hid hqAB
            have NM := hid hnm
            have hb := hB.out
            clear hcl hPl hrmk hx hag hnY hnA hnB hnJ hiY hiA hiB hiJ hnm hqYA hqYB hqJA hqJB hqJY hqAB
            replace Hy := hid (Hy.out.on hb)
            replace Ha := hid (Ha.out.on hb)
            replace Hb := hid (Hb.out.on hb)
            replace HJ := hid (HJ.out.on hb)
            replace HP := hid (HP.out.on hb)
            replace BW := hid (BW.out.trans (hb.mono BW.out.size))
            clear hb
            go_upto_region 25 with fail
            have NBK := hid (heap_alloc_new wr (.cells #[.slice ap2 x.length cp2] 65))
            have hb := (Below.refl wr.heap.size wr).alloc (Nat.le_refl _) (.cells #[.slice ap2 x.length cp2] 65)
            obtain ⟨wa, hwa⟩ : ∃ wa, wr.alloc (.cells #[.slice ap2 x.length cp2] 65) = wa := ⟨_, rfl⟩
            have hza : wr.heap.size < wa.heap.size := by rw [← hwa]; simp
            rw [hwa] at NBK hb ⊢
            have HWA := hid hwa
            have BR := hid hb
            clear hwa c0
            replace Hy := hid (Hy.out.on hb)
            replace Ha := hid (Ha.out.on hb)
            replace Hb := hid (Hb.out.on hb)
            replace HJ := hid (HJ.out.on hb)
            replace HP := hid (HP.out.on hb)
            replace HR := hid (HR.out.on hb)
            replace BW := hid (BW.out.trans (hb.mono BW.out.size))
            clear hb
            have BC := hid (Below.refl wa.heap.size wa)
            have hcF := cells_get NBK.out (k := 0) (v := .slice ap2 x.length cp2) rfl
            have HCF := hid hcF
            go_wp2_with fail
            refine (at_c y x ay ap2 cy cp2 wa Hy.out HR.out BDy.out hrbk EY.out).mono ?_
            rintro e tY_ ⟨aY, cY, rfl, hN, hb⟩
            replace Hy := hid (Hy.out.on hb)
            replace Ha := hid (Ha.out.on hb)
            replace Hb := hid (Hb.out.on hb)
            replace HJ := hid (HJ.out.on hb)
            replace HP := hid (HP.out.on hb)
            replace HR := hid (HR.out.on hb)
            replace BW := hid (BW.out.trans (hb.mono BW.out.size))
            replace BR := hid (BR.out.trans (hb.mono BR.out.size))
            replace BC := hid (BC.out.trans (hb.mono BC.out.size))
            have NY := hid hN
            clear hN hcF
            clear hb
            have hcF := below_cell BC.out hza HCF.out
            go_wp2_with fail
            refine (at_c a x aa ap2 ca cp2 tY_ Ha.out HR.out BDa.out hrbk EA.out).mono ?_
            rintro e tA_ ⟨aA, cA, rfl, hN, hb⟩
            replace Hy := hid (Hy.out.on hb)
            replace Ha := hid (Ha.out.on hb)
            replace Hb := hid (Hb.out.on hb)
            replace HJ := hid (HJ.out.on hb)
            replace HP := hid (HP.out.on hb)
            replace HR := hid (HR.out.on hb)
            replace NY := hid (NY.out.on hb)
            replace BW := hid (BW.out.trans (hb.mono BW.out.size))
            replace BR := hid (BR.out.trans (hb.mono BR.out.size))
            replace BC := hid (BC.out.trans (hb.mono BC.out.size))
            have NA := hid hN
            clear hN hcF
            clear hb
            have hcF := below_cell BC.out hza HCF.out
            go_wp2_with fail
            refine (at_c b x ab ap2 cb cp2 tA_ Hb.out HR.out BDb.out hrbk EB.out).mono ?_
            rintro e tB_ ⟨aB, cB, rfl, hN, hb⟩
            replace Hy := hid (Hy.out.on hb)
            replace Ha := hid (Ha.out.on hb)
            replace Hb := hid (Hb.out.on hb)
            replace HJ := hid (HJ.out.on hb)
            replace HP := hid (HP.out.on hb)
            replace HR := hid (HR.out.on hb)
            replace NY := hid (NY.out.on hb)
            replace NA := hid (NA.out.on hb)
            replace BW := hid (BW.out.trans (hb.mono BW.out.size))
            replace BR := hid (BR.out.trans (hb.mono BR.out.size))
            replace BC := hid (BC.out.trans (hb.mono BC.out.size))
            have NB := hid hN
            clear hN hcF
            clear hb
            have hcF := below_cell BC.out hza HCF.out
            go_wp2_with fail
            refine (at_c Y x aj ap2 cj cp2 tB_ HJ.out HR.out BDJ.out hrbk EJ.out).mono ?_
            rintro e tJ_ ⟨aJ, cJ, rfl, hN, hb⟩
            replace Hy := hid (Hy.out.on hb)
            replace Ha := hid (Ha.out.on hb)
            replace Hb := hid (Hb.out.on hb)
            replace HJ := hid (HJ.out.on hb)
            replace HP := hid (HP.out.on hb)
            replace HR := hid (HR.out.on hb)
            replace NY := hid (NY.out.on hb)
            replace NA := hid (NA.out.on hb)
            replace NB := hid (NB.out.on hb)
            replace BW := hid (BW.out.trans (hb.mono BW.out.size))
            replace BR := hid (BR.out.trans (hb.mono BR.out.size))
            replace BC := hid (BC.out.trans (hb.mono BC.out.size))
            have NJ := hid hN
            clear hN hcF
            clear hb
            have hcF := below_cell BC.out hza HCF.out
            have CN := hid (contK_c P x ap ap2 cp cp2 wr.heap.size tJ_ HP.out HR.out (by have := BC.out.size; omega) hcF HPB.out.1 HPB.out.2 hrbk NM.out)
            clear hcF
            go_wp2_with fail
            refine (CN.out).mono ?_
            rintro e tN_ ⟨rfl, hb⟩
            replace Hy := hid (Hy.out.on hb)
            replace Ha := hid (Ha.out.on hb)
            replace Hb := hid (Hb.out.on hb)
            replace HJ := hid (HJ.out.on hb)
            replace HP := hid (HP.out.on hb)
            replace HR := hid (HR.out.on hb)
            replace NY := hid (NY.out.on hb)
            replace NA := hid (NA.out.on hb)
            replace NB := hid (NB.out.on hb)
            replace NJ := hid (NJ.out.on hb)
            replace BW := hid (BW.out.trans (hb.mono BW.out.size))
            replace BR := hid (BR.out.trans (hb.mono BR.out.size))
            replace BC := hid (BC.out.trans (hb.mono BC.out.size))
            clear CN
            clear hb
            clear HR HP HCF NBK HWA
            clear BC
            have EYA := hid (fun W (h : Below tN_.heap.size tN_ W) => eqN_c nY nA aY aA cY cA W (NY.out.on h) (NA.out.on h) lY lA QYA.out)
            have EYB := hid (fun W (h : Below tN_.heap.size tN_ W) => eqN_c nY nB aY aB cY cB W (NY.out.on h) (NB.out.on h) lY lB QYB.out)
            have EJA := hid (fun W (h : Below tN_.heap.size tN_ W) => eqN_c nJ nA aJ aA cJ cA W (NJ.out.on h) (NA.out.on h) lJ lA QJA.out)
            have EJB := hid (fun W (h : Below tN_.heap.size tN_ W) => eqN_c nJ nB aJ aB cJ cB W (NJ.out.on h) (NB.out.on h) lJ lB QJB.out)
            have EJY := hid (fun W (h : Below tN_.heap.size tN_ W) => eqN_c nJ nY aJ aY cJ cY W (NJ.out.on h) (NY.out.on h) lJ lY QJY.out)
            have EAB := hid (fun W (h : Below tN_.heap.size tN_ W) => eqN_c nA nB aA aB cA cB W (NA.out.on h) (NB.out.on h) lA lB QAB.out)
            obtain ⟨sA, hsA⟩ : ∃ s, (iY == iA && qYA) = s := ⟨_, rfl⟩
            obtain ⟨sB, hsB⟩ : ∃ s, (iY == iB && qYB) = s := ⟨_, rfl⟩
            have HSA := hid hsA
            have HSB := hid hsB
            have law := LAW.out
            rw [hsA, hsB] at law
            have LAW2 := hid law
            clear hsA hsB law LAW
            go_upto_region 30 with fail
            go_cut [37, 38] from 222 to 237 (fun va vb wx => va = .bool sA ∧ vb = .bool sB ∧ Hid (Below tN_.heap.size tN_ wx))
            case first =>
              cases iY <;> cases iA <;> cases iB
              · as_aux_lemma =>
                  have BZ := hid (Below.refl tN_.heap.size tN_)
                  go_wp2_with fail
                  refine (EYA.out tN_ BZ.out).mono ?_
                  rintro e u1_ ⟨rfl, hb⟩
                  replace BZ := hid (BZ.out.trans (hb.mono BZ.out.size))
                  clear hb
                  go_wp2_with fail
                  refine (EYB.out u1_ BZ.out).mono ?_
                  rintro e u2_ ⟨rfl, hb⟩
                  replace BZ := hid (BZ.out.trans (hb.mono BZ.out.size))
                  clear hb
                  go_wp2_with fail
                  go_meet
                  case rel => exact ⟨by rw [← HSA.out]; rfl, by rw [← HSB.out]; rfl, BZ⟩
              · as_aux_lemma =>
                  have BZ := hid (Below.refl tN_.heap.size tN_)
                  go_wp2_with fail
                  refine (EYA.out tN_ BZ.out).mono ?_
                  rintro e u1_ ⟨rfl, hb⟩
                  replace BZ := hid (BZ.out.trans (hb.mono BZ.out.size))
                  clear hb
                  go_wp2_with fail
                  go_meet
                  case rel => exact ⟨by rw [← HSA.out]; rfl, by rw [← HSB.out]; rfl, BZ⟩
              · as_aux_lemma =>
                  have BZ := hid (Below.refl tN_.heap.size tN_)
                  go_wp2_with fail
                  refine (EYB.out tN_ BZ.out).mono ?_
                  rintro e u2_ ⟨rfl, hb⟩
                  replace BZ := hid (BZ.out.trans (hb.mono BZ.out.size))
                  clear hb
                  go_wp2_with fail
                  go_meet
                  case rel => exact ⟨by rw [← HSA.out]; rfl, by rw [← HSB.out]; rfl, BZ⟩
              · as_aux_lemma =>
                  have BZ := hid (Below.refl tN_.heap.size tN_)
                  go_wp2_with fail
                  go_meet
                  case rel => exact ⟨by rw [← HSA.out]; rfl, by rw [← HSB.out]; rfl, BZ⟩
              · as_aux_lemma =>
                  have BZ := hid (Below.refl tN_.heap.size tN_)
                  go_wp2_with fail
                  go_meet
                  case rel => exact ⟨by rw [← HSA.out]; rfl, by rw [← HSB.out]; rfl, BZ⟩
              · as_aux_lemma =>
                  have BZ := hid (Below.refl tN_.heap.size tN_)
                  go_wp2_with fail
                  refine (EYB.out tN_ BZ.out).mono ?_
                  rintro e u2_ ⟨rfl, hb⟩
                  replace BZ := hid (BZ.out.trans (hb.mono BZ.out.size))
                  clear hb
                  go_wp2_with fail
                  go_meet
                  case rel => exact ⟨by rw [← HSA.out]; rfl, by rw [← HSB.out]; rfl, BZ⟩
              · as_aux_lemma =>
                  have BZ := hid (Below.refl tN_.heap.size tN_)
                  go_wp2_with fail
                  refine (EYA.out tN_ BZ.out).mono ?_
                  rintro e u1_ ⟨rfl, hb⟩
                  replace BZ := hid (BZ.out.trans (hb.mono BZ.out.size))
                  clear hb
                  go_wp2_with fail
                  go_meet
                  case rel => exact ⟨by rw [← HSA.out]; rfl, by rw [← HSB.out]; rfl, BZ⟩
              · as_aux_lemma =>
                  have BZ := hid (Below.refl tN_.heap.size tN_)
                  go_wp2_with fail
                  refine (EYA.out tN_ BZ.out).mono ?_
                  rintro e u1_ ⟨rfl, hb⟩
                  replace BZ := hid (BZ.out.trans (hb.mono BZ.out.size))
                  clear hb
                  go_wp2_with fail
                  refine (EYB.out u1_ BZ.out).mono ?_
                  rintro e u2_ ⟨rfl, hb⟩
                  replace BZ := hid (BZ.out.trans (hb.mono BZ.out.size))
                  clear hb
                  go_wp2_with fail
                  go_meet
                  case rel => exact ⟨by rw [← HSA.out]; rfl, by rw [← HSB.out]; rfl, BZ⟩
            case rest =>
              obtain ⟨rfl, rfl, HCUT⟩ := hcut
              have hbz := hid (BR.out.trans (HCUT.out.mono BR.out.size))
              cases nm <;> cases sA <;> cases sB
              · as_aux_lemma =>
                  have BZ := hid (Below.refl wc.heap.size wc)
                  obtain ⟨rfl, rfl⟩ := LAW2.out.2.2.2 rfl rfl rfl
                  go_wp2_with fail
                  refine (EAB.out wc (HCUT.out.trans (BZ.out.mono HCUT.out.size))).mono ?_
                  rintro e uAB_ ⟨rfl, hb⟩
                  replace BZ := hid (BZ.out.trans (hb.mono BZ.out.size))
                  clear hb
                  go_wp2_with fail
                  go_roundw
                  case rel => exact ⟨k + 1, by omega, by go_num, hid (hB.out.trans ((hbz.out.trans (BZ.out.mono (by have := hbz.out.size; have := HCUT.out.size; omega))).mono hzr))⟩
                  case measure => simp [intOf]; omega
              · as_aux_lemma =>
                  have BZ := hid (Below.refl wc.heap.size wc)
                  obtain ⟨rfl, rfl⟩ := LAW2.out.1 rfl rfl
                  go_wp2_with fail
                  refine (EJA.out wc (HCUT.out.trans (BZ.out.mono HCUT.out.size))).mono ?_
                  rintro e uJA_ ⟨rfl, hb⟩
                  replace BZ := hid (BZ.out.trans (hb.mono BZ.out.size))
                  clear hb
                  go_wp2_with fail
                  go_roundw
                  case rel => exact ⟨k + 1, by omega, by go_num, hid (hB.out.trans ((hbz.out.trans (BZ.out.mono (by have := hbz.out.size; have := HCUT.out.size; omega))).mono hzr))⟩
                  case measure => simp [intOf]; omega
              · as_aux_lemma =>
                  have BZ := hid (Below.refl wc.heap.size wc)
                  obtain ⟨e1, rfl⟩ := LAW2.out.2.1 rfl rfl
                  subst e1
                  go_wp2_with fail
                  refine (EJB.out wc (HCUT.out.trans (BZ.out.mono HCUT.out.size))).mono ?_
                  rintro e uJB_ ⟨rfl, hb⟩
                  replace BZ := hid (BZ.out.trans (hb.mono BZ.out.size))
                  clear hb
                  go_wp2_with fail
                  go_roundw
                  case rel => exact ⟨k + 1, by omega, by go_num, hid (hB.out.trans ((hbz.out.trans (BZ.out.mono (by have := hbz.out.size; have := HCUT.out.size; omega))).mono hzr))⟩
                  case measure => simp [intOf]; omega
              · as_aux_lemma =>
                  have BZ := hid (Below.refl wc.heap.size wc)
                  obtain ⟨rfl, rfl⟩ := LAW2.out.1 rfl rfl
                  obtain ⟨e1, rfl⟩ := LAW2.out.2.1 rfl rfl
                  subst e1
                  go_wp2_with fail
                  refine (EJA.out wc (HCUT.out.trans (BZ.out.mono HCUT.out.size))).mono ?_
                  rintro e uJA_ ⟨rfl, hb⟩
                  replace BZ := hid (BZ.out.trans (hb.mono BZ.out.size))
                  clear hb
                  go_wp2_with fail
                  refine (EJB.out uJA_ (HCUT.out.trans (BZ.out.mono HCUT.out.size))).mono ?_
                  rintro e uJB_ ⟨rfl, hb⟩
                  replace BZ := hid (BZ.out.trans (hb.mono BZ.out.size))
                  clear hb
                  go_wp2_with fail
                  go_roundw
                  case rel => exact ⟨k + 1, by omega, by go_num, hid (hB.out.trans ((hbz.out.trans (BZ.out.mono (by have := hbz.out.size; have := HCUT.out.size; omega))).mono hzr))⟩
                  case measure => simp [intOf]; omega
              · as_aux_lemma =>
                  have BZ := hid (Below.refl wc.heap.size wc)
                  cases iJ
                  · go_wp2_with fail
                    go_roundw
                    case rel => exact ⟨k + 1, by omega, by go_num, hid (hB.out.trans ((hbz.out.trans (BZ.out.mono (by have := hbz.out.size; have := HCUT.out.size; omega))).mono hzr))⟩
                    case measure => simp [intOf]; omega
                  · obtain ⟨rfl, rfl⟩ := LAW2.out.2.2.1 rfl rfl
                    go_wp2_with fail
                    refine (EJY.out wc (HCUT.out.trans (BZ.out.mono HCUT.out.size))).mono ?_
                    rintro e uJY_ ⟨rfl, hb⟩
                    replace BZ := hid (BZ.out.trans (hb.mono BZ.out.size))
                    clear hb
                    go_wp2_with fail
                    go_roundw
                    case rel => exact ⟨k + 1, by omega, by go_num, hid (hB.out.trans ((hbz.out.trans (BZ.out.mono (by have := hbz.out.size; have := HCUT.out.size; omega))).mono hzr))⟩
                    case measure => simp [intOf]; omega
              · as_aux_lemma =>
                  have BZ := hid (Below.refl wc.heap.size wc)
                  cases iJ
                  · go_wp2_with fail
                    go_roundw
                    case rel => exact ⟨k + 1, by omega, by go_num, hid (hB.out.trans ((hbz.out.trans (BZ.out.mono (by have := hbz.out.size; have := HCUT.out.size; omega))).mono hzr))⟩
                    case measure => simp [intOf]; omega
                  · obtain ⟨rfl, rfl⟩ := LAW2.out.2.2.1 rfl rfl
                    go_wp2_with fail
                    refine (EJY.out wc (HCUT.out.trans (BZ.out.mono HCUT.out.size))).mono ?_
                    rintro e uJY_ ⟨rfl, hb⟩
                    replace BZ := hid (BZ.out.trans (hb.mono BZ.out.size))
                    clear hb
                    go_wp2_with fail
                    go_roundw
                    case rel => exact ⟨k + 1, by omega, by go_num, hid (hB.out.trans ((hbz.out.trans (BZ.out.mono (by have := hbz.out.size; have := HCUT.out.size; omega))).mono hzr))⟩
                    case measure => simp [intOf]; omega
              · as_aux_lemma =>
                  have BZ := hid (Below.refl wc.heap.size wc)
                  cases iJ
                  · go_wp2_with fail
                    go_roundw
                    case rel => exact ⟨k + 1, by omega, by go_num, hid (hB.out.trans ((hbz.out.trans (BZ.out.mono (by have := hbz.out.size; have := HCUT.out.size; omega))).mono hzr))⟩
                    case measure => simp [intOf]; omega
                  · obtain ⟨rfl, rfl⟩ := LAW2.out.2.2.1 rfl rfl
                    go_wp2_with fail
                    refine (EJY.out wc (HCUT.out.trans (BZ.out.mono HCUT.out.size))).mono ?_
                    rintro e uJY_ ⟨rfl, hb⟩
                    replace BZ := hid (BZ.out.trans (hb.mono BZ.out.size))
                    clear hb
                    go_wp2_with fail
                    go_roundw
                    case rel => exact ⟨k + 1, by omega, by go_num, hid (hB.out.trans ((hbz.out.trans (BZ.out.mono (by have := hbz.out.size; have := HCUT.out.size; omega))).mono hzr))⟩
                    case measure => simp [intOf]; omega
              · as_aux_lemma =>
                  have BZ := hid (Below.refl wc.heap.size wc)
                  cases iJ
                  · go_wp2_with fail
                    go_roundw
                    case rel => exact ⟨k + 1, by omega, by go_num, hid (hB.out.trans ((hbz.out.trans (BZ.out.mono (by have := hbz.out.size; have := HCUT.out.size; omega))).mono hzr))⟩
                    case measure => simp [intOf]; omega
                  · obtain ⟨rfl, rfl⟩ := LAW2.out.2.2.1 rfl rfl
                    go_wp2_with fail
                    refine (EJY.out wc (HCUT.out.trans (BZ.out.mono HCUT.out.size))).mono ?_
                    rintro e uJY_ ⟨rfl, hb⟩
                    replace BZ := hid (BZ.out.trans (hb.mono BZ.out.size))
                    clear hb
                    go_wp2_with fail
                    go_roundw
                    case rel => exact ⟨k + 1, by omega, by go_num, hid (hB.out.trans ((hbz.out.trans (BZ.out.mono (by have := hbz.out.size; have := HCUT.out.size; omega))).mono hzr))⟩
                    case measure => simp [intOf]; omega
        · as_aux_lemma =>
            have hlt' : ¬ (k : Int) < (a.cnt : Int) + (b.cnt : Int) := by omega
            have hb := hB.out
            clear hlt hk
            replace Hy := hid (Hy.out.on hb)
            replace Ha := hid (Ha.out.on hb)
            replace Hb := hid (Hb.out.on hb)
            replace HJ := hid (HJ.out.on hb)
            replace HP := hid (HP.out.on hb)
            replace BW := hid (BW.out.trans (hb.mono BW.out.size))
            clear hb
            go_wp2_with fail
            refine (awake_any wr (HT.out.below BW.out)).mono ?_
            rintro e z_ ⟨rfl, hb⟩
            replace Hy := hid (Hy.out.on hb)
            replace Ha := hid (Ha.out.on hb)
            replace Hb := hid (Hb.out.on hb)
            replace HJ := hid (HJ.out.on hb)
            replace HP := hid (HP.out.on hb)
            replace BW := hid (BW.out.trans (hb.mono BW.out.size))
            clear hb
            go_wp2_with fail
            go_ret
            exact ⟨rfl, BW.out⟩
end Go.Proofs.LF
