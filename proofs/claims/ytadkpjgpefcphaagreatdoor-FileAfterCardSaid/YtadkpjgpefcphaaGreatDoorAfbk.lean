/- Parts of the proof of a law of layer 11 (file): LfW114. The conditions stand in each theorem. -/
import Derived.Test.YtadkpjgpefcphaaGreatDoorProg
import Derived.Test.YtadkpjgpefcphaaGreatDoorAfaw
import Derived.Test.YtadkpjgpefcphaaGreatDoorAfbb
import Derived.Test.YtadkpjgpefcphaaGreatDoorAfbc
import Derived.Test.YtadkpjgpefcphaaGreatDoorAfbd
import Derived.Test.YtadkpjgpefcphaaGreatDoorAfbe
import Derived.Test.YtadkpjgpefcphaaGreatDoorAfbf
import Derived.Test.YtadkpjgpefcphaaGreatDoorAfbh
import Derived.Test.YtadkpjgpefcphaaGreatDoorAfbi
import Derived.Test.YtadkpjgpefcphaaGreatDoorAfbj
set_option linter.all false
set_option linter.unusedVariables false
set_option linter.unusedSimpArgs false
namespace Go.Proofs.LF
open Go.RowKit Go.Sort
set_option maxHeartbeats 4000000
set_option maxRecDepth 100000
attribute [local go_sem] bs_toList bs_size bs_get
theorem wild_sm {l : List Ch} (h : wildB l = false) : l.length ≤ 1000 ∧ SmCh l ∧ SmL3 l := by
 obtain ⟨h1, h2⟩ := wild_no h
 exact ⟨by omega, fun x hx => by
  obtain ⟨a, b, c, d⟩ := h2 x hx
  exact ⟨by omega, fun k hk => by have := d k hk; omega, by omega, by omega⟩, fun x hx => by
  obtain ⟨a, b, c, d⟩ := h2 x hx
  exact ⟨by omega, by omega, by omega⟩⟩
theorem aftL_sm {l m : List Ch} (hl : SmL3 l) (hm : SmL3 m) : (aftL l m).length ≤ 1000 ∧ SmL3 (aftL l m) := by
 unfold aftL
 split
 · rename_i h
   refine ⟨?_, fun x hx => ?_⟩
   · unfold aftE at h
     rw [srtCh_len]
     repeat' split at h
     all_goals omega
   · rw [srtCh_mem, aftO_mem, remC_mem] at hx
     obtain ⟨⟨a, ha, rfl⟩ | ⟨hx, _⟩, _⟩ := hx
     · have h1 := hl a ha
       unfold mrgC
       split
       · exact h1
       · rename_i b hb
         have h2 := hm b (fdC_some hb).1
         exact ⟨h1.1, h1.2.1, h2.2.2⟩
     · exact hm x hx
 · exact ⟨by simp, fun x hx => by cases hx⟩
theorem fir2 (a b : Int) : firE [a, b] = if a ≠ 0 then a else b := by
 simp only [firE]
 by_cases h1 : a = 0
 · by_cases h2 : b = 0 <;> simp [h1, h2]
 · simp [h1]
theorem first2 (a b : Int) (W : World) : Calls Tryz.prog 30 #[.slice (some ⟨W.heap.size, 0, none⟩) 2 2] (W.alloc (.cells #[.int .i64 a, .int .i64 b] 28)) fun e w' => e = .returned (.int .i64 (if a ≠ 0 then a else b)) ∧ w' = W.alloc (.cells #[.int .i64 a, .int .i64 b] 28) := by
 have hblk := heap_alloc_new W (.cells #[.int .i64 a, .int .i64 b] 28)
 have := first_any [a, b] (some ⟨W.heap.size, 0, none⟩) 2 (fun _ => True) (W.alloc (.cells #[.int .i64 a, .int .i64 b] 28)) ⟨rfl, _, 2, rfl, by simp, by simp [maxLen], (fun h => by cases h), .inr ⟨W.heap.size, 0, rfl, trivial, fun j u hj => by
  have := cg_ hblk (k := j) (v := u) (by simpa using hj)
  simpa using this⟩⟩ (by simp)
 rw [fir2] at this
 exact this
theorem FileAfter_any (l m : List Ch) (al am : Option Addr) (cl cm : Nat) (w : World) (hl : ChIn w (.slice al l.length cl) l) (hm : ChIn w (.slice am m.length cm) m) (ht : Pow w) :
 Calls Tryz.prog 11 #[.slice al l.length cl, .slice am m.length cm] w fun e w' => e = .returned (.bool true) ∧ Below w.heap.size w w' := by
 have HT := hid ht
 have HL := hid hl
 have HM := hid hm
 have BW := hid (Below.refl w.heap.size w)
 clear ht hl hm
 go_enter Tryz.func11, Tryz.ntmps11
 go_wp2_with fail
 refine (wild_any l al cl _ w HL.out (fun _ h => h)).mono ?_
 rintro e w1 ⟨rfl, hb⟩
 replace HL := hid (HL.out.on hb)
 replace HM := hid (HM.out.on hb)
 replace BW := hid (BW.out.trans (hb.mono BW.out.size))
 clear hb
 cases hwl : wildB l
 rotate_left
 · go_wp2_with fail
   refine (awake_any w1 (HT.out.below BW.out)).mono ?_
   rintro e z_ ⟨rfl, hb⟩
   replace HL := hid (HL.out.on hb)
   replace HM := hid (HM.out.on hb)
   replace BW := hid (BW.out.trans (hb.mono BW.out.size))
   clear hb
   go_wp2_with fail
   go_ret
   exact ⟨rfl, BW.out⟩
 go_wp2_with fail
 refine (wild_any m am cm _ w1 HM.out (fun _ h => h)).mono ?_
 rintro e w2 ⟨rfl, hb⟩
 replace HL := hid (HL.out.on hb)
 replace HM := hid (HM.out.on hb)
 replace BW := hid (BW.out.trans (hb.mono BW.out.size))
 clear hb
 cases hwm : wildB m
 rotate_left
 · go_wp2_with fail
   refine (awake_any w2 (HT.out.below BW.out)).mono ?_
   rintro e z_ ⟨rfl, hb⟩
   replace HL := hid (HL.out.on hb)
   replace HM := hid (HM.out.on hb)
   replace BW := hid (BW.out.trans (hb.mono BW.out.size))
   clear hb
   go_wp2_with fail
   go_ret
   exact ⟨rfl, BW.out⟩
 obtain ⟨ll, sl, s3l⟩ := wild_sm hwl
 obtain ⟨lm, sm, s3m⟩ := wild_sm hwm
 obtain ⟨la, s3a⟩ := aftL_sm s3l s3m
 have SL := hid sl
 have SM := hid sm
 have SL3 := hid s3l
 have SM3 := hid s3m
 have SA3 := hid s3a
 clear sl sm s3l s3m s3a hwl hwm
 go_wp2_with fail
 refine (copied_any l al cl _ w2 HL.out (fun _ h => h) ll SL3.out).mono ?_
 rintro e w3 ⟨ax, cx, rfl, hL, hb⟩
 replace HL := hid (HL.out.on hb)
 replace HM := hid (HM.out.on hb)
 replace BW := hid (BW.out.trans (hb.mono BW.out.size))
 have HX : Hid (ChIn w3 _ l) := hid (hL.wide fun b hb => hb.2)
 clear hL
 clear hb
 go_wp2_with fail
 refine (copied_any m am cm _ w3 HM.out (fun _ h => h) lm SM3.out).mono ?_
 rintro e w4 ⟨ay, cy, rfl, hL, hb⟩
 replace HL := hid (HL.out.on hb)
 replace HM := hid (HM.out.on hb)
 replace HX := hid (HX.out.on hb)
 replace BW := hid (BW.out.trans (hb.mono BW.out.size))
 have HY : Hid (ChIn w4 _ m) := hid (hL.wide fun b hb => hb.2)
 clear hL
 clear hb
 go_wp2_with fail
 refine (changes_any l al cl _ w4 HL.out (fun _ h => h) ll SL3.out).mono ?_
 rintro e w5 ⟨a1, c1, rfl, hL, hb⟩
 replace HL := hid (HL.out.on hb)
 replace HM := hid (HM.out.on hb)
 replace HX := hid (HX.out.on hb)
 replace HY := hid (HY.out.on hb)
 replace BW := hid (BW.out.trans (hb.mono BW.out.size))
 have HC : Hid (ChIn w5 _ l) := hid (hL.wide fun b hb => hb.2)
 clear hL
 clear hb
 go_wp2_with fail
 refine (RefCk_any l a1 c1 _ w5 HC.out (fun _ h => h) ll SL.out).mono ?_
 rintro e w6 ⟨rfl, hb⟩
 replace HL := hid (HL.out.on hb)
 replace HM := hid (HM.out.on hb)
 replace HX := hid (HX.out.on hb)
 replace HY := hid (HY.out.on hb)
 replace HC := hid (HC.out.on hb)
 replace BW := hid (BW.out.trans (hb.mono BW.out.size))
 clear hb
 clear HC
 go_wp2_with fail
 refine (changes_any m am cm _ w6 HM.out (fun _ h => h) lm SM3.out).mono ?_
 rintro e w7 ⟨a2, c2, rfl, hL, hb⟩
 replace HL := hid (HL.out.on hb)
 replace HM := hid (HM.out.on hb)
 replace HX := hid (HX.out.on hb)
 replace HY := hid (HY.out.on hb)
 replace BW := hid (BW.out.trans (hb.mono BW.out.size))
 have HC : Hid (ChIn w7 _ m) := hid (hL.wide fun b hb => hb.2)
 clear hL
 clear hb
 go_wp2_with fail
 refine (RefCk_any m a2 c2 _ w7 HC.out (fun _ h => h) lm SM.out).mono ?_
 rintro e w8 ⟨rfl, hb⟩
 replace HL := hid (HL.out.on hb)
 replace HM := hid (HM.out.on hb)
 replace HX := hid (HX.out.on hb)
 replace HY := hid (HY.out.on hb)
 replace HC := hid (HC.out.on hb)
 replace BW := hid (BW.out.trans (hb.mono BW.out.size))
 clear hb
 clear HC
 obtain ⟨E0, hE0⟩ : ∃ E, (if ckC l ≠ 0 then ckC l else ckC m) = E := ⟨_, rfl⟩
 have FI := first2 (ckC l) (ckC m) w8
 rw [hE0] at FI
 have FIR := hid FI
 have HE0 := hid hE0
 clear FI hE0
 go_wp2_with fail
 refine FIR.out.mono ?_
 rintro e w9 ⟨rfl, hw9⟩
 have hb : Below w8.heap.size w8 w9 := by rw [hw9]; exact (Below.refl _ _).alloc (nl_ _) _
 clear hw9 FIR
 replace HL := hid (HL.out.on hb)
 replace HM := hid (HM.out.on hb)
 replace HX := hid (HX.out.on hb)
 replace HY := hid (HY.out.on hb)
 replace BW := hid (BW.out.trans (hb.mono BW.out.size))
 clear hb
 obtain ⟨A, hAL⟩ : ∃ A, aftL l m = A := ⟨_, rfl⟩
 obtain ⟨E, hAE⟩ : ∃ E, aftE l m = E := ⟨_, rfl⟩
 rw [hAL] at la SA3
 have HAL := hid hAL
 have HAE := hid hAE
 clear hAL hAE
 go_upto_if 33 with fail
 obtain ⟨q, hq⟩ : ∃ q, (E0 == 0) = q := ⟨_, rfl⟩
 rw [hq]
 have HQ := hid hq
 clear hq
 go_cut [7, 8] from 34 to 41 (fun ve vl wx => ve = .int .i64 E ∧ ∃ az cz, vl = .slice az A.length cz ∧ Hid (ChIn wx (.slice az A.length cz) A) ∧ Hid (Below w9.heap.size w9 wx))
 case first =>
  cases q
  · have h0 : E0 ≠ 0 := by simpa using HQ.out
    have hAE : aftE l m = E0 := by
     have := HE0.out
     unfold aftE
     by_cases h : ckC l = 0
     · rw [if_neg (by simpa using h)] at this ⊢
       rw [if_pos (by rw [this]; exact h0)]; exact this
     · rw [if_pos h] at this ⊢; exact this
    have hA : A = [] := by rw [← HAL.out, aftL, if_neg (by rw [hAE]; exact h0)]
    have hE : E0 = E := by rw [← hAE]; exact HAE.out
    clear hAE h0
    subst hA
    go_wp2_with fail
    go_meet
    case rel => exact ⟨by rw [hE], none, 0, rfl, ⟨[], ⟨rfl, none, 0, rfl, nl_ _, by simp [maxLen], fun _ => rfl, .inl rfl⟩, rfl⟩, Below.refl _ _⟩
  · have h0 : E0 = 0 := by simpa using HQ.out
    have hck : ckC l = 0 ∧ ckC m = 0 := by
     have := HE0.out
     rw [h0] at this
     by_cases h : ckC l = 0
     · rw [if_neg (by simpa using h)] at this; exact ⟨h, this⟩
     · rw [if_pos h] at this; exact absurd this h
    have HCK := hid hck
    clear hck h0
    have BM := hid (Below.refl w9.heap.size w9)
    go_wp2_with fail
    refine (changes_any l al cl _ w9 HL.out (fun _ h => h) ll SL3.out).mono ?_
    rintro e y1 ⟨a1, c1, rfl, hL, hb⟩
    replace HL := hid (HL.out.on hb)
    replace HM := hid (HM.out.on hb)
    replace HX := hid (HX.out.on hb)
    replace HY := hid (HY.out.on hb)
    replace BW := hid (BW.out.trans (hb.mono BW.out.size))
    replace BM := hid (BM.out.trans (hb.mono BM.out.size))
    have HC1 : Hid (ChIn y1 _ l) := hid (hL.wide fun b hb => hb.2)
    clear hL
    clear hb
    go_wp2_with fail
    refine (changes_any m am cm _ y1 HM.out (fun _ h => h) lm SM3.out).mono ?_
    rintro e y2 ⟨a2, c2, rfl, hL, hb⟩
    replace HL := hid (HL.out.on hb)
    replace HM := hid (HM.out.on hb)
    replace HX := hid (HX.out.on hb)
    replace HY := hid (HY.out.on hb)
    replace HC1 := hid (HC1.out.on hb)
    replace BW := hid (BW.out.trans (hb.mono BW.out.size))
    replace BM := hid (BM.out.trans (hb.mono BM.out.size))
    have HC2 : Hid (ChIn y2 _ m) := hid (hL.wide fun b hb => hb.2)
    clear hL
    clear hb
    go_wp2_with fail
    refine (RefAfter_any l m a1 a2 c1 c2 _ y2 HC1.out HC2.out (fun _ h => h) ll lm SL3.out SM3.out HCK.out.1 HCK.out.2).mono ?_
    rintro e y3 ⟨vw, rfl, hW, hb⟩
    replace HL := hid (HL.out.on hb)
    replace HM := hid (HM.out.on hb)
    replace HX := hid (HX.out.on hb)
    replace HY := hid (HY.out.on hb)
    replace HC1 := hid (HC1.out.on hb)
    replace HC2 := hid (HC2.out.on hb)
    replace BW := hid (BW.out.trans (hb.mono BW.out.size))
    replace BM := hid (BM.out.trans (hb.mono BM.out.size))
    obtain ⟨az, cz, rfl, _, _⟩ := hW.shape
    have hW2 : ChIn y3 _ (aftL l m) := hW.lsl.wide fun b hb9 => by
     rcases hb9 with h | h
     · exact Nat.lt_of_lt_of_le h hb.size
     · exact h.2
    rw [HAL.out] at hW2
    have HW := hid hW2
    clear hW hW2
    rw [HAL.out, HAE.out]
    clear hb
    go_wp2_with fail
    go_meet
    case rel => exact ⟨rfl, az, cz, rfl, HW, BM⟩
 case rest =>
  obtain ⟨hve, az, cz, hvl, HW, HB9⟩ := hcut
  subst hve hvl
  obtain ⟨u0, hu0⟩ : ∃ u, u = wc := ⟨_, rfl⟩
  subst hu0
  have hb := HB9.out
  replace HL := hid (HL.out.on hb)
  replace HM := hid (HM.out.on hb)
  replace HX := hid (HX.out.on hb)
  replace HY := hid (HY.out.on hb)
  replace BW := hid (BW.out.trans (hb.mono BW.out.size))
  clear hb HB9
  have AF := After_any l m ax ay cx cy _ _ u0 HX.out (fun _ h => h) HY.out (fun _ h => h) ll lm SL.out SM.out (HT.out.below BW.out)
  unfold AftR at AF
  rw [HAE.out, HAL.out] at AF
  have AFT := hid AF
  have HX0 := hid HX.out
  have HY0 := hid HY.out
  have HL0 := hid HL.out
  have HM0 := hid HM.out
  have BW0 := hid BW.out
  clear AF HAE HAL HX HY HL HM HE0 HQ
  go_wp2_with fail
  refine AFT.out.mono ?_
  rintro e v1 ⟨ao, co, rfl, hO, hb⟩
  have HO := hid (show ChIn v1 _ A from hO.wide fun b hb => hb.1.2)
  have HU := hid (hO.wide (S' := US (fun b => u0.heap.size ≤ b) v1) fun b hb => ⟨hb.1.1, hb.2⟩)
  have BA := hid hb
  replace BW := hid (BW.out.trans (hb.mono BW.out.size))
  replace HW := hid (HW.out.on hb)
  clear hO hb AFT
  go_wp2_with fail
  refine (sameChg_any A A ao az co cz _ v1 HO.out HW.out (fun _ h => h) la la SA3.out SA3.out).mono ?_
  rintro e v2 ⟨rfl, hb⟩
  replace BW := hid (BW.out.trans (hb.mono BW.out.size))
  replace BA := hid (BA.out.trans (hb.mono BA.out.size))
  have KV := hid (KQ.of_below hb)
  clear hb
  rw [decide_eq_true (show A = A from rfl)]
  clear HO HW
  obtain ⟨ao', co', e3, _, hcm, hat⟩ := LSl.at HU.out
  obtain ⟨rfl, rfl⟩ : ao = ao' ∧ co = co' := by cases e3; exact ⟨rfl, rfl⟩
  have HAT := hid hat
  clear hat e3 HU
  go_upto_block 0 with fail
  go_cut [] from 60 to 69 (fun wx => Below u0.heap.size v2 wx)
  case first =>
   go_wp2_with fail
   go_loopw [59] (fun i wr => ∃ k : Nat, k ≤ A.length ∧ i = .int .i64 k ∧ Hid (KQ v1 wr) ∧ Hid (Below u0.heap.size v2 wr)) (fun i _ => A.length - (intOf i).toNat)
   case atStart => exact ⟨0, by omega, rfl, KV.out, Below.refl _ _⟩
   case round =>
    obtain ⟨k, hk, rfl, HK, HB⟩ := hrel
    have hzr : u0.heap.size ≤ wr.heap.size := by have := HB.out.size; have := BA.out.size; omega
    by_cases hlt : k < A.length
    · have hlt' : (k : Int) < (A.length : Int) := by omega
      obtain ⟨g, o, cs1, rfl, hg, ⟨ap, cp, a3, c3, a4, c4, rfl, hP, hO, hN⟩, hcl⟩ := HAT.out k hlt
      have b0 := hcl 0 _ rfl
      have b1 := hcl 1 _ rfl
      have b2 := hcl 2 _ rfl
      have b3 := hcl 3 _ rfl
      have b4 := hcl 4 _ rfl
      rw [Nat.add_zero] at b0
      simp only [← Nat.add_assoc] at b1 b2 b3 b4
      have d0 := HK.out.slice b0
      obtain ⟨u1, d1⟩ := HK.out.bool b1
      obtain ⟨u2, d2⟩ := HK.out.bool b2
      have d3 := HK.out.slice b3
      have d4 := HK.out.slice b4
      obtain ⟨x, hx⟩ : ∃ x, A[k] = x := ⟨_, rfl⟩
      rw [hx] at hP hO hN d0 d3 d4
      obtain ⟨wx, hwx⟩ : ∃ wx, wr.alloc (.cells #[.slice ap x.p.length cp, (.bool u1), (.bool u2), .slice a3 x.old.length c3, .slice a4 x.new.length c4] 68) = wx := ⟨_, rfl⟩
      have hbx : Below wr.heap.size wr wx := by rw [← hwx]; exact (Below.refl _ _).alloc (nl_ _) _
      have nb : wx.heap[wr.heap.size]? = some (.cells #[.slice ap x.p.length cp, (.bool u1), (.bool u2), .slice a3 x.old.length c3, .slice a4 x.new.length c4] 68 (0, 0)) := by rw [← hwx]; exact heap_alloc_new _ _
      have n0 := cg_ nb (k := 0) (v := .slice ap x.p.length cp) rfl
      have n3 := cg_ nb (k := 3) (v := .slice a3 x.old.length c3) rfl
      have n4 := cg_ nb (k := 4) (v := .slice a4 x.new.length c4) rfl
      have kx := HK.out.trans (KQ.of_below hbx)
      obtain ⟨wy, hr1, ky, by1⟩ := clear_path 0 hP kx
      obtain ⟨wz, hr2, kz, bz1⟩ := clear_ints 0 hO (kx.trans ky)
      obtain ⟨wv, hr3, kv, bv1⟩ := clear_ints 0 hN ((kx.trans ky).trans kz)
      have m3 := ky.slice n3
      have m4 := kz.slice (ky.slice n4)
      have HKV := hid (((kx.trans ky).trans kz).trans kv)
      have q0 := hbx.size
      have HBV := hid (HB.out.trans ((((hbx.mono hzr).trans (by1 _ (fun b hb => hb))).trans (bz1 _ (fun b hb => hb))).trans (bv1 _ (fun b hb => hb))))
      have HWX := hid hwx
      clear b0 b1 b2 b3 b4 hcl hP hO hN hx hg kx ky kz kv by1 bz1 bv1 nb hbx hwx
      go_wp2_with (rw [HWX.out])
      go_roundw
      case rel => exact ⟨k + 1, by omega, by go_num, HKV, HBV⟩
      case measure => simp [intOf]; omega
    · obtain rfl : k = A.length := by omega
      have hlt' : ¬ (A.length : Int) < (A.length : Int) := by omega
      go_wp2_with fail
      go_meet
      case rel => exact HB.out
  case rest =>
   have hbl := hcut
   obtain ⟨v3, hv3⟩ : ∃ v, v = wc := ⟨_, rfl⟩
   subst hv3
   have hag : Agree (fun b => b < u0.heap.size) u0 v3 := fun b hb => (hbl.block b hb).trans (BA.out.block b hb)
   have hsz : u0.heap.size ≤ v3.heap.size := by have := BA.out.size; have := hbl.size; omega
   have HX3 := hid (show ChIn v3 _ l from LSl.wide (LSl.agree HX0.out hag) fun b hb => by have := hb; omega)
   have HY3 := hid (show ChIn v3 _ m from LSl.wide (LSl.agree HY0.out hag) fun b hb => by have := hb; omega)
   have HL3 := hid (show ChIn v3 _ l from LSl.wide (LSl.agree HL0.out hag) fun b hb => by have := hb; omega)
   have HM3 := hid (show ChIn v3 _ m from LSl.wide (LSl.agree HM0.out hag) fun b hb => by have := hb; omega)
   replace BW := hid ((BW0.out.trans (BA.out.mono BW0.out.size)).trans (hbl.mono BW0.out.size))
   clear hag hbl HX0 HY0 HL0 HM0 BA BW0
   go_wp2_with fail
   refine (unch_c l ax al cx cl v3 HX3.out HL3.out ll SL.out).mono ?_
   rintro e v4 ⟨rfl, hb⟩
   replace HX3 := hid (HX3.out.on hb)
   replace HY3 := hid (HY3.out.on hb)
   replace HL3 := hid (HL3.out.on hb)
   replace HM3 := hid (HM3.out.on hb)
   replace BW := hid (BW.out.trans (hb.mono BW.out.size))
   clear hb
   go_wp2_with fail
   refine (unch_c m ay am cy cm v4 HY3.out HM3.out lm SM.out).mono ?_
   rintro e v5 ⟨rfl, hb⟩
   replace HX3 := hid (HX3.out.on hb)
   replace HY3 := hid (HY3.out.on hb)
   replace HL3 := hid (HL3.out.on hb)
   replace HM3 := hid (HM3.out.on hb)
   replace BW := hid (BW.out.trans (hb.mono BW.out.size))
   clear hb
   go_wp2_with fail
   refine (awake_any v5 (HT.out.below BW.out)).mono ?_
   rintro e v6 ⟨rfl, hb⟩
   replace HX3 := hid (HX3.out.on hb)
   replace HY3 := hid (HY3.out.on hb)
   replace HL3 := hid (HL3.out.on hb)
   replace HM3 := hid (HM3.out.on hb)
   replace BW := hid (BW.out.trans (hb.mono BW.out.size))
   clear hb
   go_wp2_with fail
   go_ret
   exact ⟨rfl, BW.out⟩
end Go.Proofs.LF
