/- Parts of the proof of a law of layer 11 (file): LfW86. The conditions stand in each theorem. -/
import Derived.BigQuiet
import Derived.Deep.AppendLies
import Derived.Deep.Cut
import Derived.Deep.CutBlock
import Derived.Deep.CutRange
import Derived.Deep.QuietTactic
import Derived.Deep.RegionHeld3
import Derived.Laws.ResultCell
import Derived.Outline
import Derived.Test.YtadkpjgpefcphaaGreatDoorProg
import Derived.WalkKit
import Derived.WalkLawsBesides
import Derived.WalkSpells
import Derived.Test.YtadkpjgpefcphaaGreatDoorToab
import Derived.Test.YtadkpjgpefcphaaGreatDoorToap
import Derived.Test.YtadkpjgpefcphaaGreatDoorTobj
import Derived.Test.YtadkpjgpefcphaaGreatDoorTobl
set_option linter.all false
set_option linter.unusedVariables false
set_option linter.unusedSimpArgs false
namespace Go.Proofs.LF
open Go.RowKit Go.Sort
set_option maxHeartbeats 4000000
set_option maxRecDepth 100000
attribute [local go_sem] bs_toList bs_size bs_get bs_add
def txN (l : List Int) : List UInt8 := (l.map fun i => 32 :: Lib.itoa i).flatten
def txD : Nat → Fo → List UInt8
  | _, .nil => []
  | d, .cons n l s r => (List.replicate d 32 ++ n) ++ txN l ++ (10 :: txD (d + 1) s) ++ txD d r
theorem txD_app (d : Nat) : ∀ (y z : Fo), txD d (y.app z) = txD d y ++ txD d z
  | .nil, _ => rfl
  | .cons n l s r, z => by simp only [Fo.app, txD, txD_app d r z, List.append_assoc]
theorem txD_take {d k : Nat} {y s r : Fo} {n : List UInt8} {l : List Int} (h : y.drop k = .cons n l s r) : txD d (y.take (k + 1)) = txD d (y.take k) ++ (List.replicate d 32 ++ n) ++ txN l ++ (10 :: txD (d + 1) s) := by
  have key : ∀ (k : Nat) (y : Fo), y.drop k = .cons n l s r → y.take (k + 1) = (y.take k).app (.cons n l s .nil) := by
    intro k
    induction k with
    | zero => intro y h; cases y with
      | nil => cases h
      | cons => simp only [Fo.drop, Fo.cons.injEq] at h; obtain ⟨rfl, rfl, rfl, rfl⟩ := h; rfl
    | succ k ih => intro y h; cases y with
      | nil => cases h
      | cons n' l' s' r' => simp only [Fo.drop] at h; simp only [Fo.take, Fo.app]; rw [ih r' h]
  rw [key k y h, txD_app]
  simp [txD]
theorem txD_txt : ∀ (y : Fo) (up : List Ky), txtL (nodesL up y) = txD up.length y
  | .nil, _ => rfl
  | .cons n l s r, up => by
    have e : ∀ (x : NdD) xs, txtL (x :: xs) = lineB x ++ txtL xs := fun x xs => by simp [txtL]
    rw [nodesL, e, txtL_app, txD_txt s, txD_txt r, txD, List.length_append, List.length_singleton]
    simp [lineB, join_words, txN]
theorem txN_app (a b : List Int) : txN (a ++ b) = txN a ++ txN b := by simp [txN]
theorem txN_len {l : List Int} (h : badNs l = false) : (txN l).length ≤ 5 * l.length := flat_len (badNs_mem h)
theorem txD_len : ∀ (y : Fo) (d : Nat), OkG d y → (txD d y).length ≤ 40 * y.cnt
  | .nil, _, _ => by simp [txD]
  | .cons n l s r, d, ⟨⟨h1, h2, h3, h4⟩, h5, _, h7⟩ => by
    have a1 := txD_len s (d + 1) h5
    have a2 := txD_len r d h7
    have a3 := txN_len h4
    have a4 := badNm_len h2
    simp only [txD, List.length_append, List.length_cons, List.length_replicate, Fo.cnt]
    omega
theorem okG_take : ∀ (k : Nat) {y : Fo} {d : Nat}, OkG d y → OkG d (y.take k)
  | 0, _, _, _ => trivial
  | _ + 1, .nil, _, _ => trivial
  | k + 1, .cons n l s r, d, ⟨h1, h2, h3, h4⟩ => ⟨h1, h2, fun q hq => h3 q (by
      have key : ∀ (k : Nat) (y : Fo), ∀ q ∈ tops (y.take k), q ∈ tops y := by
        intro k
        induction k with
        | zero => intro y q hq; cases hq
        | succ k ih => intro y q hq; cases y with
          | nil => cases hq
          | cons _ _ _ r => rcases List.mem_cons.1 hq with h | h
                            · simp [tops, h]
                            · simp [tops, ih r q h]
      exact key k r q hq), okG_take k h4⟩
theorem okG_drop : ∀ (k : Nat) {y : Fo} {d : Nat}, OkG d y → OkG d (y.drop k)
  | 0, _, _, h => h
  | _ + 1, .nil, _, _ => trivial
  | k + 1, .cons _ _ _ _, _, ⟨_, _, _, h4⟩ => okG_drop k h4
theorem rep_eq (d : Nat) : Lib.repeatL [32] d = List.replicate d 32 := by
  induction d with
  | zero => rfl
  | succ d ih => rw [Lib.repeatL, ih, List.replicate_succ]; rfl
theorem rep_any (d : Nat) (w : World) (hd : d ≤ 1000) : Calls Tryz.prog 81 #[.string ⟨#[32]⟩, .int .i64 d] w fun e w' => e = .returned (.string (bs (List.replicate d 32))) ∧ Below w.heap.size w w' := by
  match d, hd with
  | 0, _ => exact (Tryz.strings_Repeat_zero _ w).mono fun e w' ⟨he, hw⟩ => ⟨he, by rw [hw]; exact Below.refl _ _⟩
  | 1, _ => exact (Tryz.strings_Repeat_one _ w).mono fun e w' ⟨he, hw⟩ => ⟨he, by rw [hw]; exact Below.refl _ _⟩
  | d + 2, hd =>
    refine (Tryz.strings_Repeat_main ⟨#[32]⟩ (d + 2) w (by omega) (by omega) (by simp [ByteArray.size]; omega) (by simp [ByteArray.size])).mono fun e w' ⟨he, hw⟩ => ⟨?_, hw⟩
    rw [he, ← rep_eq]
    rfl
theorem text_all (m : Nat) : ∀ (y : Fo) (d : Nat) (a : Option Addr) (c : Nat) (S : Nat → Prop) (w : World), y.cnt < m → FSl S w (.slice a y.len c) y → (∀ b, S b → b < w.heap.size) → OkG d y → d ≤ 4 → y.cnt ≤ 900 →
    Calls Tryz.prog 79 #[.slice a y.len c, .int .i64 d] w fun e w' => e = .returned (.string (bs (txD d y))) ∧ Below w.heap.size w w' := by
  induction m with
  | zero => intro y _ _ _ _ _ h; omega
  | succ m ih =>
  intro y d a c S w hm hy hS hok hd hc9
  have hb0 : Bld w.heap.size (.slice none 0 0) [] (w.alloc (.cells #[.pointer none, .slice none 0 0] 144)) := ⟨_, .inl rfl, heap_alloc_new _ _, World.ownsRow_nil _ _ _ _, by simp [Value.ownBlock]⟩
  obtain ⟨_, _, he, hcc, hcm, hat⟩ := hy.at
  cases he
  have HAT := hid hat
  have HB0 := hid hb0
  have IH := hid ih
  have HS := hid hS
  have HOK := hid hok
  have hlc := len_cnt y
  unfold maxLen at hcm
  clear ih hy hS hat hb0 hok
  go_enter Tryz.func79, Tryz.ntmps79
  go_wp2_with fail
  go_loopw [12] (fun i wr => ∃ (k : Nat) (v : Value), k ≤ y.len ∧ i = .int .i64 k ∧ Hid (Bld w.heap.size v (txD d (y.take k)) wr) ∧ Hid (Below w.heap.size w wr)) (fun i _ => y.len - (intOf i).toNat)
  case atStart => exact ⟨0, .slice none 0 0, by omega, rfl, by cases y <;> exact HB0.out, (Below.refl _ _).alloc (Nat.le_refl _) _⟩
  case round =>
    obtain ⟨k, v, hk, rfl, hb, hB⟩ := hrel
    obtain ⟨w1, hw1⟩ : ∃ w1, w1 = wr := ⟨_, rfl⟩
    subst hw1
    have hsz := hB.out.size
    by_cases hlt : k < y.len
    · have hlt' : (k : Int) < (y.len : Int) := by omega
      obtain ⟨g, o, n, l, s, r, an, cn, ab, cb, rfl, hg, hdr, m0, m1, m2, hI, hF⟩ := HAT.out k hlt
      have htk := txD_take (d := d) hdr
      have hct := Fo.cnt_take_drop k y
      rw [hdr] at hct
      have hkd := okG_drop k HOK.out
      rw [hdr] at hkd
      obtain ⟨⟨g1, g2, g3, g4⟩, g5, _, _⟩ := hkd
      have ht1 := txD_len _ d (okG_take k HOK.out)
      simp only [Fo.cnt] at hct
      have ha := Agree.of_below hB.out HS.out
      have c0 := ha.cell hg (m0)
      have c1 := ha.cell hg (m1)
      have c2 := ha.cell hg (m2)
      have hn8 := badNm_len g2
      have hI2 := hI.agree ha
      have hF2 := hF.agree ha
      have HTK := hid htk
      obtain ⟨tx, htx⟩ : ∃ tx, txD d (y.take k) = tx := ⟨_, rfl⟩
      rw [htx] at hb HTK ht1
      have HG5 := hid g5
      have HN := hid (badNs_mem g4)
      have HNL := hid (txN_len g4)
      have HI := hid hI2
      have HF := hid hF2
      clear htx htk hdr m0 m1 m2 hI hF hI2 hF2 g5 g2 g4 ha
      have htl : tx.length ≤ 40000 := by omega
      have NBK := hid (heap_alloc_new w1 (.cells #[.string (bs n), .slice an l.length cn, .slice ab s.len cb] 85))
      have BA := hid ((Below.refl w1.heap.size w1).alloc (Nat.le_refl _) (.cells #[.string (bs n), .slice an l.length cn, .slice ab s.len cb] 85))
      go_upto_region 5 with fail
      obtain ⟨wa, hwa⟩ : ∃ wa, w1.alloc (.cells #[.string (bs n), .slice an l.length cn, .slice ab s.len cb] 85) = wa := ⟨_, rfl⟩
      have hza : wa.heap.size = w1.heap.size + 1 := by rw [← hwa]; simp
      rw [hwa] at NBK BA ⊢
      clear hwa c0 c1 c2
      have n0 := cells_get NBK.out (k := 0) (v := .string (bs n)) rfl
      have n1 := cells_get NBK.out (k := 1) (v := .slice an l.length cn) rfl
      have n2 := cells_get NBK.out (k := 2) (v := .slice ab s.len cb) rfl
      have hBl := hid (fun q (h : BldO w.heap.size v q) => BldO.lt hb.out q h)
      have hBg := hid (fun q (h : BldO w.heap.size v q) => BldO.ge hb.out q h)
      have hbA := hb.out.below BA.out
      have HBA := hid hbA
      have HN1 := hid n1
      have HN2 := hid n2
      have hd' : d ≤ 1000 := by omega
      have hS0 : wa.drew.cell? ⟨w1.heap.size, 0, none⟩ = some (.string (bs n)) := n0
      have HS0 := hid hS0
      clear n0 n1 n2 hbA hS0
      refine (wpIn_wide (n := 9)).1 ?_
      refine region_held (fun w' : World => w'.cell? ⟨w1.heap.size, 0, none⟩ = some (.string (bs n))) (by kernel_rfl) ?_
      have hS0 := HS0.out
      refine AnyH_takeD (fun _ => trivial) (by kernel_rfl) 0 16 (.int .i64 d) rfl rfl (by kernel_rfl) (by kernel_rfl) (by kernel_rfl) (fun _ _ _ h => h) (.inl ⟨by kernel_rfl, fun w' hs => ?_⟩) hS0 ?_
      · go_simp
      refine AnyH_takeD (fun _ => trivial) (by kernel_rfl) 2 18 (.pointer (some ⟨w1.heap.size, 0, none⟩)) rfl rfl (by kernel_rfl) (by kernel_rfl) (by kernel_rfl) (fun _ _ _ h => h) (.inl ⟨by kernel_rfl, fun w' hs => ?_⟩) hS0 ?_
      · go_simp
      refine AnyH_takeD (fun _ => trivial) (by kernel_rfl) 3 19 (.string (bs n)) rfl rfl (by kernel_rfl) (by kernel_rfl) (by kernel_rfl) (fun _ _ _ h => h) (.inl ⟨by kernel_rfl, fun w' hs => ?_⟩) hS0 ?_
      · have q0 := hs
        go_simp
      refine AnyH_one (i := 1) (by kernel_rfl) rfl (by kernel_rfl) (fun K hK => ?_)
      go_simp
      refine ⟨trivial, (callsIn_wide.2 (rep_any d wa.drew hd')).mono ?_⟩
      rintro e w5 ⟨he5, hb5⟩
      subst he5
      have hS5 : w5.cell? ⟨w1.heap.size, 0, none⟩ = some (.string (bs n)) := below_cell hb5 (by simp; omega) HS0.out
      refine hK _ _ ⟨hS5, ?_⟩
      clear hK
      have hz5 := hb5.size
      simp only [World.size_drew] at hz5
      have HB5 := hid hb5
      refine AnyH_takeD (fun _ => trivial) (by kernel_rfl) 4 20 (.string (bs (List.replicate d 32 ++ n))) rfl rfl (by kernel_rfl) (by kernel_rfl) (by kernel_rfl) (fun _ _ _ h => h) (.inl ⟨by kernel_rfl, fun w' hs => ?_⟩) hS5 ?_
      · go_simp
        omega
      refine AnyH_one (i := 5) (by kernel_rfl) rfl (by kernel_rfl) (fun K hK => ?_)
      go_simp
      refine ⟨trivial, (callsIn_wide.2 (WriteString_any w.heap.size v tx (List.replicate d 32 ++ n) w5 ((HBA.out.below (Below.refl _ _).drew).below HB5.out) (by omega) (by simp; omega))).mono ?_⟩
      rintro e w6 ⟨he6, v6, hb6, hk6, hj6⟩
      subst he6
      have hS6 : w6.cell? ⟨w1.heap.size, 0, none⟩ = some (.string (bs n)) := hk6.cell (by omega) (fun h => by have := hBl.out _ h; omega) hS5
      refine hK _ _ ⟨hS6, ?_⟩
      clear hK
      refine AnyH_done (by kernel_rfl) ?_
      go_simp
      have hz6 := hk6.size
      have hk6b : Below w.heap.size w5 w6 := hk6.below (by omega) (fun b hb' ho => by have := hBg.out b ho; omega)
      have h36 : Below w.heap.size w1 w6 := ((BA.out.drew.trans (HB5.out.mono (by simp; omega))).mono hsz).trans hk6b
      have H36 := hid h36
      have HB6 := hid (hB.out.trans h36)
      have q1 : w6.cell? ⟨w1.heap.size, 1, none⟩ = some (.slice an l.length cn) := hk6.cell (by omega) (fun h => by have := hBl.out _ h; omega) (below_cell HB5.out (by simp; omega) HN1.out)
      have q2 : w6.cell? ⟨w1.heap.size, 2, none⟩ = some (.slice ab s.len cb) := hk6.cell (by omega) (fun h => by have := hBl.out _ h; omega) (below_cell HB5.out (by simp; omega) HN2.out)
      have Q2 := hid q2
      have HBD := hid hb6
      have HJ := hid (fun q (h : BldO w.heap.size v6 q) => show q ≠ w1.heap.size from by
        rcases hj6 q h with h' | h'
        · have := hBl.out q h'; omega
        · omega)
      have hcaps := SlC.caps HI.out
      clear hk6b h36 hk6 hj6 hb6 hb5 hS5 hS6 hS0 HN1 HN2 HBA HB5 hBl hBg NBK BA q2
      go_wp2_with fail
      go_loopw [25] (fun i w2 => ∃ (j : Nat) (v2 : Value), j ≤ l.length ∧ i = .int .i64 j ∧ Hid (Bld w.heap.size v2 (tx ++ (List.replicate d 32 ++ n) ++ txN (l.take j)) w2) ∧ Hid (Below w.heap.size w w2) ∧ Hid (Below w.heap.size w1 w2) ∧ Hid (w2.cell? ⟨w1.heap.size, 2, none⟩ = some (.slice ab s.len cb)) ∧ Hid (∀ q, BldO w.heap.size v2 q → q ≠ w1.heap.size)) (fun i _ => l.length - (intOf i).toNat)
      case atStart => exact ⟨0, v6, by omega, rfl, by simpa [Hid, txN] using HBD.out, HB6, H36, Q2, HJ⟩
      case round =>
        obtain ⟨j, v2, hj, rfl, HBD2, HB2, H32, Q22, HJ2⟩ := hrel
        have hz2 := HB2.out.size
        have hzr2 : w1.heap.size < wr.heap.size := by
          have := Q22.out
          rcases Nat.lt_or_ge w1.heap.size wr.heap.size with h | h
          · exact h
          · exfalso
            simp only [World.cell?] at this
            rw [Array.getElem?_eq_none h] at this
            cases this
        by_cases hjl : j < l.length
        · have hjl' : (j : Int) < (l.length : Int) := by omega
          obtain ⟨g', o', rfl, hg', _, _, hcl⟩ := SlC.cells HI.out (by omega)
          have e0 := (Agree.of_below H32.out HS.out).cell hg' (hcl j _ (by rw [List.getElem?_map, List.getElem?_eq_getElem hjl]; rfl))
          have hx := HN.out l[j] (List.getElem_mem hjl)
          have htn : txN (l.take (j + 1)) = txN (l.take j) ++ 32 :: Lib.itoa l[j] := by
            rw [List.take_succ_eq_append_getElem hjl, txN_app]; simp [txN]
          obtain ⟨z, hz⟩ : ∃ z : Nat, l[j] = (z : Int) := ⟨l[j].toNat, by omega⟩
          rw [hz] at e0 hx htn
          have hit : Lib.itoa (z : Int) = Lib.decDigits z := by unfold Lib.itoa; rw [if_neg (by omega)]; rfl
          rw [hit] at htn
          have hdl := dig_len 3 z (by simp; omega)
          have hng : ¬ 9223372036854775807 < 1 + (Lib.decDigits z).length := by omega
          have htl2 : (txN (l.take j)).length ≤ 1000 := by
            have h1 := HNL.out
            have h2 : (txN (l.take j)).length ≤ (txN l).length := by
              have h4 : txN l = txN (l.take j) ++ txN (l.drop j) := by
                rw [← txN_app, List.take_append_drop]
              rw [h4, List.length_append]; omega
            omega
          have HTN := hid htn
          clear hcl hz hit htn
          go_wp2_with fail
          refine (decimal_any z wr (by omega)).mono ?_
          rintro e w3 ⟨rfl, hb3⟩
          have hz3 := hb3.size
          have HB3 := hid hb3
          have hbl3 := HBD2.out.below hb3
          have HBL3 := hid hbl3
          have hBg := hid (fun q (h : BldO w.heap.size v2 q) => BldO.ge HBD2.out q h)
          have Q3 := hid (below_cell hb3 hzr2 Q22.out)
          clear hb3 hbl3 e0
          go_wp2_with fail
          refine (WriteString_any w.heap.size v2 _ (32 :: Lib.decDigits z) w3 HBL3.out (by simp only [List.length_append, List.length_replicate]; omega) (by simp; omega)).mono ?_
          rintro e w4 ⟨rfl, v4, hb4, hk4, hj4⟩
          have hz4 := hk4.size
          have hkb : Below w.heap.size wr w4 := (HB3.out.mono hz2).trans (hk4.below (by omega) (fun b hb' ho => by have := hBg.out b ho; omega))
          have HKB := hid hkb
          have Q4 := hid (hk4.cell (by omega) (fun h => HJ2.out _ h rfl) Q3.out)
          have HB4 := hid hb4
          have HJ4 := hid (fun q (h : BldO w.heap.size v4 q) => show q ≠ w1.heap.size from by
            rcases hj4 q h with h' | h'
            · exact HJ2.out q h'
            · omega)
          clear hkb hk4 hj4 hb4
          go_wp2_with fail
          go_roundw
          case rel => exact ⟨j + 1, v4, by omega, by go_num, by rw [Hid, HTN.out, ← List.append_assoc]; exact HB4.out, hid (HB2.out.trans HKB.out), hid (H32.out.trans HKB.out), Q4, HJ4⟩
          case measure => simp [intOf]; omega
        · have hjl' : ¬ (j : Int) < (l.length : Int) := by omega
          obtain rfl : j = l.length := by omega
          rw [List.take_length] at HBD2
          have q2 := Q22.out
          have hF3 := HF.out.agree (Agree.of_below H32.out HS.out)
          have REC := hid (IH.out s (d + 1) ab cb S wr (by omega) hF3 (fun b hb' => by have := HS.out b hb'; omega) HG5.out (by omega) (by omega))
          rw [show ((d + 1 : Nat) : Int) = (d : Int) + 1 by omega] at REC
          have hsl := txD_len s (d + 1) HG5.out
          have hng : ¬ 9223372036854775807 < 1 + (txD (d + 1) s).length := by omega
          have htl2 := HNL.out
          clear hF3
          go_wp2_with fail
          refine REC.out.mono ?_
          rintro e w3 ⟨rfl, hb3⟩
          have hz3 := hb3.size
          have HB3 := hid hb3
          have hbl3 := HBD2.out.below hb3
          have HBL3 := hid hbl3
          have hBg := hid (fun q (h : BldO w.heap.size v2 q) => BldO.ge HBD2.out q h)
          clear hb3 hbl3 REC
          go_wp2_with fail
          refine (WriteString_any w.heap.size v2 _ (10 :: txD (d + 1) s) w3 HBL3.out (by simp only [List.length_append, List.length_replicate]; omega) (by simp; omega)).mono ?_
          rintro e w4 ⟨rfl, v4, hb4, hk4, hj4⟩
          have hz4 := hk4.size
          have hkb : Below w.heap.size wr w4 := (HB3.out.mono hz2).trans (hk4.below (by omega) (fun b hb' ho => by have := hBg.out b ho; omega))
          have HKB := hid hkb
          have HB4 := hid hb4
          clear hkb hk4 hj4 hb4
          go_wp2_with fail
          go_roundw
          case rel => exact ⟨k + 1, v4, by omega, by go_num, by rw [Hid, HTK.out]; exact HB4.out, hid (HB2.out.trans HKB.out)⟩
          case measure => simp [intOf]; omega
    · obtain rfl : k = y.len := by omega
      have hlt' : ¬ (y.len : Int) < (y.len : Int) := by omega
      go_wp2_with fail
      refine (Tryz.Builder_String_any_k _ _ _ _ (Lib.IsBuilderF.of hb.out.is) (Nat.le_of_lt hb.out.lt)).mono ?_
      rintro e W2 ⟨rfl, _, hbw, _⟩
      have HBW := hid hbw
      clear hbw
      go_wp2_with fail
      go_ret
      rw [Fo.take_len]
      exact ⟨rfl, hB.out.trans HBW.out⟩
end Go.Proofs.LF
