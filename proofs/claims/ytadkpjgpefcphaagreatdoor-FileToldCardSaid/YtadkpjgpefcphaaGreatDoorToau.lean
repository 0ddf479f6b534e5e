/- Parts of the proof of a law of layer 11 (file): LfW14. The conditions stand in each theorem. -/
import Derived.BigQuiet
import Derived.Deep.AppendLies
import Derived.Deep.QuietTactic
import Derived.Deep.RegionHeld3
import Derived.Laws.ResultCell
import Derived.Outline
import Derived.Test.YtadkpjgpefcphaaGreatDoorProg
import Derived.WalkKit
import Derived.WalkLawsBesides
import Derived.WalkSpells
import Derived.Test.YtadkpjgpefcphaaGreatDoorToac
import Derived.Test.YtadkpjgpefcphaaGreatDoorToat
set_option linter.all false
set_option linter.unusedVariables false
set_option linter.unusedSimpArgs false
namespace Go.Proofs.LF
open Go.RowKit Go.Sort
set_option maxHeartbeats 4000000
set_option maxRecDepth 100000
attribute [local go_sem] bs_toList bs_size bs_get
def linesL (up : List Ky) (y : Fo) : List Fl := (nodesL up y).map fun x => ⟨x.up ++ [kyOf x.n x.l], x.l⟩
theorem linesL_take {up : List Ky} {k : Nat} {y r s : Fo} {n : List UInt8} {l : List Int} (h : y.drop k = .cons n l s r) : linesL up (y.take (k + 1)) = linesL up (y.take k) ++ (⟨up ++ [kyOf n l], l⟩ :: linesL (up ++ [kyOf n l]) s) := by
  rw [linesL, nodesL_take h, List.map_append]; rfl
theorem linesL_length (up : List Ky) (y : Fo) : (linesL up y).length = y.cnt := by rw [linesL, List.length_map, nodesL_length]
theorem Tryz.info159 : (Tryz.prog.info? 159).map (fun i => (i.zero, i.size, i.bytes)) = some (some (.agg #[.slice none 0 0, .slice none 0 0]), 2, 48) := by kernel_rfl
theorem Tryz.info160 : (Tryz.prog.info? 160).map (fun i => (i.zero, i.size, i.bytes)) = some (some (.agg #[.string ByteArray.empty, .bool false, .int .i64 0]), 3, 32) := by kernel_rfl
theorem Lines_any (m : Nat) : ∀ (y : Fo) (up : List Ky) (a : Option Addr) (c : Nat) (ua : Option Addr) (uc : Nat) (S : Nat → Prop) (w : World), y.cnt < m → FSl S w (.slice a y.len c) y → Pth S w (.slice ua up.length uc) up → (∀ b, S b → b < w.heap.size) → y.len ≤ 1000 → y.Sm → up.length + y.cnt ≤ 900 →
    Calls Tryz.prog 96 #[.slice a y.len c, .slice ua up.length uc] w fun e w' => ∃ a c, e = .returned (.slice a (linesL up y).length c) ∧ FlSl (fun b => S b ∨ Rg w.heap.size w'.heap.size b) w' (.slice a (linesL up y).length c) (linesL up y) ∧ Below w.heap.size w w' := by
  induction m with
  | zero => intro y _ _ _ _ _ _ _ h; omega
  | succ m ih =>
  intro y up a c ua uc S w hcnt hv hup hS hlen hsm hdep
  obtain ⟨_, _, he, hc, hm, hat⟩ := hv.at
  cases he
  obtain ⟨i0, hi0, hz0, hz1, hz2⟩ := info_parts Tryz.info159
  obtain ⟨j0, hj0, hy0, hy1, hy2⟩ := info_parts Tryz.info160
  have IH := hid ih
  clear ih
  unfold maxLen at hm
  go_enter Tryz.func96, Tryz.ntmps96
  go_wp2_with fail
  go_loopw [5, 6] (fun v i wr => ∃ k : Nat, k ≤ y.len ∧ i = .int .i64 k ∧ (∃ cs, wr.ownsRow w.heap.size 159 2 v (linesL up (y.take k)).length cs ∧ LCs rdFl (Sx S w.heap.size wr.heap.size v) wr (linesL up (y.take k)) cs) ∧ Below w.heap.size w wr) (fun _ i _ => y.len - (intOf i).toNat)
  case atStart => exact ⟨0, by omega, rfl, ⟨[], World.ownsRow_nil _ _ _ _, rfl⟩, Below.refl _ _⟩
  case round =>
    obtain ⟨k, hk, rfl, ⟨cs, hown, hfc⟩, hB⟩ := hrel
    by_cases hlt : k < y.len
    · obtain ⟨g, o, n, l, s, r, an, cn, ab, cb, rfl, hg1, hd, hc0, hc1, hc2, hI, hF⟩ := hat k hlt
      have ha : Agree S w wr := Agree.of_below hB hS
      have c0 := ha.cell hg1 hc0
      have c1 := ha.cell hg1 hc1
      have c2 := ha.cell hg1 hc2
      have c1' := c1
      have hc2' := hc2
      obtain ⟨s1, s2, s3, s4, _⟩ : n.length ≤ 1000 ∧ l.length ≤ 1000 ∧ s.len ≤ 1000 ∧ s.Sm ∧ r.Sm := by have := hsm.drop (i := k); rwa [hd] at this
      have s5 := Fo.cnt_at hd
      have HD := hid hd
      have hsz := hB.size
      have hne := owns_ne hown (Nat.le_refl wr.heap.size)
      clear hc0 hc1 hc2 hat hd
      have hnone := fun e : ua = none => (SlC.caps hup).2.2 e
      go_wp2_with fail
      have lg := hS g hg1
      have hlu := len_keys up
      go_region_held3 (fun w' => w'.cell? ⟨g, o + k * 3, none⟩ = some (.string (bs n)) ∧ w'.cell? ⟨g, o + k * 3 + 1, none⟩ = some (.slice an l.length cn))
        (first
          | go_keep
          | (go_split_ands; exact ⟨grown_cell hgrow1 (by simp [Value.ownBlock]; omega) (by assumption), grown_cell hgrow1 (by simp [Value.ownBlock]; omega) (by assumption)⟩)
          | (go_split_ands; exact ⟨below_cell hb2 (by have := hq1.out; omega) (by assumption), below_cell hb2 (by have := hq1.out; omega) (by assumption)⟩)
          | (go_split_ands; exact ⟨grown_cell hgrow3 hne3 (by assumption), grown_cell hgrow3 hne3 (by assumption)⟩))
        (first
          | ((refine step_append_ao _ (by rfl) _ _ _ (by rfl) wr.heap.size 160 j0 _ 3 32 Tryz.underlying92 hj0 hy0 hy1 hy2 rfl (by omega) _ 0 [] (by rfl) (World.ownsRow.drew (owns_of_row (w := wr.alloc (.cells #[] 160)) (n := 0) (cap := 0) (cur := #[]) (Nat.le_refl _) (heap_alloc_new _ _) (by omega) (by unfold maxLen; omega) (by simp) (by simp))) ua up.length uc _ (by rfl) hlu hnone (SlC.news hup (Agree.of_below ((hB.alloc hsz _).drew) hS)) (one_keys up) (by unfold maxLen; omega) (by omega) (by simp) ?_)
             intro a1 c1 w1 hown1 hgrow1 hat1
             simp only [Nat.zero_add, List.nil_append] at hown1 hat1
             have hb1 : Below wr.heap.size wr w1 := (((Below.refl _ _).alloc (Nat.le_refl _) _).drew).grown hgrow1 (by simp) (fun b hb => by simp [Value.ownBlock] at hb; omega)
             have hq1 := hid (show w.heap.size ≤ w1.heap.size by have := hb1.size; omega))
          | (go_at_call 107; refine (KeyOf_any n l an cn S _ (hI.agree (Agree.of_below (hB.trans (hb1.mono hsz)) hS)) (fun b h => by have := hS b h; have := hq1.out; omega)).mono ?_; rintro e w2 ⟨rfl, hb2⟩)
          | ((refine step_append_ao _ (by rfl) _ _ _ (by rfl) wr.heap.size 160 j0 _ 3 32 Tryz.underlying92 hj0 hy0 hy1 hy2 rfl (by omega) (.slice a1 up.length c1) up.length (up.flatMap Ky.cells) (by rfl) ((owns_below hown1 hb2 (Nat.le_refl _)).alloc _) (some ⟨w2.heap.size, 0, none⟩) 1 1 [.string (bs (kyOf n l).n), .bool (kyOf n l).h, .int .i64 (kyOf n l).x] (by rfl) (by rfl) (fun h => by cases h) (fun ad had => by cases had; exact World.news_of_block (cs := #[.string (bs (kyOf n l).n), .bool (kyOf n l).h, .int .i64 (kyOf n l).x]) (t := 160) (fr := (0, 0)) (heap_alloc_new _ _)) (by simp [Value.oneCell']) (by unfold maxLen; omega) (by omega) (by have := hb1.size; have := hb2.size; simp; omega) ?_)
             intro a3 c3 w3 hown3 hgrow3 hat3
             have hne3 : (Value.slice a1 up.length c1).ownBlock ≠ some g := fun e => by have := (hown1.lt g e).1; omega))
      have hz1' := hq1.out
      have hz2 := hb2.size
      have hb3 : Below wr.heap.size wr w3 := ((hb1.trans (hb2.mono hb1.size)).alloc (by have := hb1.size; omega) _).grown hgrow3 (by have := hb1.size; simp; omega) (fun b hb => (hown1.lt b hb).1)
      have hkp : (up ++ [kyOf n l]).length = up.length + 1 := by simp
      have hp3 : Pth (Rg wr.heap.size w3.heap.size) w3 (.slice a3 (up.length + 1) c3) (up ++ [kyOf n l]) := by
        have h := SlC.of_owns hown3
        unfold Pth
        rw [hkp, show (up ++ [kyOf n l]).flatMap Ky.cells = up.flatMap Ky.cells ++ [.string (bs (kyOf n l).n), .bool (kyOf n l).h, .int .i64 (kyOf n l).x] by simp [Ky.cells]]
        exact h
      have d1 : w3.cell? ⟨g, o + k * 3 + 1, none⟩ = some (.slice an l.length cn) := below_cell hb3 (by omega) c1'
      have hll : (linesL up (y.take k)).length ≤ 900 := by
        have h1 := (nodesL_pre (up := up) (k := k) (y := y)).length_le
        have h2 := nodesL_length up y
        rw [linesL, List.length_map]; omega
      have hls : (linesL (up ++ [kyOf n l]) s).length ≤ 900 := by rw [linesL_length]; omega
      have HB3 := hid hb3
      have HP3 := hid hp3
      clear hown1 hgrow1 hat1 hb1 hb2 hown3 hgrow3 hat3 hne3 hz1' hz2 hb3 hp3 hkp
      have ow := ((owns_below hown HB3.out (Nat.le_refl _)).alloc (.cells #[.slice a3 (up.length + 1) c3, .slice an l.length cn] 159))
      have d2 : (w3.alloc (.cells #[.slice a3 (up.length + 1) c3, .slice an l.length cn] 159)).cell? ⟨g, o + k * 3 + 2, none⟩ = some (.slice ab s.len cb) := below_cell ((HB3.out.alloc HB3.out.size _)) (by omega) c2
      have hne5 := owns_ne' hown lg
      have hz3 := hid (show w.heap.size ≤ w3.heap.size by have := HB3.out.size; omega)
      go_wp2_with (at_builtin; refine (wpList_append_ao _ rfl _ _ _ rfl w.heap.size 159 i0 _ 2 48 Tryz.underlying38 hi0 hz0 hz1 hz2 rfl (by omega) u5 (linesL up (y.take k)).length cs rfl ow (some ⟨w3.heap.size, 0, none⟩) 1 1 [.slice a3 (up.length + 1) c3, .slice an l.length cn] rfl rfl (fun h => by cases h) (fun ad had => by cases had; exact World.news_of_block (cs := #[.slice a3 (up.length + 1) c3, .slice an l.length cn]) (t := 159) (fr := (0, 0)) (heap_alloc_new _ _)) (by simp [Value.oneCell']) (by unfold maxLen; omega) (by omega) (by have := hz3.out; simp; omega) ?_); intro a4 c4 w4 hown4 hgrow4 hat4; have e2 := grown_cell hgrow4 hne5 d2)
      obtain ⟨g4, cap4, he4, hg4, hlt4⟩ := hown4.form (by omega)
      cases he4
      have hv4 : (Value.slice (some ⟨g4, 0, none⟩) ((linesL up (y.take k)).length + 1) c4).ownBlock = some g4 := rfl
      have st1 : Step w.heap.size wr _ w4 u5 g4 := ⟨(HB3.out.alloc HB3.out.size _), hgrow4, hsz, fun b hb => hown.lt b hb, hat4 g4 rfl, hlt4⟩
      have k1 := st1.keepS (Stable.lcs _ _) hv4 hS hfc
      have kp := (st1.lift (Stable.pth _ _) hv4 HP3.out (Nat.le_refl _) (by simp) ((Below.refl _ _).alloc (Nat.le_refl _) _)).wide (S' := Sx S w.heap.size w4.heap.size (.slice (some ⟨g4, 0, none⟩) ((linesL up (y.take k)).length + 1) c4)) (fun b hb => .inr hb)
      have hB4 := st1.out hB
      have ki := (hI.agree (Agree.of_below hB4 hS)).wide (S' := Sx S w.heap.size w4.heap.size (.slice (some ⟨g4, 0, none⟩) ((linesL up (y.take k)).length + 1) c4)) (fun b hb => .inl hb)
      have kF := (hF.agree (Agree.of_below hB4 hS)).wide (S' := Sx S w.heap.size w4.heap.size (.slice (some ⟨g4, 0, none⟩) ((linesL up (y.take k)).length + 1) c4)) (fun b hb => .inl hb)
      have hkp : (up ++ [kyOf n l]).length = up.length + 1 := by simp
      have hfc4 := k1.app (LCs.single (r := rdFl) (x := ⟨up ++ [kyOf n l], l⟩) ⟨a3, c3, an, cn, rfl, by rw [hkp]; exact kp, ki⟩)
      rw [hkp] at hfc4
      have hSx : ∀ b, Sx S w.heap.size w4.heap.size (.slice (some ⟨g4, 0, none⟩) ((linesL up (y.take k)).length + 1) c4) b → b < w4.heap.size := fun b hb => by
        rcases hb with hb | hb
        · have := hS b hb; have := hB4.size; omega
        · exact hb.2.1
      have hcall : ∀ W, Below w4.heap.size w4 W → Calls Tryz.prog 96 #[.slice ab s.len cb, .slice a3 (up.length + 1) c3] W _ := fun W hW => by
        have h := IH.out s (up ++ [kyOf n l]) ab cb a3 c3 _ W (by omega) (kF.agree (Agree.of_below hW hSx)) (by rw [hkp]; exact kp.agree (Agree.of_below hW hSx)) (fun b hb => by have := hSx b hb; have := hW.size; omega) s3 s4 (by rw [hkp]; omega)
        rw [hkp] at h
        exact h
      have hz4 := hB4.size
      have HCALL := hid hcall
      have HK := hid hfc4
      have HB4 := hid hB4
      have hgg : g4 ≠ g := by omega
      have hz5 := hid hz4
      clear k1 kp ki kF hcall hfc4 hB4 hz4 st1 hown hgrow4 hat4 ow hne hfc
      refine (HCALL.out _ (Below.refl _ _)).mono ?_
      rintro e w5 ⟨a5, c5, rfl, ⟨ds, hL5, hC5⟩, hb5⟩
      have ow5 := owns_below hown4 hb5 (Nat.le_refl _)
      have HC5 := hid hC5
      have hcap5 := fun h => (SlC.caps hL5).2.2 h
      have hnews5 := SlC.news hL5 Agree.refl
      have hone5 := hC5.one
      have hlen5 := hL5.1
      have HB5 := hid hb5
      have HL5 := hid hL5
      clear hC5 hb5 hL5
      go_wp2_with (at_builtin; refine (wpList_append_ao _ rfl _ _ _ rfl w.heap.size 159 i0 _ 2 48 Tryz.underlying38 hi0 hz0 hz1 hz2 rfl (by omega) _ ((linesL up (y.take k)).length + 1) _ rfl ow5 a5 (linesL (up ++ [kyOf n l]) s).length c5 ds rfl hlen5 hcap5 hnews5 hone5 (by unfold maxLen; omega) (by omega) (by have := HB5.out.size; have := hz5.out; omega) ?_); intro a6 c6 w6 hown6 hgrow6 hat6)
      obtain ⟨g6, cap6, he6, hg6, hlt6⟩ := hown6.form (by omega)
      cases he6
      have hv6 : (Value.slice (some ⟨g6, 0, none⟩) ((linesL up (y.take k)).length + 1 + (linesL (up ++ [kyOf n l]) s).length) c6).ownBlock = some g6 := rfl
      have st2 : Step w.heap.size w4 w5 w6 (.slice (some ⟨g4, 0, none⟩) ((linesL up (y.take k)).length + 1) c4) g6 := ⟨HB5.out, hgrow6, hz5.out, fun b hb => by cases hb; exact ⟨hg4, hlt4⟩, hat6 g6 rfl, hlt6⟩
      have m1 := st2.keepS (Stable.lcs _ _) hv6 hS HK.out
      have m2 := st2.liftS (Stable.lcs _ _) hv6 hS (Nat.le_refl _) (Below.refl _ _) HB5.out.size HC5.out
      have hlk : linesL up (y.take (k + 1)) = (linesL up (y.take k) ++ [⟨up ++ [kyOf n l], l⟩]) ++ linesL (up ++ [kyOf n l]) s := by rw [linesL_take HD.out]; simp
      have hlk2 : (linesL up (y.take (k + 1))).length = (linesL up (y.take k)).length + 1 + (linesL (up ++ [kyOf n l]) s).length := by rw [hlk]; simp; omega
      go_wp2
      go_roundw
      case rel =>
        refine ⟨k + 1, by omega, by go_num, ⟨_, by rw [hlk2]; exact hown6, by rw [hlk]; exact m1.app m2⟩, st2.out HB4.out⟩
      case measure => simp [intOf]; omega
    · go_wp2_with fail
      go_ret
      obtain rfl : k = y.len := by omega
      obtain ⟨aa, ca, rfl, _, _⟩ := (SlC.of_owns hown).shape
      rw [Fo.take_len] at hfc hown
      refine ⟨aa, ca, by rw [Fo.take_len]; rfl, ⟨_, (SlC.of_owns hown).wide fun b hb => .inr hb, hfc.wide fun b hb => hb.imp id fun hb => ⟨hb.1, hb.2.1⟩⟩, hB⟩
end Go.Proofs.LF
