/- Parts of the proof of a law of layer 11 (file): LfW105. The conditions stand in each theorem. -/
import Derived.Test.YtadkpjgpefcphaaGreatDoorProg
import Derived.Test.YtadkpjgpefcphaaGreatDoorAfad
import Derived.Test.YtadkpjgpefcphaaGreatDoorAfae
import Derived.Test.YtadkpjgpefcphaaGreatDoorAfag
import Derived.Test.YtadkpjgpefcphaaGreatDoorAfal
import Derived.Test.YtadkpjgpefcphaaGreatDoorAfav
import Derived.Test.YtadkpjgpefcphaaGreatDoorAfba
import Derived.Test.YtadkpjgpefcphaaGreatDoorAfbc
import Derived.Test.YtadkpjgpefcphaaGreatDoorAfbd
set_option linter.all false
set_option linter.unusedVariables false
set_option linter.unusedSimpArgs false
namespace Go.Proofs.LF
open Go.RowKit Go.Sort
set_option maxHeartbeats 4000000
set_option maxRecDepth 100000
attribute [local go_sem] bs_toList bs_size bs_get
theorem Tryz.info120' : (Tryz.prog.info? 120).map (fun i => (i.zero, i.size, i.bytes)) = some (some (.agg #[.slice none 0 0, .bool false, .bool false, .slice none 0 0, .slice none 0 0]), 5, 80) := by kernel_rfl
theorem changes_any (l : List Ch) (al : Option Addr) (cl : Nat) (S : Nat → Prop) (w : World) (hv : ChSl S w (.slice al l.length cl) l) (hS : ∀ b, S b → b < w.heap.size) (hl : l.length ≤ 1000) (hsm : ∀ x ∈ l, x.p.length ≤ 1000 ∧ x.old.length ≤ 1000 ∧ x.new.length ≤ 1000) :
 Calls Tryz.prog 65 #[.slice al l.length cl] w fun e w' => ∃ a c, e = .returned (.slice a l.length c) ∧ ChSl (Rg w.heap.size w'.heap.size) w' (.slice a l.length c) l ∧ Below w.heap.size w w' := by
 obtain ⟨i0, hi0, hz0, hz1, hz2⟩ := info_parts Tryz.info120'
 obtain ⟨al', cl', ee, _, hcm, hat⟩ := LSl.at hv
 obtain ⟨rfl, rfl⟩ : al = al' ∧ cl = cl' := by cases ee; exact ⟨rfl, rfl⟩
 have HAT := hid hat
 have HS := hid hS
 have HSM := hid hsm
 unfold maxLen at hcm
 clear hv hS hsm ee hat
 go_enter Tryz.func65, Tryz.ntmps65
 go_wp2_with fail
 go_loopw [3, 8] (fun v i wr => ∃ (k : Nat) (cs : List Value), k ≤ l.length ∧ i = .int .i64 k ∧ wr.ownsRow w.heap.size 120 5 v k cs ∧ Hid (LCs rdCh (Rx w.heap.size wr.heap.size v) wr (l.take k) cs) ∧ Hid (Below w.heap.size w wr)) (fun _ i _ => l.length - (intOf i).toNat)
 case atStart => exact ⟨0, [], by omega, rfl, World.ownsRow_nil _ _ _ _, rfl, Below.refl _ _⟩
 case round =>
  obtain ⟨k, cs, hk, rfl, hown, hlc, HB⟩ := hrel
  have hzr := HB.out.size
  by_cases hlt : k < l.length
  · have hlt' : (k : Int) < (l.length : Int) := by omega
    obtain ⟨g, o, cs1, rfl, hg, ⟨ap, cp, ao, co, an, cn, rfl, hP, hO, hN⟩, hcl⟩ := HAT.out k hlt
    have hag := Ag_b (S := S) HB.out HS.out
    have c0 := hag.cell hg (hcl 0 _ rfl)
    have c1 := hag.cell hg (hcl 1 _ rfl)
    have c2 := hag.cell hg (hcl 2 _ rfl)
    have c3 := hag.cell hg (hcl 3 _ rfl)
    have c4 := hag.cell hg (hcl 4 _ rfl)
    rw [Nat.add_zero] at c0
    simp only [← Nat.add_assoc] at c1 c2 c3 c4
    have hsm := HSM.out l[k] (List.getElem_mem hlt)
    have htk : l.take (k + 1) = l.take k ++ [l[k]] := List.take_succ_eq_append_getElem hlt
    obtain ⟨x, hx⟩ : ∃ x, l[k] = x := ⟨_, rfl⟩
    rw [hx] at hP hO hN c0 c1 c2 c3 c4 hsm htk
    obtain ⟨W4, hW4⟩ : ∃ W4, wr.alloc (.cells #[.slice ap x.p.length cp, .bool x.had, .bool x.has, .slice ao x.old.length co, .slice an x.new.length cn] 68) = W4 := ⟨_, rfl⟩
    have hz4 : W4.heap.size = wr.heap.size + 1 := by rw [← hW4]; simp
    have hb4 : Below wr.heap.size wr W4 := by rw [← hW4]; exact (Below.refl _ _).alloc (nl_ _) _
    have hnb : W4.heap[wr.heap.size]? = some (.cells #[.slice ap x.p.length cp, .bool x.had, .bool x.has, .slice ao x.old.length co, .slice an x.new.length cn] 68 (0, 0)) := by rw [← hW4]; exact heap_alloc_new _ _
    have hag4 := Ag_b (S := S) (HB.out.trans (hb4.mono hzr)).drew HS.out
    have PA := hid (path_any x.p ap cp S W4.drew (hP.agree hag4) (fun b hb => by have := HS.out b hb; show b < W4.heap.size; omega) hsm.1)
    have hS0 : W4.drew.cell? ⟨wr.heap.size, 0, none⟩ = some (.slice ap x.p.length cp) ∧ W4.drew.cell? ⟨wr.heap.size, 1, none⟩ = some (.bool x.had) ∧ W4.drew.cell? ⟨wr.heap.size, 2, none⟩ = some (.bool x.has) ∧ W4.drew.cell? ⟨wr.heap.size, 3, none⟩ = some (.slice ao x.old.length co) ∧ W4.drew.cell? ⟨wr.heap.size, 4, none⟩ = some (.slice an x.new.length cn) := ⟨cg_ hnb (k := 0) rfl, cg_ hnb (k := 1) rfl, cg_ hnb (k := 2) rfl, cg_ hnb (k := 3) rfl, cg_ hnb (k := 4) rfl⟩
    have how4 := ob_ hown hb4.drew (nl_ _)
    have HLC4 : Hid (LCs rdCh (Rx w.heap.size W4.heap.size u3) W4 (l.take k) cs) := (hlc.out.agree (fun b hb => hb4.block b hb.2.1)).wide fun b hb => ⟨hb.1, by have := hb.2.1; omega, hb.2.2⟩
    have HO4 := hid (hO.agree hag4)
    have HN4 := hid (hN.agree hag4)
    have HSM1 := hid hsm
    have HTK := hid htk
    have HS0 := hid hS0
    have HW4 := hid hW4
    have HB4 := hid (HB.out.trans (hb4.mono hzr))
    have hw4 : wr.heap.size < W4.heap.size := by omega
    have hul : ∀ b, u3.ownBlock = some b → w.heap.size ≤ b ∧ b < wr.heap.size := fun b hb => hown.lt b hb
    have HUL := hid hul
    have hkb : k ≤ 1000 := by omega
    clear hcl hP hO hN hx hag hag4 htk hsm hS0 hW4 hb4 hnb hz4 hlc hown hul
    go_upto_region 5 with (rw [HW4.out])
    try rw [HW4.out]
    clear c0 c1 c2 c3 c4
    refine (wpIn_wide (n := 9)).1 ?_
    refine region_held (fun w' : World => w'.cell? ⟨wr.heap.size, 0, none⟩ = some (.slice ap x.p.length cp) ∧ w'.cell? ⟨wr.heap.size, 1, none⟩ = some (.bool x.had) ∧ w'.cell? ⟨wr.heap.size, 2, none⟩ = some (.bool x.has) ∧ w'.cell? ⟨wr.heap.size, 3, none⟩ = some (.slice ao x.old.length co) ∧ w'.cell? ⟨wr.heap.size, 4, none⟩ = some (.slice an x.new.length cn)) (by kernel_rfl) ?_
    have hS0 := HS0.out
    refine tkY 0 12 (u3) rfl rfl hS0 (fun w' hs => ?_) ?_
    · go_simp
    refine tkY 1 13 (.pointer (some ⟨wr.heap.size, 0, none⟩)) rfl rfl hS0 (fun w' hs => ?_) ?_
    · go_simp
    refine tkY 2 14 (.slice ap x.p.length cp) rfl rfl hS0 (fun w' hs => ?_) ?_
    · obtain ⟨y0, y1, y2, y3, y4⟩ := hs
      go_simp
    refine tkY 4 16 (.pointer (some ⟨wr.heap.size, 1, none⟩)) rfl rfl hS0 (fun w' hs => ?_) ?_
    · go_simp
    refine tkY 5 17 (.bool x.had) rfl rfl hS0 (fun w' hs => ?_) ?_
    · obtain ⟨y0, y1, y2, y3, y4⟩ := hs
      go_simp
    refine tkY 6 18 (.pointer (some ⟨wr.heap.size, 2, none⟩)) rfl rfl hS0 (fun w' hs => ?_) ?_
    · go_simp
    refine tkY 7 19 (.bool x.has) rfl rfl hS0 (fun w' hs => ?_) ?_
    · obtain ⟨y0, y1, y2, y3, y4⟩ := hs
      go_simp
    refine tkY 8 20 (.pointer (some ⟨wr.heap.size, 3, none⟩)) rfl rfl hS0 (fun w' hs => ?_) ?_
    · go_simp
    refine tkY 9 21 (.slice ao x.old.length co) rfl rfl hS0 (fun w' hs => ?_) ?_
    · obtain ⟨y0, y1, y2, y3, y4⟩ := hs
      go_simp
    refine tkY 11 23 (.pointer (some ⟨wr.heap.size, 4, none⟩)) rfl rfl hS0 (fun w' hs => ?_) ?_
    · go_simp
    refine tkY 12 24 (.slice an x.new.length cn) rfl rfl hS0 (fun w' hs => ?_) ?_
    · obtain ⟨y0, y1, y2, y3, y4⟩ := hs
      go_simp
    refine AnyH_one (i := 3) (by kernel_rfl) rfl (by kernel_rfl) (fun K hK => ?_)
    go_simp
    refine ⟨trivial, (callsIn_wide.2 PA.out).mono ?_⟩
    rintro e w5 ⟨ap1, cp1, rfl, hp5, hb5⟩
    have hz5 : W4.heap.size ≤ w5.heap.size := hb5.size
    have hS1 : w5.cell? ⟨wr.heap.size, 0, none⟩ = some (.slice ap x.p.length cp) ∧ w5.cell? ⟨wr.heap.size, 1, none⟩ = some (.bool x.had) ∧ w5.cell? ⟨wr.heap.size, 2, none⟩ = some (.bool x.has) ∧ w5.cell? ⟨wr.heap.size, 3, none⟩ = some (.slice ao x.old.length co) ∧ w5.cell? ⟨wr.heap.size, 4, none⟩ = some (.slice an x.new.length cn) := ⟨bc_ hb5 hw4 hS0.1, bc_ hb5 hw4 hS0.2.1, bc_ hb5 hw4 hS0.2.2.1, bc_ hb5 hw4 hS0.2.2.2.1, bc_ hb5 hw4 hS0.2.2.2.2⟩
    have DO := hid (dup_any x.old ao co S w5 (HO4.out.agree (Ag_b hb5 fun b hb => by have := HS.out b hb; show b < W4.heap.size; omega)) (fun b hb => by have := HS.out b hb; omega) HSM1.out.2.1)
    have HB5 := hid hb5
    have HP5 := hid hp5
    refine hK _ _ ⟨hS1, ?_⟩
    clear hK hb5 hp5 hS0 PA
    refine AnyH_one (i := 10) (by kernel_rfl) rfl (by kernel_rfl) (fun K hK => ?_)
    go_simp
    refine ⟨trivial, (callsIn_wide.2 DO.out).mono ?_⟩
    rintro e w6 ⟨ao1, co1, rfl, ho6, hb6⟩
    have hz6 := hb6.size
    have hS2 : w6.cell? ⟨wr.heap.size, 0, none⟩ = some (.slice ap x.p.length cp) ∧ w6.cell? ⟨wr.heap.size, 1, none⟩ = some (.bool x.had) ∧ w6.cell? ⟨wr.heap.size, 2, none⟩ = some (.bool x.has) ∧ w6.cell? ⟨wr.heap.size, 3, none⟩ = some (.slice ao x.old.length co) ∧ w6.cell? ⟨wr.heap.size, 4, none⟩ = some (.slice an x.new.length cn) := ⟨bc_ hb6 (by omega) hS1.1, bc_ hb6 (by omega) hS1.2.1, bc_ hb6 (by omega) hS1.2.2.1, bc_ hb6 (by omega) hS1.2.2.2.1, bc_ hb6 (by omega) hS1.2.2.2.2⟩
    have h56 := HB5.out.trans (hb6.mono hz5)
    have DN := hid (dup_any x.new an cn S w6 (HN4.out.agree (Ag_b h56 fun b hb => by have := HS.out b hb; show b < W4.heap.size; omega)) (fun b hb => by have := HS.out b hb; omega) HSM1.out.2.2)
    have HB6 := hid hb6
    have HO6 := hid ho6
    refine hK _ _ ⟨hS2, ?_⟩
    clear hK hb6 ho6 hS1 DO h56
    refine AnyH_one (i := 13) (by kernel_rfl) rfl (by kernel_rfl) (fun K hK => ?_)
    go_simp
    refine ⟨trivial, (callsIn_wide.2 DN.out).mono ?_⟩
    rintro e w7 ⟨an1, cn1, rfl, hn7, hb7⟩
    have hz7 := hb7.size
    have hS3 : w7.cell? ⟨wr.heap.size, 0, none⟩ = some (.slice ap x.p.length cp) ∧ w7.cell? ⟨wr.heap.size, 1, none⟩ = some (.bool x.had) ∧ w7.cell? ⟨wr.heap.size, 2, none⟩ = some (.bool x.has) ∧ w7.cell? ⟨wr.heap.size, 3, none⟩ = some (.slice ao x.old.length co) ∧ w7.cell? ⟨wr.heap.size, 4, none⟩ = some (.slice an x.new.length cn) := ⟨bc_ hb7 (by omega) hS2.1, bc_ hb7 (by omega) hS2.2.1, bc_ hb7 (by omega) hS2.2.2.1, bc_ hb7 (by omega) hS2.2.2.2.1, bc_ hb7 (by omega) hS2.2.2.2.2⟩
    have h57 : Below W4.heap.size W4.drew w7 := HB5.out.trans ((HB6.out.trans (hb7.mono hz6)).mono hz5)
    have HB7 := hid hb7
    have HN7 := hid hn7
    have H57 := hid h57
    refine hK _ _ ⟨hS3, ?_⟩
    clear hK hb7 hn7 hS2 DN h57
    refine tkY 14 26 (.agg #[.slice ap1 x.p.length cp1, .bool x.had, .bool x.has, .slice ao1 x.old.length co1, .slice an1 x.new.length cn1]) rfl rfl hS3 (fun w' hs => ?_) ?_
    · go_simp
    refine AnyH_one (i := 15) (by kernel_rfl) rfl (by kernel_rfl) (fun K hK => ?_)
    go_simp
    have hbb : Below w7.heap.size w7 (w7.alloc (.cells #[.slice ap1 x.p.length cp1, .bool x.had, .bool x.has, .slice ao1 x.old.length co1, .slice an1 x.new.length cn1] 120)) := (Below.refl _ _).alloc (nl_ _) _
    have hS4 : (w7.alloc (.cells #[.slice ap1 x.p.length cp1, .bool x.had, .bool x.has, .slice ao1 x.old.length co1, .slice an1 x.new.length cn1] 120)).cell? ⟨wr.heap.size, 0, none⟩ = some (.slice ap x.p.length cp) ∧ (w7.alloc (.cells #[.slice ap1 x.p.length cp1, .bool x.had, .bool x.has, .slice ao1 x.old.length co1, .slice an1 x.new.length cn1] 120)).cell? ⟨wr.heap.size, 1, none⟩ = some (.bool x.had) ∧ (w7.alloc (.cells #[.slice ap1 x.p.length cp1, .bool x.had, .bool x.has, .slice ao1 x.old.length co1, .slice an1 x.new.length cn1] 120)).cell? ⟨wr.heap.size, 2, none⟩ = some (.bool x.has) ∧ (w7.alloc (.cells #[.slice ap1 x.p.length cp1, .bool x.had, .bool x.has, .slice ao1 x.old.length co1, .slice an1 x.new.length cn1] 120)).cell? ⟨wr.heap.size, 3, none⟩ = some (.slice ao x.old.length co) ∧ (w7.alloc (.cells #[.slice ap1 x.p.length cp1, .bool x.had, .bool x.has, .slice ao1 x.old.length co1, .slice an1 x.new.length cn1] 120)).cell? ⟨wr.heap.size, 4, none⟩ = some (.slice an x.new.length cn) := ⟨bc_ hbb (by omega) hS3.1, bc_ hbb (by omega) hS3.2.1, bc_ hbb (by omega) hS3.2.2.1, bc_ hbb (by omega) hS3.2.2.2.1, bc_ hbb (by omega) hS3.2.2.2.2⟩
    refine hK _ _ ⟨hS4, ?_⟩
    clear hK
    have how7 := ob_ how4 (HB5.out.trans ((HB6.out.trans (HB7.out.mono hz6)).mono hz5)) (nl_ _)
    obtain ⟨a9, c9, w9, hr9, hown9, hgrow9, hat9⟩ := run_append_ao (P := Tryz.prog) (w7.alloc (.cells #[.slice ap1 x.p.length cp1, .bool x.had, .bool x.has, .slice ao1 x.old.length co1, .slice an1 x.new.length cn1] 120)) 109 109 w.heap.size 120 i0 _ 5 80 Tryz.underlying109 hi0 hz0 hz1 hz2 rfl (by omega) u3 k cs (how7.alloc _) (some ⟨w7.heap.size, 0, none⟩) 1 1 [.slice ap1 x.p.length cp1, .bool x.had, .bool x.has, .slice ao1 x.old.length co1, .slice an1 x.new.length cn1] rfl (fun h => by cases h) (fun ad had => by cases had; exact World.news_of_block (cs := #[.slice ap1 x.p.length cp1, .bool x.had, .bool x.has, .slice ao1 x.old.length co1, .slice an1 x.new.length cn1]) (t := 120) (fr := (0, 0)) (heap_alloc_new _ _)) (by simp [Value.oneCell']) (by unfold maxLen; omega) (by omega) (by simp; omega)
    have hnr : u3.ownBlock ≠ some wr.heap.size := fun e => by have := (HUL.out _ e).2; omega
    have hS5 : w9.cell? ⟨wr.heap.size, 0, none⟩ = some (.slice ap x.p.length cp) ∧ w9.cell? ⟨wr.heap.size, 1, none⟩ = some (.bool x.had) ∧ w9.cell? ⟨wr.heap.size, 2, none⟩ = some (.bool x.has) ∧ w9.cell? ⟨wr.heap.size, 3, none⟩ = some (.slice ao x.old.length co) ∧ w9.cell? ⟨wr.heap.size, 4, none⟩ = some (.slice an x.new.length cn) := ⟨grown_cell hgrow9 hnr hS4.1, grown_cell hgrow9 hnr hS4.2.1, grown_cell hgrow9 hnr hS4.2.2.1, grown_cell hgrow9 hnr hS4.2.2.2.1, grown_cell hgrow9 hnr hS4.2.2.2.2⟩
    refine AnyH_one (i := 16) (by kernel_rfl) rfl (by kernel_rfl) (fun K hK => ?_)
    refine wpIn_value (fun _ => trivial) rfl (exec_append rfl rfl rfl hr9) ?_
    refine hK _ _ ⟨hS5, ?_⟩
    clear hK hr9 hS3 hS4
    refine tkY 17 3 (.slice a9 (k + 1) c9) rfl rfl hS5 (fun w' hs => ?_) ?_
    · go_simp
    refine AnyH_done (by kernel_rfl) ?_
    go_simp
    obtain ⟨g9, cap9, he9, hg9, hlt9⟩ := hown9.form (by omega)
    cases he9
    have st : Step w.heap.size W4 (w7.alloc (.cells #[.slice ap1 x.p.length cp1, .bool x.had, .bool x.has, .slice ao1 x.old.length co1, .slice an1 x.new.length cn1] 120)) w9 u3 g9 := ⟨⟨H57.out.os, H57.out.tape, H57.out.output, Nat.le_trans H57.out.size hbb.size, fun b hb => (hbb.block b (by omega)).trans (H57.out.block b hb)⟩, ⟨hgrow9.os, hgrow9.tape, hgrow9.output, hgrow9.size, hgrow9.block⟩, by omega, fun b hb => by have := HUL.out b hb; omega, hat9 g9 rfl, hlt9⟩
    have hv9 : (Value.slice (some ⟨g9, 0, none⟩) (k + 1) c9).ownBlock = some g9 := rfl
    have n1 := st.keep (Stable.lcs _ _) hv9 HLC4.out
    have n2 := st.lift (Stable.pth _ _) hv9 HP5.out (nl_ _) (by simp; omega) (((HB6.out.trans (HB7.out.mono hz6)).alloc (by omega) _))
    have n3 := st.lift (Stable.ints _ _) hv9 HO6.out (by omega) (by simp; omega) (HB7.out.alloc (by omega) _)
    have n4 := st.lift (Stable.ints _ _) hv9 HN7.out (by omega) (by simp) ((Below.refl _ _).alloc (nl_ _) _)
    have n5 := hid (st.out HB4.out)
    have n6 : Hid (LCs rdCh (Rx w.heap.size w9.heap.size (.slice (some ⟨g9, 0, none⟩) (k + 1) c9)) w9 (l.take (k + 1)) (cs ++ [.slice ap1 x.p.length cp1, .bool x.had, .bool x.has, .slice ao1 x.old.length co1, .slice an1 x.new.length cn1])) := by
     rw [Hid, HTK.out]
     exact n1.app (LCs.single ⟨ap1, cp1, ao1, co1, an1, cn1, rfl, n2, n3, n4⟩)
    have HOW9 := hid hown9
    clear n1 n2 n3 n4 st hown9 hgrow9 hat9 hS5 hbb how4 how7
    go_wp2_with fail
    go_roundw
    case rel => exact ⟨k + 1, _, by omega, by go_num, HOW9.out, n6, n5⟩
    case measure => simp [intOf]; omega
  · obtain rfl : k = l.length := by omega
    have hlt' : ¬ (l.length : Int) < (l.length : Int) := by omega
    rw [List.take_length] at hlc
    go_wp2_with fail
    obtain ⟨a9, c9, rfl, _, _⟩ := owns_shape hown
    go_ret
    exact ⟨a9, c9, rfl, ⟨cs, SlC.of_owns hown, hlc.out.wide fun b hb => ⟨hb.1, hb.2.1⟩⟩, HB.out⟩
end Go.Proofs.LF
