/- Parts of the proof of a law of layer 11 (file): LfC101, LfW103, LfW105. The conditions stand in each theorem. -/
import Derived.Test.YtadkpjgpefcphaaGreatDoorProg
import Derived.Test.YtadkpjgpefcphaaGreatDoorCkad
import Derived.Test.YtadkpjgpefcphaaGreatDoorCkaf
import Derived.Test.YtadkpjgpefcphaaGreatDoorCkan
import Derived.Test.YtadkpjgpefcphaaGreatDoorCkay
import Derived.Test.YtadkpjgpefcphaaGreatDoorCkbc
import Derived.Test.YtadkpjgpefcphaaGreatDoorCkbd
import Derived.Test.YtadkpjgpefcphaaGreatDoorCkbf
import Derived.Test.YtadkpjgpefcphaaGreatDoorCkbg
import Derived.Test.YtadkpjgpefcphaaGreatDoorCkbi
import Derived.Test.YtadkpjgpefcphaaGreatDoorCkbj
import Derived.Test.YtadkpjgpefcphaaGreatDoorCkbk
import Derived.Test.YtadkpjgpefcphaaGreatDoorCkbl
set_option linter.all false
set_option linter.unusedVariables false
set_option linter.unusedSimpArgs false
namespace Go.Proofs.LF
open Go.RowKit Go.Sort
theorem make_c (y : Fo) (D : List Ch) (ay aD : Option Addr) (cy cD : Nat) (W : World) (hy : In W (.slice ay y.len cy) y) (hD : ChIn W (.slice aD D.length cD) D) (hb : Bd y) (hl : D.length ≤ 1000) (hsm : SmCh D) {E : Int} {Z : Fo} (h : mkE y D = E ∧ mkY y D = Z) :
 Calls Tryz.prog 71 #[.slice ay y.len cy, .slice aD D.length cD] W fun e w' => ∃ a c, e = .returned (.tuple #[.slice a Z.len c, .int .i64 E]) ∧ In w' (.slice a Z.len c) Z ∧ Below W.heap.size W w' := by
 obtain ⟨rfl, rfl⟩ := h
 exact (Make_u y D ay aD cy cD _ _ W hy (fun _ h => h) hD (fun _ h => h) hb.1 hb.2.1 hb.2.2 hl hsm).mono fun e w' ⟨a, c, he, h1, h2⟩ => ⟨a, c, he, h1.fsl.wide fun b hb => hb.2, h2⟩
theorem back_c (D B : List Ch) (aD : Option Addr) (cD : Nat) (W : World) (hD : ChIn W (.slice aD D.length cD) D) (hl : D.length ≤ 1000) (hsm : SmCh D) (h : ckC D = 0 ∧ D.map turnC = B) :
 Calls Tryz.prog 72 #[.slice aD D.length cD] W fun e w' => ∃ a c, e = .returned (.tuple #[.slice a B.length c, .int .i64 0]) ∧ ChIn w' (.slice a B.length c) B ∧ Below W.heap.size W w' := by
 obtain ⟨h0, rfl⟩ := h
 have hb : backL D = D.map turnC := by rw [backL, if_pos h0]
 refine (Back_any D aD cD _ W hD (fun _ h => h) hl hsm).mono ?_
 rintro e w' ⟨a, c, he, h1, h2⟩
 rw [hb] at he h1
 rw [h0] at he
 exact ⟨a, c, he, h1.wide fun b hb => hb.2, h2⟩
theorem ck_sm {D : List Ch} (h : ckC D = 0) : SmCh D := fun c hc => by
 obtain ⟨h1, h2, h3, _⟩ := ckOne_zero ((ckC_zero h).2.1 c hc)
 refine ⟨by omega, fun k hk => ?_, by omega, by omega⟩
 simp only [okNm, List.all_eq_true, Bool.not_eq_true'] at h2
 have := badNm_len (h2 k hk)
 omega
end Go.Proofs.LF
namespace Go.Proofs.LF
open Go.RowKit Go.Sort
set_option maxHeartbeats 4000000
set_option maxRecDepth 100000
attribute [local go_sem] bs_toList bs_size bs_get
theorem enters169 : Enters 169 := by intro args W; simp [go_sem]
theorem nop169 (x : Ch) (ap ao an : Option Addr) (cp co cn : Nat) (S : Nat → Prop) (w : World) (ho : Ints S w (.slice ao x.old.length co) x.old) (hn : Ints S w (.slice an x.new.length cn) x.new) (hS : ∀ b, S b → b < w.heap.size) (lo : x.old.length ≤ 1000) (ln : x.new.length ≤ 1000) :
 Calls Tryz.prog 169 #[.agg #[.slice ap x.p.length cp, .bool x.had, .bool x.has, .slice ao x.old.length co, .slice an x.new.length cn]] w fun e w' => e = .returned (.bool (nopC x)) ∧ Below w.heap.size w w' := by
 obtain ⟨p, had, has, old, new⟩ := x
 simp only at ho hn lo ln ⊢
 obtain ⟨W, hW⟩ : ∃ W, w.alloc (.cells #[.slice ap p.length cp, .bool had, .bool has, .slice ao old.length co, .slice an new.length cn] 68) = W := ⟨_, rfl⟩
 have hb : Below w.heap.size w W := by rw [← hW]; exact (Below.refl _ _).alloc (nl_ _) _
 have hnew : W.heap[w.heap.size]? = some (.cells #[.slice ap p.length cp, .bool had, .bool has, .slice ao old.length co, .slice an new.length cn] 68 (0, 0)) := by rw [← hW]; exact heap_alloc_new _ _
 have c1 := cg_ hnew (k := 1) rfl
 have c2 := cg_ hnew (k := 2) rfl
 have c3 := cg_ hnew (k := 3) rfl
 have c4 := cg_ hnew (k := 4) rfl
 have HB := hid hb
 have EQ := hid (eqInts_any old new ao an co cn S W (ho.agree (Ag_b hb hS)) (hn.agree (Ag_b hb hS)) (by omega) (by omega))
 have HW := hid hW
 clear ho hn hb hnew hW
 go_enter Tryz.func169, Tryz.ntmps169
 cases had <;> cases has
 all_goals
  go_wp2_with (rw [HW.out])
  first
   | (go_ret
      exact ⟨by simp [nopC], HB.out⟩)
   | (refine EQ.out.mono ?_
      rintro e w1 ⟨rfl, hb1⟩
      go_wp2_with fail
      go_ret
      exact ⟨by simp [nopC], HB.out.trans (hb1.mono HB.out.size)⟩)
theorem chg_cells {S : Nat → Prop} {w : World} {ls : List Ch} {cs : List Value} (h : LCs rdCh S w ls cs) {i : Nat} (hi : i < ls.length) : ∃ ap cp ao co an cn, cs.getD (i * 5) undef = .slice ap ls[i].p.length cp ∧ cs.getD (i * 5 + 1) undef = .bool ls[i].had ∧ cs.getD (i * 5 + 2) undef = .bool ls[i].has ∧ cs.getD (i * 5 + 3) undef = .slice ao ls[i].old.length co ∧ cs.getD (i * 5 + 4) undef = .slice an ls[i].new.length cn ∧
 Ints S w (.slice ao ls[i].old.length co) ls[i].old ∧ Ints S w (.slice an ls[i].new.length cn) ls[i].new := by
 have h3 := h.drop (i := i)
 rw [List.drop_eq_getElem_cons hi] at h3
 obtain ⟨cc, ee, he, ⟨ap, cp, ao, co, an, cn, rfl, hp, ho, hn⟩, _⟩ := h3
 have e0 := congrArg (fun l => l[0]?) he
 have e1 := congrArg (fun l => l[1]?) he
 have e2 := congrArg (fun l => l[2]?) he
 have e3 := congrArg (fun l => l[3]?) he
 have e4 := congrArg (fun l => l[4]?) he
 simp [List.getElem?_drop] at e0 e1 e2 e3 e4
 exact ⟨ap, cp, ao, co, an, cn, by rw [List.getD_eq_getElem?_getD, e0]; rfl, by rw [List.getD_eq_getElem?_getD, e1]; rfl, by rw [List.getD_eq_getElem?_getD, e2]; rfl, by rw [List.getD_eq_getElem?_getD, e3]; rfl, by rw [List.getD_eq_getElem?_getD, e4]; rfl, ho, hn⟩
def ch0 : Ch := ⟨[], false, false, [], []⟩
theorem delC_any (ls : List Ch) (a : Option Addr) (c B : Nat) (cs : List Value) (M : Nat → Prop) (w : World) (hown : w.ownsRow B 68 5 (.slice a ls.length c) ls.length cs) (hlc : LCs rdCh M w ls cs) (hM : ∀ b, M b → b < w.heap.size ∧ (Value.slice a ls.length c).ownBlock ≠ some b) (hl : ls.length ≤ 1000) (hls : ∀ x ∈ ls, x.old.length ≤ 1000 ∧ x.new.length ≤ 1000) :
 Calls Tryz.prog 168 #[.slice a ls.length c, .func (.func 169) #[] #[]] w fun e w' => ∃ cs', e = .returned (.slice a (ls.filter fun x => !nopC x).length c) ∧ w'.ownsRow B 68 5 (.slice a (ls.filter fun x => !nopC x).length c) (ls.filter fun x => !nopC x).length cs' ∧ LCs rdCh M w' (ls.filter fun x => !nopC x) cs' ∧ w.grownBy w' (Value.slice a ls.length c).ownBlock := by
 by_cases h0 : ls.length = 0
 · obtain rfl := List.eq_nil_of_length_eq_zero h0
   simp only [List.length_nil, List.filter_nil] at hown hlc hM hls ⊢
   obtain ⟨h1, ⟨he, _⟩ | ⟨g, cap, cur, he, hbg, hg, hn, hcap, hsz, htk⟩⟩ := id hown
   all_goals
    cases he
    have IX := hid (idx_chg 169 enters169 (fun _ => false) [] 0 _ _ [] (fun q => q < w.heap.size) w (by
     have := SlC.of_owns hown
     rw [show cs = [] by simpa using hown.1] at this
     exact this.wide fun b hb => hb.2) (fun b hb => hb) (by omega) (fun i hi => by omega))
    clear hlc hM hls
    have HOW := hid hown
    clear hown h1
    try clear hg hbg hn hcap hsz htk
   · go_enter Tryz.func168, Tryz.ntmps168
     go_wp2_with fail
     refine IX.out.mono ?_
     rintro e w1 ⟨rfl, hb1⟩
     have hi : idxN (fun _ => false) 0 = -1 := rfl
     rw [hi]
     have HG := hid (show w.grownBy w1 none from ⟨hb1.os, hb1.tape, hb1.output, hb1.size, fun i hi _ => hb1.block i hi⟩)
     have HO1 := hid (ob_ HOW.out hb1 (nl_ _))
     clear hb1 hi
     go_wp2_with fail
     go_ret
     exact ⟨cs, rfl, HO1.out, by rw [show cs = [] by simpa using HO1.out.1]; rfl, HG.out⟩
   · go_enter Tryz.func168, Tryz.ntmps168
     go_wp2_with fail
     refine IX.out.mono ?_
     rintro e w1 ⟨rfl, hb1⟩
     have hi : idxN (fun _ => false) 0 = -1 := rfl
     rw [hi]
     have HG := hid (show w.grownBy w1 (some g) from ⟨hb1.os, hb1.tape, hb1.output, hb1.size, fun i hi _ => hb1.block i hi⟩)
     have HO1 := hid (ob_ HOW.out hb1 (nl_ _))
     clear hb1 hi
     go_wp2_with fail
     go_ret
     exact ⟨cs, rfl, HO1.out, by rw [show cs = [] by simpa using HO1.out.1]; rfl, HG.out⟩
 · obtain ⟨_, ⟨_, h00⟩ | ⟨gg, cap, cur, he, hbg, hg, hnc, hcap, _, _⟩⟩ := id hown
   · omega
   cases he
   have DEL := del_chg 169 enters169 (fun i => nopC (ls.getD i ch0)) [] ls.length B gg c cs w hown (fun j hj => by
    obtain ⟨ap, cp, ao, co, an, cn, e0, e1, e2, e3, e4, _⟩ := chg_cells hlc hj
    exact ⟨ap, _, cp, _, _, ao, _, co, an, _, cn, e0, e1, e2, e3, e4⟩) (by omega) (fun i hi W hW => by
    obtain ⟨ap, cp, ao, co, an, cn, e0, e1, e2, e3, e4, ho, hn⟩ := chg_cells hlc hi
    have hgd : ls.getD i ch0 = ls[i] := by simp [List.getD_eq_getElem?_getD, hi]
    have hel : elemV 5 cs i = .agg #[.slice ap ls[i].p.length cp, .bool ls[i].had, .bool ls[i].has, .slice ao ls[i].old.length co, .slice an ls[i].new.length cn] := by simp [elemV, List.range_succ, e0, e1, e2, e3, e4, -List.getD_eq_getElem?_getD]
    rw [hel, hgd]
    have ha : Agree M w W := fun b hb => hW.block b (hM b hb).1 (fun e => (hM b hb).2 (by rw [e]; rfl))
    exact nop169 ls[i] ap ao an cp co cn M W (ho.agree ha) (hn.agree ha) (fun b hb => by have := (hM b hb).1; have := hW.size; omega) (hls _ (List.getElem_mem hi)).1 (hls _ (List.getElem_mem hi)).2)
   refine DEL.mono ?_
   rintro e w4 ⟨rfl, hown4, hgr4⟩
   obtain ⟨k1, k2⟩ := kp_lcs (hlc.agree (w' := w4) fun b hb => hgr4.block b (hM b hb).1 (fun e => (hM b hb).2 (by rw [e]; rfl))) (p := fun i => nopC (ls.getD i ch0)) (pr := nopC) (fun i hi => by simp [List.getD_eq_getElem?_getD, hi]) ls.length (nl_ _)
   rw [List.take_length] at k1 k2
   rw [k2] at hown4
   exact ⟨_, by rw [k2], hown4, k1, hgr4⟩
end Go.Proofs.LF
namespace Go.Proofs.LF
open Go.RowKit Go.Sort
set_option maxHeartbeats 4000000
set_option maxRecDepth 100000
attribute [local go_sem] bs_toList bs_size bs_get
theorem Tryz.info120' : (Tryz.prog.info? 120).map (fun i => (i.zero, i.size, i.bytes)) = some (some (.agg #[.slice none 0 0, .bool false, .bool false, .slice none 0 0, .slice none 0 0]), 5, 80) := by kernel_rfl
theorem changes_any (l : List Ch) (al : Option Addr) (cl : Nat) (S : Nat → Prop) (w : World) (hv : ChSl S w (.slice al l.length cl) l) (hS : ∀ b, S b → b < w.heap.size) (hl : l.length ≤ 1000) (hsm : ∀ x ∈ l, x.p.length ≤ 1000 ∧ x.old.length ≤ 1000 ∧ x.new.length ≤ 1000) :
 Calls Tryz.prog 65 #[.slice al l.length cl] w fun e w' => ∃ a c, e = .returned (.slice a l.length c) ∧ ChSl (Rg w.heap.size w'.heap.size) w' (.slice a l.length c) l ∧ Below w.heap.size w w' := by
 obtain ⟨i0, hi0, hz0, hz1, hz2⟩ := info_parts Tryz.info120'
 obtain ⟨al', cl', ee, _, hcm, hat⟩ := LSl.at hv
 obtain ⟨rfl, rfl⟩ : al = al' ∧ cl = cl' := by cases ee; exact ⟨rfl, rfl⟩
 have HAT := hid hat
 have HS := hid hS
 have HSM := hid hsm
 unfold maxLen at hcm
 clear hv hS hsm ee hat
 go_enter Tryz.func65, Tryz.ntmps65
 go_wp2_with fail
 go_loopw [3, 8] (fun v i wr => ∃ (k : Nat) (cs : List Value), k ≤ l.length ∧ i = .int .i64 k ∧ wr.ownsRow w.heap.size 120 5 v k cs ∧ Hid (LCs rdCh (Rx w.heap.size wr.heap.size v) wr (l.take k) cs) ∧ Hid (Below w.heap.size w wr)) (fun _ i _ => l.length - (intOf i).toNat)
 case atStart => exact ⟨0, [], by omega, rfl, World.ownsRow_nil _ _ _ _, rfl, Below.refl _ _⟩
 case round =>
  obtain ⟨k, cs, hk, rfl, hown, hlc, HB⟩ := hrel
  have hzr := HB.out.size
  by_cases hlt : k < l.length
  · have hlt' : (k : Int) < (l.length : Int) := by omega
    obtain ⟨g, o, cs1, rfl, hg, ⟨ap, cp, ao, co, an, cn, rfl, hP, hO, hN⟩, hcl⟩ := HAT.out k hlt
    have hag := Ag_b (S := S) HB.out HS.out
    have c0 := hag.cell hg (hcl 0 _ rfl)
    have c1 := hag.cell hg (hcl 1 _ rfl)
    have c2 := hag.cell hg (hcl 2 _ rfl)
    have c3 := hag.cell hg (hcl 3 _ rfl)
    have c4 := hag.cell hg (hcl 4 _ rfl)
    rw [Nat.add_zero] at c0
    simp only [← Nat.add_assoc] at c1 c2 c3 c4
    have hsm := HSM.out l[k] (List.getElem_mem hlt)
    have htk : l.take (k + 1) = l.take k ++ [l[k]] := List.take_succ_eq_append_getElem hlt
    obtain ⟨x, hx⟩ : ∃ x, l[k] = x := ⟨_, rfl⟩
    rw [hx] at hP hO hN c0 c1 c2 c3 c4 hsm htk
    obtain ⟨W4, hW4⟩ : ∃ W4, wr.alloc (.cells #[.slice ap x.p.length cp, .bool x.had, .bool x.has, .slice ao x.old.length co, .slice an x.new.length cn] 68) = W4 := ⟨_, rfl⟩
    have hz4 : W4.heap.size = wr.heap.size + 1 := by rw [← hW4]; simp
    have hb4 : Below wr.heap.size wr W4 := by rw [← hW4]; exact (Below.refl _ _).alloc (nl_ _) _
    have hnb : W4.heap[wr.heap.size]? = some (.cells #[.slice ap x.p.length cp, .bool x.had, .bool x.has, .slice ao x.old.length co, .slice an x.new.length cn] 68 (0, 0)) := by rw [← hW4]; exact heap_alloc_new _ _
    have hag4 := Ag_b (S := S) (HB.out.trans (hb4.mono hzr)).drew HS.out
    have PA := hid (path_any x.p ap cp S W4.drew (hP.agree hag4) (fun b hb => by have := HS.out b hb; show b < W4.heap.size; omega) hsm.1)
    have hS0 : W4.drew.cell? ⟨wr.heap.size, 0, none⟩ = some (.slice ap x.p.length cp) ∧ W4.drew.cell? ⟨wr.heap.size, 1, none⟩ = some (.bool x.had) ∧ W4.drew.cell? ⟨wr.heap.size, 2, none⟩ = some (.bool x.has) ∧ W4.drew.cell? ⟨wr.heap.size, 3, none⟩ = some (.slice ao x.old.length co) ∧ W4.drew.cell? ⟨wr.heap.size, 4, none⟩ = some (.slice an x.new.length cn) := ⟨cg_ hnb (k := 0) rfl, cg_ hnb (k := 1) rfl, cg_ hnb (k := 2) rfl, cg_ hnb (k := 3) rfl, cg_ hnb (k := 4) rfl⟩
    have how4 := ob_ hown hb4.drew (nl_ _)
    have HLC4 : Hid (LCs rdCh (Rx w.heap.size W4.heap.size u3) W4 (l.take k) cs) := (hlc.out.agree (fun b hb => hb4.block b hb.2.1)).wide fun b hb => ⟨hb.1, by have := hb.2.1; omega, hb.2.2⟩
    have HO4 := hid (hO.agree hag4)
    have HN4 := hid (hN.agree hag4)
    have HSM1 := hid hsm
    have HTK := hid htk
    have HS0 := hid hS0
    have HW4 := hid hW4
    have HB4 := hid (HB.out.trans (hb4.mono hzr))
    have hw4 : wr.heap.size < W4.heap.size := by omega
    have hul : ∀ b, u3.ownBlock = some b → w.heap.size ≤ b ∧ b < wr.heap.size := fun b hb => hown.lt b hb
    have HUL := hid hul
    have hkb : k ≤ 1000 := by omega
    clear hcl hP hO hN hx hag hag4 htk hsm hS0 hW4 hb4 hnb hz4 hlc hown hul
    go_upto_region 5 with (rw [HW4.out])
    try rw [HW4.out]
    clear c0 c1 c2 c3 c4
    refine (wpIn_wide (n := 9)).1 ?_
    refine region_held (fun w' : World => w'.cell? ⟨wr.heap.size, 0, none⟩ = some (.slice ap x.p.length cp) ∧ w'.cell? ⟨wr.heap.size, 1, none⟩ = some (.bool x.had) ∧ w'.cell? ⟨wr.heap.size, 2, none⟩ = some (.bool x.has) ∧ w'.cell? ⟨wr.heap.size, 3, none⟩ = some (.slice ao x.old.length co) ∧ w'.cell? ⟨wr.heap.size, 4, none⟩ = some (.slice an x.new.length cn)) (by kernel_rfl) ?_
    have hS0 := HS0.out
    refine tkY 0 12 (u3) rfl rfl hS0 (fun w' hs => ?_) ?_
    · go_simp
    refine tkY 1 13 (.pointer (some ⟨wr.heap.size, 0, none⟩)) rfl rfl hS0 (fun w' hs => ?_) ?_
    · go_simp
    refine tkY 2 14 (.slice ap x.p.length cp) rfl rfl hS0 (fun w' hs => ?_) ?_
    · obtain ⟨y0, y1, y2, y3, y4⟩ := hs
      go_simp
    refine tkY 4 16 (.pointer (some ⟨wr.heap.size, 1, none⟩)) rfl rfl hS0 (fun w' hs => ?_) ?_
    · go_simp
    refine tkY 5 17 (.bool x.had) rfl rfl hS0 (fun w' hs => ?_) ?_
    · obtain ⟨y0, y1, y2, y3, y4⟩ := hs
      go_simp
    refine tkY 6 18 (.pointer (some ⟨wr.heap.size, 2, none⟩)) rfl rfl hS0 (fun w' hs => ?_) ?_
    · go_simp
    refine tkY 7 19 (.bool x.has) rfl rfl hS0 (fun w' hs => ?_) ?_
    · obtain ⟨y0, y1, y2, y3, y4⟩ := hs
      go_simp
    refine tkY 8 20 (.pointer (some ⟨wr.heap.size, 3, none⟩)) rfl rfl hS0 (fun w' hs => ?_) ?_
    · go_simp
    refine tkY 9 21 (.slice ao x.old.length co) rfl rfl hS0 (fun w' hs => ?_) ?_
    · obtain ⟨y0, y1, y2, y3, y4⟩ := hs
      go_simp
    refine tkY 11 23 (.pointer (some ⟨wr.heap.size, 4, none⟩)) rfl rfl hS0 (fun w' hs => ?_) ?_
    · go_simp
    refine tkY 12 24 (.slice an x.new.length cn) rfl rfl hS0 (fun w' hs => ?_) ?_
    · obtain ⟨y0, y1, y2, y3, y4⟩ := hs
      go_simp
    refine AnyH_one (i := 3) (by kernel_rfl) rfl (by kernel_rfl) (fun K hK => ?_)
    go_simp
    refine ⟨trivial, (callsIn_wide.2 PA.out).mono ?_⟩
    rintro e w5 ⟨ap1, cp1, rfl, hp5, hb5⟩
    have hz5 : W4.heap.size ≤ w5.heap.size := hb5.size
    have hS1 : w5.cell? ⟨wr.heap.size, 0, none⟩ = some (.slice ap x.p.length cp) ∧ w5.cell? ⟨wr.heap.size, 1, none⟩ = some (.bool x.had) ∧ w5.cell? ⟨wr.heap.size, 2, none⟩ = some (.bool x.has) ∧ w5.cell? ⟨wr.heap.size, 3, none⟩ = some (.slice ao x.old.length co) ∧ w5.cell? ⟨wr.heap.size, 4, none⟩ = some (.slice an x.new.length cn) := ⟨bc_ hb5 hw4 hS0.1, bc_ hb5 hw4 hS0.2.1, bc_ hb5 hw4 hS0.2.2.1, bc_ hb5 hw4 hS0.2.2.2.1, bc_ hb5 hw4 hS0.2.2.2.2⟩
    have DO := hid (dup_any x.old ao co S w5 (HO4.out.agree (Ag_b hb5 fun b hb => by have := HS.out b hb; show b < W4.heap.size; omega)) (fun b hb => by have := HS.out b hb; omega) HSM1.out.2.1)
    have HB5 := hid hb5
    have HP5 := hid hp5
    refine hK _ _ ⟨hS1, ?_⟩
    clear hK hb5 hp5 hS0 PA
    refine AnyH_one (i := 10) (by kernel_rfl) rfl (by kernel_rfl) (fun K hK => ?_)
    go_simp
    refine ⟨trivial, (callsIn_wide.2 DO.out).mono ?_⟩
    rintro e w6 ⟨ao1, co1, rfl, ho6, hb6⟩
    have hz6 := hb6.size
    have hS2 : w6.cell? ⟨wr.heap.size, 0, none⟩ = some (.slice ap x.p.length cp) ∧ w6.cell? ⟨wr.heap.size, 1, none⟩ = some (.bool x.had) ∧ w6.cell? ⟨wr.heap.size, 2, none⟩ = some (.bool x.has) ∧ w6.cell? ⟨wr.heap.size, 3, none⟩ = some (.slice ao x.old.length co) ∧ w6.cell? ⟨wr.heap.size, 4, none⟩ = some (.slice an x.new.length cn) := ⟨bc_ hb6 (by omega) hS1.1, bc_ hb6 (by omega) hS1.2.1, bc_ hb6 (by omega) hS1.2.2.1, bc_ hb6 (by omega) hS1.2.2.2.1, bc_ hb6 (by omega) hS1.2.2.2.2⟩
    have h56 := HB5.out.trans (hb6.mono hz5)
    have DN := hid (dup_any x.new an cn S w6 (HN4.out.agree (Ag_b h56 fun b hb => by have := HS.out b hb; show b < W4.heap.size; omega)) (fun b hb => by have := HS.out b hb; omega) HSM1.out.2.2)
    have HB6 := hid hb6
    have HO6 := hid ho6
    refine hK _ _ ⟨hS2, ?_⟩
    clear hK hb6 ho6 hS1 DO h56
    refine AnyH_one (i := 13) (by kernel_rfl) rfl (by kernel_rfl) (fun K hK => ?_)
    go_simp
    refine ⟨trivial, (callsIn_wide.2 DN.out).mono ?_⟩
    rintro e w7 ⟨an1, cn1, rfl, hn7, hb7⟩
    have hz7 := hb7.size
    have hS3 : w7.cell? ⟨wr.heap.size, 0, none⟩ = some (.slice ap x.p.length cp) ∧ w7.cell? ⟨wr.heap.size, 1, none⟩ = some (.bool x.had) ∧ w7.cell? ⟨wr.heap.size, 2, none⟩ = some (.bool x.has) ∧ w7.cell? ⟨wr.heap.size, 3, none⟩ = some (.slice ao x.old.length co) ∧ w7.cell? ⟨wr.heap.size, 4, none⟩ = some (.slice an x.new.length cn) := ⟨bc_ hb7 (by omega) hS2.1, bc_ hb7 (by omega) hS2.2.1, bc_ hb7 (by omega) hS2.2.2.1, bc_ hb7 (by omega) hS2.2.2.2.1, bc_ hb7 (by omega) hS2.2.2.2.2⟩
    have h57 : Below W4.heap.size W4.drew w7 := HB5.out.trans ((HB6.out.trans (hb7.mono hz6)).mono hz5)
    have HB7 := hid hb7
    have HN7 := hid hn7
    have H57 := hid h57
    refine hK _ _ ⟨hS3, ?_⟩
    clear hK hb7 hn7 hS2 DN h57
    refine tkY 14 26 (.agg #[.slice ap1 x.p.length cp1, .bool x.had, .bool x.has, .slice ao1 x.old.length co1, .slice an1 x.new.length cn1]) rfl rfl hS3 (fun w' hs => ?_) ?_
    · go_simp
    refine AnyH_one (i := 15) (by kernel_rfl) rfl (by kernel_rfl) (fun K hK => ?_)
    go_simp
    have hbb : Below w7.heap.size w7 (w7.alloc (.cells #[.slice ap1 x.p.length cp1, .bool x.had, .bool x.has, .slice ao1 x.old.length co1, .slice an1 x.new.length cn1] 120)) := (Below.refl _ _).alloc (nl_ _) _
    have hS4 : (w7.alloc (.cells #[.slice ap1 x.p.length cp1, .bool x.had, .bool x.has, .slice ao1 x.old.length co1, .slice an1 x.new.length cn1] 120)).cell? ⟨wr.heap.size, 0, none⟩ = some (.slice ap x.p.length cp) ∧ (w7.alloc (.cells #[.slice ap1 x.p.length cp1, .bool x.had, .bool x.has, .slice ao1 x.old.length co1, .slice an1 x.new.length cn1] 120)).cell? ⟨wr.heap.size, 1, none⟩ = some (.bool x.had) ∧ (w7.alloc (.cells #[.slice ap1 x.p.length cp1, .bool x.had, .bool x.has, .slice ao1 x.old.length co1, .slice an1 x.new.length cn1] 120)).cell? ⟨wr.heap.size, 2, none⟩ = some (.bool x.has) ∧ (w7.alloc (.cells #[.slice ap1 x.p.length cp1, .bool x.had, .bool x.has, .slice ao1 x.old.length co1, .slice an1 x.new.length cn1] 120)).cell? ⟨wr.heap.size, 3, none⟩ = some (.slice ao x.old.length co) ∧ (w7.alloc (.cells #[.slice ap1 x.p.length cp1, .bool x.had, .bool x.has, .slice ao1 x.old.length co1, .slice an1 x.new.length cn1] 120)).cell? ⟨wr.heap.size, 4, none⟩ = some (.slice an x.new.length cn) := ⟨bc_ hbb (by omega) hS3.1, bc_ hbb (by omega) hS3.2.1, bc_ hbb (by omega) hS3.2.2.1, bc_ hbb (by omega) hS3.2.2.2.1, bc_ hbb (by omega) hS3.2.2.2.2⟩
    refine hK _ _ ⟨hS4, ?_⟩
    clear hK
    have how7 := ob_ how4 (HB5.out.trans ((HB6.out.trans (HB7.out.mono hz6)).mono hz5)) (nl_ _)
    obtain ⟨a9, c9, w9, hr9, hown9, hgrow9, hat9⟩ := run_append_ao (P := Tryz.prog) (w7.alloc (.cells #[.slice ap1 x.p.length cp1, .bool x.had, .bool x.has, .slice ao1 x.old.length co1, .slice an1 x.new.length cn1] 120)) 109 109 w.heap.size 120 i0 _ 5 80 Tryz.underlying109 hi0 hz0 hz1 hz2 rfl (by omega) u3 k cs (how7.alloc _) (some ⟨w7.heap.size, 0, none⟩) 1 1 [.slice ap1 x.p.length cp1, .bool x.had, .bool x.has, .slice ao1 x.old.length co1, .slice an1 x.new.length cn1] rfl (fun h => by cases h) (fun ad had => by cases had; exact World.news_of_block (cs := #[.slice ap1 x.p.length cp1, .bool x.had, .bool x.has, .slice ao1 x.old.length co1, .slice an1 x.new.length cn1]) (t := 120) (fr := (0, 0)) (heap_alloc_new _ _)) (by simp [Value.oneCell']) (by unfold maxLen; omega) (by omega) (by simp; omega)
    have hnr : u3.ownBlock ≠ some wr.heap.size := fun e => by have := (HUL.out _ e).2; omega
    have hS5 : w9.cell? ⟨wr.heap.size, 0, none⟩ = some (.slice ap x.p.length cp) ∧ w9.cell? ⟨wr.heap.size, 1, none⟩ = some (.bool x.had) ∧ w9.cell? ⟨wr.heap.size, 2, none⟩ = some (.bool x.has) ∧ w9.cell? ⟨wr.heap.size, 3, none⟩ = some (.slice ao x.old.length co) ∧ w9.cell? ⟨wr.heap.size, 4, none⟩ = some (.slice an x.new.length cn) := ⟨grown_cell hgrow9 hnr hS4.1, grown_cell hgrow9 hnr hS4.2.1, grown_cell hgrow9 hnr hS4.2.2.1, grown_cell hgrow9 hnr hS4.2.2.2.1, grown_cell hgrow9 hnr hS4.2.2.2.2⟩
    refine AnyH_one (i := 16) (by kernel_rfl) rfl (by kernel_rfl) (fun K hK => ?_)
    refine wpIn_value (fun _ => trivial) rfl (exec_append rfl rfl rfl hr9) ?_
    refine hK _ _ ⟨hS5, ?_⟩
    clear hK hr9 hS3 hS4
    refine tkY 17 3 (.slice a9 (k + 1) c9) rfl rfl hS5 (fun w' hs => ?_) ?_
    · go_simp
    refine AnyH_done (by kernel_rfl) ?_
    go_simp
    obtain ⟨g9, cap9, he9, hg9, hlt9⟩ := hown9.form (by omega)
    cases he9
    have st : Step w.heap.size W4 (w7.alloc (.cells #[.slice ap1 x.p.length cp1, .bool x.had, .bool x.has, .slice ao1 x.old.length co1, .slice an1 x.new.length cn1] 120)) w9 u3 g9 := ⟨⟨H57.out.os, H57.out.tape, H57.out.output, Nat.le_trans H57.out.size hbb.size, fun b hb => (hbb.block b (by omega)).trans (H57.out.block b hb)⟩, ⟨hgrow9.os, hgrow9.tape, hgrow9.output, hgrow9.size, hgrow9.block⟩, by omega, fun b hb => by have := HUL.out b hb; omega, hat9 g9 rfl, hlt9⟩
    have hv9 : (Value.slice (some ⟨g9, 0, none⟩) (k + 1) c9).ownBlock = some g9 := rfl
    have n1 := st.keep (Stable.lcs _ _) hv9 HLC4.out
    have n2 := st.lift (Stable.pth _ _) hv9 HP5.out (nl_ _) (by simp; omega) (((HB6.out.trans (HB7.out.mono hz6)).alloc (by omega) _))
    have n3 := st.lift (Stable.ints _ _) hv9 HO6.out (by omega) (by simp; omega) (HB7.out.alloc (by omega) _)
    have n4 := st.lift (Stable.ints _ _) hv9 HN7.out (by omega) (by simp) ((Below.refl _ _).alloc (nl_ _) _)
    have n5 := hid (st.out HB4.out)
    have n6 : Hid (LCs rdCh (Rx w.heap.size w9.heap.size (.slice (some ⟨g9, 0, none⟩) (k + 1) c9)) w9 (l.take (k + 1)) (cs ++ [.slice ap1 x.p.length cp1, .bool x.had, .bool x.has, .slice ao1 x.old.length co1, .slice an1 x.new.length cn1])) := by
     rw [Hid, HTK.out]
     exact n1.app (LCs.single ⟨ap1, cp1, ao1, co1, an1, cn1, rfl, n2, n3, n4⟩)
    have HOW9 := hid hown9
    clear n1 n2 n3 n4 st hown9 hgrow9 hat9 hS5 hbb how4 how7
    go_wp2_with fail
    go_roundw
    case rel => exact ⟨k + 1, _, by omega, by go_num, HOW9.out, n6, n5⟩
    case measure => simp [intOf]; omega
  · obtain rfl : k = l.length := by omega
    have hlt' : ¬ (l.length : Int) < (l.length : Int) := by omega
    rw [List.take_length] at hlc
    go_wp2_with fail
    obtain ⟨a9, c9, rfl, _, _⟩ := owns_shape hown
    go_ret
    exact ⟨a9, c9, rfl, ⟨cs, SlC.of_owns hown, hlc.out.wide fun b hb => ⟨hb.1, hb.2.1⟩⟩, HB.out⟩
end Go.Proofs.LF
