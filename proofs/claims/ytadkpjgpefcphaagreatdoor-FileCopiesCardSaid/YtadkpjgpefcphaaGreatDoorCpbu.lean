/- Parts of the proof of a law of layer 11 (file): LfW69. The conditions stand in each theorem. -/
import Derived.BigQuiet
import Derived.Deep.AppendLies
import Derived.Deep.Cut
import Derived.Deep.CutBlock
import Derived.Deep.CutRange
import Derived.Deep.QuietTactic
import Derived.Deep.RegionHeld3
import Derived.Laws.ResultCell
import Derived.Outline
import Derived.Test.YtadkpjgpefcphaaGreatDoorProg
import Derived.WalkKit
import Derived.WalkLawsBesides
import Derived.WalkSpells
import Derived.Test.YtadkpjgpefcphaaGreatDoorCpau
import Derived.Test.YtadkpjgpefcphaaGreatDoorCpbn
import Derived.Test.YtadkpjgpefcphaaGreatDoorCpbt
set_option linter.all false
set_option linter.unusedVariables false
set_option linter.unusedSimpArgs false
namespace Go.Proofs.LF
open Go.RowKit Go.Sort
set_option maxHeartbeats 4000000
set_option maxRecDepth 100000
attribute [local go_sem] bs_toList bs_size bs_get
theorem FileCopies_any (x y z : Fo) (ax ay az : Option Addr) (cx cy cz : Nat) (w : World) (hx : FSl (fun q => q < w.heap.size) w (.slice ax x.len cx) x) (hy : FSl (fun q => q < w.heap.size) w (.slice ay y.len cy) y) (hz : FSl (fun q => q < w.heap.size) w (.slice az z.len cz) z) (ht : Pow w) :
    Calls Tryz.prog 5 #[.slice ax x.len cx, .slice ay y.len cy, .slice az z.len cz] w fun e w' => e = .returned (.bool true) ∧ Below w.heap.size w w' := by
  have DX : ∀ w1, Below w.heap.size w w1 → Calls Tryz.prog 17 #[.slice ax x.len cx, .int .i64 0] w1 fun e w' => e = .returned (.bool (decide (80 < cntG 0 0 x))) ∧ Below w1.heap.size w1 w' := fun w1 h => deep_any x ax cx _ w1 (hx.on h) (fun b hb => hb)
  have DY : ∀ w1, Below w.heap.size w w1 → Calls Tryz.prog 17 #[.slice ay y.len cy, .int .i64 0] w1 fun e w' => e = .returned (.bool (decide (80 < cntG 0 0 y))) ∧ Below w1.heap.size w1 w' := fun w1 h => deep_any y ay cy _ w1 (hy.on h) (fun b hb => hb)
  have DZ : ∀ w1, Below w.heap.size w w1 → Calls Tryz.prog 17 #[.slice az z.len cz, .int .i64 0] w1 fun e w' => e = .returned (.bool (decide (80 < cntG 0 0 z))) ∧ Below w1.heap.size w1 w' := fun w1 h => deep_any z az cz _ w1 (hz.on h) (fun b hb => hb)
  have HT := hid ht
  have Hx := hid hx
  have Hy := hid hy
  have Hz := hid hz
  have BW0 := hid (Below.refl w.heap.size w)
  clear ht hx hy hz
  by_cases g1 : 80 < cntG 0 0 x
  · rw [decide_eq_true g1] at DX
    have DX := hid DX
    clear g1 DY DZ
    go_enter Tryz.func5, Tryz.ntmps5
    go_wp2_with fail
    refine (DX.out w BW0.out).mono ?_
    rintro e d1 ⟨rfl, hb⟩
    have Bw_1 := hid (BW0.out.trans (hb.mono BW0.out.size))
    clear hb
    have AW := hid (awake_any d1 (HT.out.below Bw_1.out))
    go_wp2_with fail
    refine (AW.out).mono ?_
    rintro e z_ ⟨rfl, hb⟩
    have Bw_2 := hid (Bw_1.out.trans (hb.mono Bw_1.out.size))
    clear hb AW
    go_wp2_with fail
    go_ret
    exact ⟨rfl, Bw_2.out⟩
  rw [decide_eq_false g1] at DX
  have DX := hid DX
  by_cases g2 : 80 < cntG 0 0 y
  · rw [decide_eq_true g2] at DY
    have DY := hid DY
    clear g1 g2 DZ
    go_enter Tryz.func5, Tryz.ntmps5
    go_wp2_with fail
    refine (DX.out w BW0.out).mono ?_
    rintro e d1 ⟨rfl, hb⟩
    have Bw_1 := hid (BW0.out.trans (hb.mono BW0.out.size))
    clear hb
    go_wp2_with fail
    refine (DY.out d1 Bw_1.out).mono ?_
    rintro e d2 ⟨rfl, hb⟩
    have Bw_2 := hid (Bw_1.out.trans (hb.mono Bw_1.out.size))
    clear hb
    have AW := hid (awake_any d2 (HT.out.below Bw_2.out))
    go_wp2_with fail
    refine (AW.out).mono ?_
    rintro e z_ ⟨rfl, hb⟩
    have Bw_3 := hid (Bw_2.out.trans (hb.mono Bw_2.out.size))
    clear hb AW
    go_wp2_with fail
    go_ret
    exact ⟨rfl, Bw_3.out⟩
  rw [decide_eq_false g2] at DY
  have DY := hid DY
  by_cases g3 : 80 < cntG 0 0 z
  · rw [decide_eq_true g3] at DZ
    have DZ := hid DZ
    clear g1 g2 g3
    go_enter Tryz.func5, Tryz.ntmps5
    go_wp2_with fail
    refine (DX.out w BW0.out).mono ?_
    rintro e d1 ⟨rfl, hb⟩
    have Bw_1 := hid (BW0.out.trans (hb.mono BW0.out.size))
    clear hb
    go_wp2_with fail
    refine (DY.out d1 Bw_1.out).mono ?_
    rintro e d2 ⟨rfl, hb⟩
    have Bw_2 := hid (Bw_1.out.trans (hb.mono Bw_1.out.size))
    clear hb
    go_wp2_with fail
    refine (DZ.out d2 Bw_2.out).mono ?_
    rintro e d3 ⟨rfl, hb⟩
    have Bw_3 := hid (Bw_2.out.trans (hb.mono Bw_2.out.size))
    clear hb
    have AW := hid (awake_any d3 (HT.out.below Bw_3.out))
    go_wp2_with fail
    refine (AW.out).mono ?_
    rintro e z_ ⟨rfl, hb⟩
    have Bw_4 := hid (Bw_3.out.trans (hb.mono Bw_3.out.size))
    clear hb AW
    go_wp2_with fail
    go_ret
    exact ⟨rfl, Bw_4.out⟩
  rw [decide_eq_false g3] at DZ
  have DZ := hid DZ
  obtain ⟨nx, smx, lenx'⟩ := deep_no g1
  obtain ⟨ny, smy, leny'⟩ := deep_no g2
  obtain ⟨nz, smz, lenz'⟩ := deep_no g3
  have lenx : x.len ≤ 1000 := by omega
  have leny : y.len ≤ 1000 := by omega
  have lenz : z.len ≤ 1000 := by omega
  have SMx := hid smx
  have SMy := hid smy
  have SMz := hid smz
  have OWx := hid (fun w1 (h : Below w.heap.size w w1) => Own_any (x.cnt + 1) x ax cx _ w1 (Nat.lt_succ_self _) (Hx.out.on h) (fun b hb => hb) lenx smx)
  have THx := hid (fun w1 (h : Below w.heap.size w w1) => theirs_any (x.cnt + 1) x ax cx _ w1 (Nat.lt_succ_self _) (Hx.out.on h) (fun b hb => hb) lenx smx)
  have OWy := hid (fun w1 (h : Below w.heap.size w w1) => Own_any (y.cnt + 1) y ay cy _ w1 (Nat.lt_succ_self _) (Hy.out.on h) (fun b hb => hb) leny smy)
  have THy := hid (fun w1 (h : Below w.heap.size w w1) => theirs_any (y.cnt + 1) y ay cy _ w1 (Nat.lt_succ_self _) (Hy.out.on h) (fun b hb => hb) leny smy)
  have OWz := hid (fun w1 (h : Below w.heap.size w w1) => Own_any (z.cnt + 1) z az cz _ w1 (Nat.lt_succ_self _) (Hz.out.on h) (fun b hb => hb) lenz smz)
  have THz := hid (fun w1 (h : Below w.heap.size w w1) => theirs_any (z.cnt + 1) z az cz _ w1 (Nat.lt_succ_self _) (Hz.out.on h) (fun b hb => hb) lenz smz)
  have FIRST : ∀ W : World, Calls Tryz.prog 30 #[.slice (some ⟨W.heap.size, 0, none⟩) 3 3] (W.alloc (.cells #[.int .i64 (chkY x), .int .i64 (chkY y), .int .i64 (chkY z)] 28)) fun e w' => e = .returned (.int .i64 (cpE [x, y, z])) ∧ w' = W.alloc (.cells #[.int .i64 (chkY x), .int .i64 (chkY y), .int .i64 (chkY z)] 28) := fun W => by
    have hblk := heap_alloc_new W (.cells #[.int .i64 (chkY x), .int .i64 (chkY y), .int .i64 (chkY z)] 28)
    have := first_any [chkY x, chkY y, chkY z] (some ⟨W.heap.size, 0, none⟩) 3 (fun _ => True) (W.alloc (.cells #[.int .i64 (chkY x), .int .i64 (chkY y), .int .i64 (chkY z)] 28)) ⟨rfl, _, 3, rfl, by simp, by simp [maxLen], (fun h => by cases h), .inr ⟨W.heap.size, 0, rfl, trivial, fun j u hj => by
      have := cells_get hblk (k := j) (v := u) (by simpa using hj)
      simpa using this⟩⟩ (by simp)
    rw [firE_cpE] at this
    exact this
  have JOIN : ∀ (a1 a2 a3 : Option Addr) (c1 c2 c3 : Nat) (W : World), FSl (fun q => q < W.heap.size) W (.slice a1 x.len c1) x → FSl (fun q => q < W.heap.size) W (.slice a2 y.len c2) y → FSl (fun q => q < W.heap.size) W (.slice a3 z.len c3) z → Pow W → Calls Tryz.prog 33 #[.slice a1 x.len c1, .slice a2 y.len c2, .slice a3 z.len c3] W fun e w' => ∃ a c a' c', e = .returned (.tuple #[.slice a (joY x y z).len c, .slice a' (joP x y z).length c', .int .i64 (joE x y z)]) ∧ FSlU (Rg W.heap.size w'.heap.size) w' (.slice a (joY x y z).len c) (joY x y z) ∧ PaSl (Rg W.heap.size w'.heap.size) w' (.slice a' (joP x y z).length c') (joP x y z) ∧ Below W.heap.size W w' := fun a1 a2 a3 c1 c2 c3 W h1 h2 h3 hp => Join_u x y z a1 a2 a3 c1 c2 c3 _ W h1 h2 h3 (fun b hb => hb) ⟨lenx, smx, by omega⟩ ⟨leny, smy, by omega⟩ ⟨lenz, smz, by omega⟩ hp
  have ALIK : ∀ (a1 a2 a3 : Option Addr) (c1 c2 c3 : Nat) (W : World), FSl (fun q => q < W.heap.size) W (.slice a1 x.len c1) x → FSl (fun q => q < W.heap.size) W (.slice a2 y.len c2) y → FSl (fun q => q < W.heap.size) W (.slice a3 z.len c3) z → Pow W → Calls Tryz.prog 34 #[.slice a1 x.len c1, .slice a2 y.len c2, .slice a3 z.len c3] W fun e w' => ∃ a c, e = .returned (.tuple #[.slice a (alP x y z).length c, .int .i64 (cpE [x, y, z])]) ∧ PaSl (Rg W.heap.size w'.heap.size) w' (.slice a (alP x y z).length c) (alP x y z) ∧ Below W.heap.size W w' := fun a1 a2 a3 c1 c2 c3 W h1 h2 h3 hp => Alike_any x y z a1 a2 a3 c1 c2 c3 _ W h1 h2 h3 (fun b hb => hb) ⟨lenx, smx, by omega⟩ ⟨leny, smy, by omega⟩ ⟨lenz, smz, by omega⟩ hp
  by_cases hc : cpE [x, y, z] = 0
  · obtain ⟨kx, ky, kz⟩ := cpE_zero hc
    have RJN := fun (a1 a2 a3 : Option Addr) (c1 c2 c3 : Nat) (W : World) (h1 : FSl (fun q => q < W.heap.size) W (.slice a1 x.len c1) x) (h2 : FSl (fun q => q < W.heap.size) W (.slice a2 y.len c2) y) (h3 : FSl (fun q => q < W.heap.size) W (.slice a3 z.len c3) z) => RefJoin_any x y z a1 a2 a3 c1 c2 c3 W h1 h2 h3 ⟨lenx, smx, by omega⟩ ⟨leny, smy, by omega⟩ ⟨lenz, smz, by omega⟩ kx ky kz
    have RAL := fun (a1 a2 a3 : Option Addr) (c1 c2 c3 : Nat) (W : World) (h1 : FSl (fun q => q < W.heap.size) W (.slice a1 x.len c1) x) (h2 : FSl (fun q => q < W.heap.size) W (.slice a2 y.len c2) y) (h3 : FSl (fun q => q < W.heap.size) W (.slice a3 z.len c3) z) => RefAlike_any x y z a1 a2 a3 c1 c2 c3 W h1 h2 h3 ⟨lenx, smx, by omega⟩ ⟨leny, smy, by omega⟩ ⟨lenz, smz, by omega⟩ kx ky kz
    obtain ⟨l1, l2, l3, l4, ys, yl, pl, pm, ql, qm⟩ := copies_law kx ky kz
    rw [l1, l2, l3] at RJN
    rw [l4] at RAL
    rw [hc] at FIRST ALIK
    obtain ⟨Y, hY⟩ : ∃ Y, joY x y z = Y := ⟨_, rfl⟩
    obtain ⟨P, hP⟩ : ∃ P, joP x y z = P := ⟨_, rfl⟩
    obtain ⟨Q, hQ⟩ : ∃ Q, alP x y z = Q := ⟨_, rfl⟩
    obtain ⟨je, hje⟩ : ∃ je, joE x y z = je := ⟨_, rfl⟩
    rw [hY] at RJN JOIN ys yl
    rw [hP] at RJN JOIN pl pm
    rw [hQ] at RAL ALIK ql qm
    rw [hje] at RJN JOIN
    have YS := hid ys
    have YL := hid yl
    have PL := hid (And.intro pl pm)
    have QL := hid (And.intro ql qm)
    have RJN := hid RJN
    have RAL := hid RAL
    have JOIN := hid JOIN
    have ALIK := hid ALIK
    have FIRST := hid FIRST
    clear hc kx ky kz l1 l2 l3 l4 ys yl pl pm ql qm hY hP hQ hje g1 g2 g3 smx smy smz nx ny nz lenx' leny' lenz'
    go_enter Tryz.func5, Tryz.ntmps5
    go_wp2_with fail
    refine (DX.out w BW0.out).mono ?_
    rintro e d1 ⟨rfl, hb⟩
    have Bw_1 := hid (BW0.out.trans (hb.mono BW0.out.size))
    clear hb
    go_wp2_with fail
    refine (DY.out d1 Bw_1.out).mono ?_
    rintro e d2 ⟨rfl, hb⟩
    have Bw_2 := hid (Bw_1.out.trans (hb.mono Bw_1.out.size))
    clear hb
    go_wp2_with fail
    refine (DZ.out d2 Bw_2.out).mono ?_
    rintro e d3 ⟨rfl, hb⟩
    have Bw_3 := hid (Bw_2.out.trans (hb.mono Bw_2.out.size))
    clear hb
    go_wp2_with fail
    refine (OWx.out d3 Bw_3.out).mono ?_
    rintro e u1_ ⟨ox, px, rfl, hF, hb⟩
    have Bw_4 := hid (Bw_3.out.trans (hb.mono Bw_3.out.size))
    have Ox := hid (hF.wide (S' := fun q => q < u1_.heap.size) (fun b hb => hb.2))
    clear hF hb
    go_wp2_with fail
    refine (OWy.out u1_ Bw_4.out).mono ?_
    rintro e u2_ ⟨oy, py, rfl, hF, hb⟩
    have Bw_5 := hid (Bw_4.out.trans (hb.mono Bw_4.out.size))
    have Oy := hid (hF.wide (S' := fun q => q < u2_.heap.size) (fun b hb => hb.2))
    have Ox := hid (Ox.out.on hb)
    clear hF hb
    go_wp2_with fail
    refine (OWz.out u2_ Bw_5.out).mono ?_
    rintro e u3_ ⟨oz, pz, rfl, hF, hb⟩
    have Bw_6 := hid (Bw_5.out.trans (hb.mono Bw_5.out.size))
    have Oz := hid (hF.wide (S' := fun q => q < u3_.heap.size) (fun b hb => hb.2))
    have Ox := hid (Ox.out.on hb)
    have Oy := hid (Oy.out.on hb)
    clear hF hb
    have Bu3__6 := hid (Below.refl u3_.heap.size u3_)
    go_wp2_with fail
    refine (THx.out u3_ Bw_6.out).mono ?_
    rintro e t0_ ⟨a_, c_, rfl, hF, hb⟩
    have Bw_7 := hid (Bw_6.out.trans (hb.mono Bw_6.out.size))
    have Bu3__7 := hid (Bu3__6.out.trans (hb.mono Bu3__6.out.size))
    have RC := hid (refCheck_any x a_ c_ _ t0_ (hF.wide (S' := fun q => q < t0_.heap.size) (fun b hb => hb.2)) (fun b hb => hb) lenx SMx.out)
    clear hF hb
    go_wp2_with fail
    refine (RC.out).mono ?_
    rintro e r0_ ⟨rfl, hb⟩
    have Bw_8 := hid (Bw_7.out.trans (hb.mono Bw_7.out.size))
    have Bu3__8 := hid (Bu3__7.out.trans (hb.mono Bu3__7.out.size))
    clear hb RC
    go_wp2_with fail
    refine (THy.out r0_ Bw_8.out).mono ?_
    rintro e t1_ ⟨a_, c_, rfl, hF, hb⟩
    have Bw_9 := hid (Bw_8.out.trans (hb.mono Bw_8.out.size))
    have Bu3__9 := hid (Bu3__8.out.trans (hb.mono Bu3__8.out.size))
    have RC := hid (refCheck_any y a_ c_ _ t1_ (hF.wide (S' := fun q => q < t1_.heap.size) (fun b hb => hb.2)) (fun b hb => hb) leny SMy.out)
    clear hF hb
    go_wp2_with fail
    refine (RC.out).mono ?_
    rintro e r1_ ⟨rfl, hb⟩
    have Bw_10 := hid (Bw_9.out.trans (hb.mono Bw_9.out.size))
    have Bu3__10 := hid (Bu3__9.out.trans (hb.mono Bu3__9.out.size))
    clear hb RC
    go_wp2_with fail
    refine (THz.out r1_ Bw_10.out).mono ?_
    rintro e t2_ ⟨a_, c_, rfl, hF, hb⟩
    have Bw_11 := hid (Bw_10.out.trans (hb.mono Bw_10.out.size))
    have Bu3__11 := hid (Bu3__10.out.trans (hb.mono Bu3__10.out.size))
    have RC := hid (refCheck_any z a_ c_ _ t2_ (hF.wide (S' := fun q => q < t2_.heap.size) (fun b hb => hb.2)) (fun b hb => hb) lenz SMz.out)
    clear hF hb
    go_wp2_with fail
    refine (RC.out).mono ?_
    rintro e r2_ ⟨rfl, hb⟩
    have Bw_12 := hid (Bw_11.out.trans (hb.mono Bw_11.out.size))
    have Bu3__12 := hid (Bu3__11.out.trans (hb.mono Bu3__11.out.size))
    clear hb RC
    have FI := hid (FIRST.out r2_)
    go_wp2_with fail
    refine FI.out.mono ?_
    rintro e f_ ⟨rfl, rfl⟩
    have Bw_13 := hid (Bw_12.out.alloc Bw_12.out.size (.cells #[.int .i64 (chkY x), .int .i64 (chkY y), .int .i64 (chkY z)] 28))
    have Bu3__13 := hid (Bu3__12.out.alloc Bu3__12.out.size (.cells #[.int .i64 (chkY x), .int .i64 (chkY y), .int .i64 (chkY z)] 28))
    obtain ⟨f_, hf_⟩ : ∃ f_, (r2_.alloc (.cells #[.int .i64 (chkY x), .int .i64 (chkY y), .int .i64 (chkY z)] 28)) = f_ := ⟨_, rfl⟩
    rw [hf_] at Bw_13
    rw [hf_] at Bu3__13
    simp only [hf_]
    clear hf_
    go_wp2_with fail
    refine (THx.out f_ Bw_13.out).mono ?_
    rintro e j0_ ⟨jax, jcx, rfl, hF, hb⟩
    have Bw_14 := hid (Bw_13.out.trans (hb.mono Bw_13.out.size))
    have Bu3__14 := hid (Bu3__13.out.trans (hb.mono Bu3__13.out.size))
    have Tx := hid (hF.wide (S' := fun q => q < j0_.heap.size) (fun b hb => hb.2))
    clear hF hb
    go_wp2_with fail
    refine (THy.out j0_ Bw_14.out).mono ?_
    rintro e j1_ ⟨jay, jcy, rfl, hF, hb⟩
    have Bw_15 := hid (Bw_14.out.trans (hb.mono Bw_14.out.size))
    have Bu3__15 := hid (Bu3__14.out.trans (hb.mono Bu3__14.out.size))
    have Ty := hid (hF.wide (S' := fun q => q < j1_.heap.size) (fun b hb => hb.2))
    have Tx := hid (Tx.out.on hb)
    clear hF hb
    go_wp2_with fail
    refine (THz.out j1_ Bw_15.out).mono ?_
    rintro e j2_ ⟨jaz, jcz, rfl, hF, hb⟩
    have Bw_16 := hid (Bw_15.out.trans (hb.mono Bw_15.out.size))
    have Bu3__16 := hid (Bu3__15.out.trans (hb.mono Bu3__15.out.size))
    have Tz := hid (hF.wide (S' := fun q => q < j2_.heap.size) (fun b hb => hb.2))
    have Tx := hid (Tx.out.on hb)
    have Ty := hid (Ty.out.on hb)
    clear hF hb
    have RJ := hid (RJN.out _ _ _ _ _ _ j2_ Tx.out Ty.out Tz.out)
    go_wp2_with fail
    refine (RJ.out).mono ?_
    rintro e g1_ ⟨aw, cw, an, cn, rfl, hW, hN, hb⟩
    have Bw_17 := hid (Bw_16.out.trans (hb.mono Bw_16.out.size))
    have Bu3__17 := hid (Bu3__16.out.trans (hb.mono Bu3__16.out.size))
    have HW := hid hW
    have HN := hid hN
    clear hW hN hb RJ Tx Ty Tz
    have Bg1__17 := hid (Below.refl g1_.heap.size g1_)
    go_wp2_with fail
    refine (THx.out g1_ Bw_17.out).mono ?_
    rintro e k0_ ⟨kax, kcx, rfl, hF, hb⟩
    have Bw_18 := hid (Bw_17.out.trans (hb.mono Bw_17.out.size))
    have Bu3__18 := hid (Bu3__17.out.trans (hb.mono Bu3__17.out.size))
    have Bg1__18 := hid (Bg1__17.out.trans (hb.mono Bg1__17.out.size))
    have Tx := hid (hF.wide (S' := fun q => q < k0_.heap.size) (fun b hb => hb.2))
    clear hF hb
    go_wp2_with fail
    refine (THy.out k0_ Bw_18.out).mono ?_
    rintro e k1_ ⟨kay, kcy, rfl, hF, hb⟩
    have Bw_19 := hid (Bw_18.out.trans (hb.mono Bw_18.out.size))
    have Bu3__19 := hid (Bu3__18.out.trans (hb.mono Bu3__18.out.size))
    have Bg1__19 := hid (Bg1__18.out.trans (hb.mono Bg1__18.out.size))
    have Ty := hid (hF.wide (S' := fun q => q < k1_.heap.size) (fun b hb => hb.2))
    have Tx := hid (Tx.out.on hb)
    clear hF hb
    go_wp2_with fail
    refine (THz.out k1_ Bw_19.out).mono ?_
    rintro e k2_ ⟨kaz, kcz, rfl, hF, hb⟩
    have Bw_20 := hid (Bw_19.out.trans (hb.mono Bw_19.out.size))
    have Bu3__20 := hid (Bu3__19.out.trans (hb.mono Bu3__19.out.size))
    have Bg1__20 := hid (Bg1__19.out.trans (hb.mono Bg1__19.out.size))
    have Tz := hid (hF.wide (S' := fun q => q < k2_.heap.size) (fun b hb => hb.2))
    have Tx := hid (Tx.out.on hb)
    have Ty := hid (Ty.out.on hb)
    clear hF hb
    have RA := hid (RAL.out _ _ _ _ _ _ k2_ Tx.out Ty.out Tz.out)
    go_wp2_with fail
    refine (RA.out).mono ?_
    rintro e g2_ ⟨am, cm, rfl, hM, hb⟩
    have Bw_21 := hid (Bw_20.out.trans (hb.mono Bw_20.out.size))
    have Bu3__21 := hid (Bu3__20.out.trans (hb.mono Bu3__20.out.size))
    have Bg1__21 := hid (Bg1__20.out.trans (hb.mono Bg1__20.out.size))
    have HM := hid hM
    clear hM hb RA Tx Ty Tz
    have HW := hid (HW.out.on Bg1__21.out)
    have HN := hid (HN.out.on Bg1__21.out)
    have Bg2__21 := hid (Below.refl g2_.heap.size g2_)
    have BASEw := hid Bw_21.out.size
    have BASEu3_ := hid Bu3__21.out.size
    have JN := hid (JOIN.out _ _ _ _ _ _ g2_ (Ox.out.on Bu3__21.out) (Oy.out.on Bu3__21.out) (Oz.out.on Bu3__21.out) (HT.out.below Bw_21.out))
    go_wp2_with fail
    refine (JN.out).mono ?_
    rintro e q1_ ⟨aj, cj, ap, cp, rfl, hJ, hP, hb⟩
    have Bw_22 := hid (Bw_21.out.trans (hb.mono Bw_21.out.size))
    have Bu3__22 := hid (Bu3__21.out.trans (hb.mono Bu3__21.out.size))
    have Bg2__22 := hid (Bg2__21.out.trans (hb.mono Bg2__21.out.size))
    have HJ := hid hJ
    have HP := hid (hP.wide (S' := fun q => q < q1_.heap.size) (fun b hb => hb.2))
    clear hJ hP hb JN
    have Bq1__22 := hid (Below.refl q1_.heap.size q1_)
    have AL := hid (ALIK.out _ _ _ _ _ _ q1_ (Ox.out.on Bu3__22.out) (Oy.out.on Bu3__22.out) (Oz.out.on Bu3__22.out) (HT.out.below Bw_22.out))
    go_wp2_with fail
    refine (AL.out).mono ?_
    rintro e q2_ ⟨aq, cq, rfl, hQ, hb⟩
    have Bw_23 := hid (Bw_22.out.trans (hb.mono Bw_22.out.size))
    have Bu3__23 := hid (Bu3__22.out.trans (hb.mono Bu3__22.out.size))
    have Bg2__23 := hid (Bg2__22.out.trans (hb.mono Bg2__22.out.size))
    have Bq1__23 := hid (Bq1__22.out.trans (hb.mono Bq1__22.out.size))
    have HQ := hid (hQ.wide (S' := fun q => q < q2_.heap.size) (fun b hb => hb.2))
    clear hQ hb AL
    have Bq2__23 := hid (Below.refl q2_.heap.size q2_)
    have SN := hid ((sameNodes_any (Fo.cnt Y + 1)).2 Y Y aj cj aw cw (fun q => q < q2_.heap.size) q2_ (Nat.lt_succ_self _) (((FSlU.fsl HJ.out).wide (fun b hb => hb.2)).on Bq1__23.out) (HW.out.on Bg2__23.out) (fun b hb => hb) YL.out YL.out YS.out YS.out)
    rw [decide_eq_true rfl] at SN
    go_wp2_with fail
    refine (SN.out).mono ?_
    rintro e q3_ ⟨rfl, hb⟩
    have Bw_24 := hid (Bw_23.out.trans (hb.mono Bw_23.out.size))
    have Bu3__24 := hid (Bu3__23.out.trans (hb.mono Bu3__23.out.size))
    have Bg2__24 := hid (Bg2__23.out.trans (hb.mono Bg2__23.out.size))
    have Bq1__24 := hid (Bq1__23.out.trans (hb.mono Bq1__23.out.size))
    have Bq2__24 := hid (Bq2__23.out.trans (hb.mono Bq2__23.out.size))
    clear hb SN
    have SP := hid (samePaths_any P P ap an cp cn (fun q => q < q3_.heap.size) q3_ (HP.out.on Bq1__24.out) (HN.out.on Bg2__24.out) (fun b hb => hb) PL.out.1 PL.out.1 PL.out.2 PL.out.2)
    rw [decide_eq_true rfl] at SP
    go_wp2_with fail
    refine (SP.out).mono ?_
    rintro e q4_ ⟨rfl, hb⟩
    have Bw_25 := hid (Bw_24.out.trans (hb.mono Bw_24.out.size))
    have Bu3__25 := hid (Bu3__24.out.trans (hb.mono Bu3__24.out.size))
    have Bg2__25 := hid (Bg2__24.out.trans (hb.mono Bg2__24.out.size))
    have Bq1__25 := hid (Bq1__24.out.trans (hb.mono Bq1__24.out.size))
    have Bq2__25 := hid (Bq2__24.out.trans (hb.mono Bq2__24.out.size))
    clear hb SP
    have SQ := hid (samePaths_any Q Q aq am cq cm (fun q => q < q4_.heap.size) q4_ (HQ.out.on Bq2__25.out) (HM.out.on Bg2__25.out) (fun b hb => hb) QL.out.1 QL.out.1 QL.out.2 QL.out.2)
    rw [decide_eq_true rfl] at SQ
    go_wp2_with fail
    refine (SQ.out).mono ?_
    rintro e q5_ ⟨rfl, hb⟩
    have Bw_26 := hid (Bw_25.out.trans (hb.mono Bw_25.out.size))
    have Bu3__26 := hid (Bu3__25.out.trans (hb.mono Bu3__25.out.size))
    have Bg2__26 := hid (Bg2__25.out.trans (hb.mono Bg2__25.out.size))
    have Bq1__26 := hid (Bq1__25.out.trans (hb.mono Bq1__25.out.size))
    have Bq2__26 := hid (Bq2__25.out.trans (hb.mono Bq2__25.out.size))
    clear hb SQ
    have HJ5 := hid (FSlU.wide (FSlU.agree HJ.out (Agree.of_below Bq1__26.out (fun q hq => hq.2))) (S' := fun q => g2_.heap.size ≤ q) (fun q hq => hq.1))
    have SC := hid (scribble_any (Fo.cnt Y + 1) Y aj cj _ g2_.heap.size q5_ (Nat.lt_succ_self _) HJ5.out (fun q hq => hq) Bg2__26.out.size)
    clear HJ5
    go_wp2_with fail
    refine SC.out.mono ?_
    rintro e q6_ ⟨rfl, _, hb⟩
    have Bw_27 := hid (Bw_26.out.trans (hb.mono BASEw.out))
    have Bu3__27 := hid (Bu3__26.out.trans (hb.mono BASEu3_.out))
    have Bg2__27 := hid (Bg2__26.out.trans hb)
    clear hb SC
    have AK := hid ((alike_any (x.cnt + 1)).2 x x ox px ax cx (fun q => q < q6_.heap.size) q6_ (Nat.lt_succ_self _) (Ox.out.on Bu3__27.out) (Hx.out.on Bw_27.out) (fun b hb => hb) lenx lenx SMx.out SMx.out)
    rw [decide_eq_true rfl] at AK
    go_wp2_with fail
    refine (AK.out).mono ?_
    rintro e s0_ ⟨rfl, hb⟩
    have Bw_28 := hid (Bw_27.out.trans (hb.mono Bw_27.out.size))
    have Bu3__28 := hid (Bu3__27.out.trans (hb.mono Bu3__27.out.size))
    have Bg2__28 := hid (Bg2__27.out.trans (hb.mono Bg2__27.out.size))
    clear hb AK
    have AK := hid ((alike_any (y.cnt + 1)).2 y y oy py ay cy (fun q => q < s0_.heap.size) s0_ (Nat.lt_succ_self _) (Oy.out.on Bu3__28.out) (Hy.out.on Bw_28.out) (fun b hb => hb) leny leny SMy.out SMy.out)
    rw [decide_eq_true rfl] at AK
    go_wp2_with fail
    refine (AK.out).mono ?_
    rintro e s1_ ⟨rfl, hb⟩
    have Bw_29 := hid (Bw_28.out.trans (hb.mono Bw_28.out.size))
    have Bu3__29 := hid (Bu3__28.out.trans (hb.mono Bu3__28.out.size))
    have Bg2__29 := hid (Bg2__28.out.trans (hb.mono Bg2__28.out.size))
    clear hb AK
    have AK := hid ((alike_any (z.cnt + 1)).2 z z oz pz az cz (fun q => q < s1_.heap.size) s1_ (Nat.lt_succ_self _) (Oz.out.on Bu3__29.out) (Hz.out.on Bw_29.out) (fun b hb => hb) lenz lenz SMz.out SMz.out)
    rw [decide_eq_true rfl] at AK
    go_wp2_with fail
    refine (AK.out).mono ?_
    rintro e s2_ ⟨rfl, hb⟩
    have Bw_30 := hid (Bw_29.out.trans (hb.mono Bw_29.out.size))
    have Bu3__30 := hid (Bu3__29.out.trans (hb.mono Bu3__29.out.size))
    have Bg2__30 := hid (Bg2__29.out.trans (hb.mono Bg2__29.out.size))
    clear hb AK
    have AW := hid (awake_any s2_ (HT.out.below Bw_30.out))
    go_wp2_with fail
    refine (AW.out).mono ?_
    rintro e z_ ⟨rfl, hb⟩
    have Bw_31 := hid (Bw_30.out.trans (hb.mono Bw_30.out.size))
    have Bu3__31 := hid (Bu3__30.out.trans (hb.mono Bu3__30.out.size))
    have Bg2__31 := hid (Bg2__30.out.trans (hb.mono Bg2__30.out.size))
    clear hb AW
    go_wp2_with fail
    go_ret
    exact ⟨rfl, Bw_31.out⟩
  · have hje : joE x y z = cpE [x, y, z] := by rw [joE, if_pos hc]
    have hY : joY x y z = .nil := by rw [joY, if_neg (by rw [hje]; exact hc)]
    have hP : joP x y z = [] := by rw [joP, if_neg (by rw [hje]; exact hc)]
    have hQ : alP x y z = [] := by rw [alP, if_neg hc]
    rw [hY, hP, hje] at JOIN
    rw [hQ] at ALIK
    obtain ⟨n, hn⟩ : ∃ n, cpE [x, y, z] = n := ⟨_, rfl⟩
    rw [hn] at JOIN ALIK FIRST hc
    have hc' : (n == 0) = false := by simpa using hc
    have YS := hid (show Fo.Sm .nil from trivial)
    have YL := hid (show Fo.len .nil ≤ 1000 from Nat.zero_le _)
    have PL := hid (show ([] : List (List Ky)).length ≤ 1000 ∧ ∀ p ∈ ([] : List (List Ky)), p.length ≤ 1000 from ⟨Nat.zero_le _, fun p hp => by cases hp⟩)
    have QL := hid (show ([] : List (List Ky)).length ≤ 1000 ∧ ∀ p ∈ ([] : List (List Ky)), p.length ≤ 1000 from ⟨Nat.zero_le _, fun p hp => by cases hp⟩)
    have JOIN := hid JOIN
    have ALIK := hid ALIK
    have FIRST := hid FIRST
    clear hc hY hP hQ hje hn g1 g2 g3 smx smy smz nx ny nz lenx' leny' lenz'
    go_enter Tryz.func5, Tryz.ntmps5
    go_wp2_with fail
    refine (DX.out w BW0.out).mono ?_
    rintro e d1 ⟨rfl, hb⟩
    have Bw_1 := hid (BW0.out.trans (hb.mono BW0.out.size))
    clear hb
    go_wp2_with fail
    refine (DY.out d1 Bw_1.out).mono ?_
    rintro e d2 ⟨rfl, hb⟩
    have Bw_2 := hid (Bw_1.out.trans (hb.mono Bw_1.out.size))
    clear hb
    go_wp2_with fail
    refine (DZ.out d2 Bw_2.out).mono ?_
    rintro e d3 ⟨rfl, hb⟩
    have Bw_3 := hid (Bw_2.out.trans (hb.mono Bw_2.out.size))
    clear hb
    go_wp2_with fail
    refine (OWx.out d3 Bw_3.out).mono ?_
    rintro e u1_ ⟨ox, px, rfl, hF, hb⟩
    have Bw_4 := hid (Bw_3.out.trans (hb.mono Bw_3.out.size))
    have Ox := hid (hF.wide (S' := fun q => q < u1_.heap.size) (fun b hb => hb.2))
    clear hF hb
    go_wp2_with fail
    refine (OWy.out u1_ Bw_4.out).mono ?_
    rintro e u2_ ⟨oy, py, rfl, hF, hb⟩
    have Bw_5 := hid (Bw_4.out.trans (hb.mono Bw_4.out.size))
    have Oy := hid (hF.wide (S' := fun q => q < u2_.heap.size) (fun b hb => hb.2))
    have Ox := hid (Ox.out.on hb)
    clear hF hb
    go_wp2_with fail
    refine (OWz.out u2_ Bw_5.out).mono ?_
    rintro e u3_ ⟨oz, pz, rfl, hF, hb⟩
    have Bw_6 := hid (Bw_5.out.trans (hb.mono Bw_5.out.size))
    have Oz := hid (hF.wide (S' := fun q => q < u3_.heap.size) (fun b hb => hb.2))
    have Ox := hid (Ox.out.on hb)
    have Oy := hid (Oy.out.on hb)
    clear hF hb
    have Bu3__6 := hid (Below.refl u3_.heap.size u3_)
    go_wp2_with fail
    refine (THx.out u3_ Bw_6.out).mono ?_
    rintro e t0_ ⟨a_, c_, rfl, hF, hb⟩
    have Bw_7 := hid (Bw_6.out.trans (hb.mono Bw_6.out.size))
    have Bu3__7 := hid (Bu3__6.out.trans (hb.mono Bu3__6.out.size))
    have RC := hid (refCheck_any x a_ c_ _ t0_ (hF.wide (S' := fun q => q < t0_.heap.size) (fun b hb => hb.2)) (fun b hb => hb) lenx SMx.out)
    clear hF hb
    go_wp2_with fail
    refine (RC.out).mono ?_
    rintro e r0_ ⟨rfl, hb⟩
    have Bw_8 := hid (Bw_7.out.trans (hb.mono Bw_7.out.size))
    have Bu3__8 := hid (Bu3__7.out.trans (hb.mono Bu3__7.out.size))
    clear hb RC
    go_wp2_with fail
    refine (THy.out r0_ Bw_8.out).mono ?_
    rintro e t1_ ⟨a_, c_, rfl, hF, hb⟩
    have Bw_9 := hid (Bw_8.out.trans (hb.mono Bw_8.out.size))
    have Bu3__9 := hid (Bu3__8.out.trans (hb.mono Bu3__8.out.size))
    have RC := hid (refCheck_any y a_ c_ _ t1_ (hF.wide (S' := fun q => q < t1_.heap.size) (fun b hb => hb.2)) (fun b hb => hb) leny SMy.out)
    clear hF hb
    go_wp2_with fail
    refine (RC.out).mono ?_
    rintro e r1_ ⟨rfl, hb⟩
    have Bw_10 := hid (Bw_9.out.trans (hb.mono Bw_9.out.size))
    have Bu3__10 := hid (Bu3__9.out.trans (hb.mono Bu3__9.out.size))
    clear hb RC
    go_wp2_with fail
    refine (THz.out r1_ Bw_10.out).mono ?_
    rintro e t2_ ⟨a_, c_, rfl, hF, hb⟩
    have Bw_11 := hid (Bw_10.out.trans (hb.mono Bw_10.out.size))
    have Bu3__11 := hid (Bu3__10.out.trans (hb.mono Bu3__10.out.size))
    have RC := hid (refCheck_any z a_ c_ _ t2_ (hF.wide (S' := fun q => q < t2_.heap.size) (fun b hb => hb.2)) (fun b hb => hb) lenz SMz.out)
    clear hF hb
    go_wp2_with fail
    refine (RC.out).mono ?_
    rintro e r2_ ⟨rfl, hb⟩
    have Bw_12 := hid (Bw_11.out.trans (hb.mono Bw_11.out.size))
    have Bu3__12 := hid (Bu3__11.out.trans (hb.mono Bu3__11.out.size))
    clear hb RC
    have FI := hid (FIRST.out r2_)
    go_wp2_with fail
    refine FI.out.mono ?_
    rintro e f_ ⟨rfl, rfl⟩
    have Bw_13 := hid (Bw_12.out.alloc Bw_12.out.size (.cells #[.int .i64 (chkY x), .int .i64 (chkY y), .int .i64 (chkY z)] 28))
    have Bu3__13 := hid (Bu3__12.out.alloc Bu3__12.out.size (.cells #[.int .i64 (chkY x), .int .i64 (chkY y), .int .i64 (chkY z)] 28))
    obtain ⟨f_, hf_⟩ : ∃ f_, (r2_.alloc (.cells #[.int .i64 (chkY x), .int .i64 (chkY y), .int .i64 (chkY z)] 28)) = f_ := ⟨_, rfl⟩
    rw [hf_] at Bw_13
    rw [hf_] at Bu3__13
    simp only [hf_]
    clear hf_
    have HW := hid (show FSl (fun q => q < f_.heap.size) f_ (.slice none (Fo.nil).len 0) .nil from ⟨[], ⟨rfl, none, 0, rfl, Nat.le_refl _, by simp [maxLen], fun _ => rfl, .inl rfl⟩, rfl⟩)
    have HN := hid (show PaSl (fun q => q < f_.heap.size) f_ (.slice none ([] : List (List Ky)).length 0) [] from ⟨[], ⟨rfl, none, 0, rfl, Nat.le_refl _, by simp [maxLen], fun _ => rfl, .inl rfl⟩, rfl⟩)
    have HM := hid (show PaSl (fun q => q < f_.heap.size) f_ (.slice none ([] : List (List Ky)).length 0) [] from ⟨[], ⟨rfl, none, 0, rfl, Nat.le_refl _, by simp [maxLen], fun _ => rfl, .inl rfl⟩, rfl⟩)
    have Bf__13 := hid (Below.refl f_.heap.size f_)
    have BASEw := hid Bw_13.out.size
    have BASEu3_ := hid Bu3__13.out.size
    have JN := hid (JOIN.out _ _ _ _ _ _ f_ (Ox.out.on Bu3__13.out) (Oy.out.on Bu3__13.out) (Oz.out.on Bu3__13.out) (HT.out.below Bw_13.out))
    go_wp2_with fail
    refine (JN.out).mono ?_
    rintro e q1_ ⟨aj, cj, ap, cp, rfl, hJ, hP, hb⟩
    have Bw_14 := hid (Bw_13.out.trans (hb.mono Bw_13.out.size))
    have Bu3__14 := hid (Bu3__13.out.trans (hb.mono Bu3__13.out.size))
    have Bf__14 := hid (Bf__13.out.trans (hb.mono Bf__13.out.size))
    have HJ := hid hJ
    have HP := hid (hP.wide (S' := fun q => q < q1_.heap.size) (fun b hb => hb.2))
    clear hJ hP hb JN
    have Bq1__14 := hid (Below.refl q1_.heap.size q1_)
    have AL := hid (ALIK.out _ _ _ _ _ _ q1_ (Ox.out.on Bu3__14.out) (Oy.out.on Bu3__14.out) (Oz.out.on Bu3__14.out) (HT.out.below Bw_14.out))
    go_wp2_with fail
    refine (AL.out).mono ?_
    rintro e q2_ ⟨aq, cq, rfl, hQ, hb⟩
    have Bw_15 := hid (Bw_14.out.trans (hb.mono Bw_14.out.size))
    have Bu3__15 := hid (Bu3__14.out.trans (hb.mono Bu3__14.out.size))
    have Bf__15 := hid (Bf__14.out.trans (hb.mono Bf__14.out.size))
    have Bq1__15 := hid (Bq1__14.out.trans (hb.mono Bq1__14.out.size))
    have HQ := hid (hQ.wide (S' := fun q => q < q2_.heap.size) (fun b hb => hb.2))
    clear hQ hb AL
    have Bq2__15 := hid (Below.refl q2_.heap.size q2_)
    have SN := hid ((sameNodes_any (Fo.cnt .nil + 1)).2 .nil .nil aj cj none 0 (fun q => q < q2_.heap.size) q2_ (Nat.lt_succ_self _) (((FSlU.fsl HJ.out).wide (fun b hb => hb.2)).on Bq1__15.out) (HW.out.on Bf__15.out) (fun b hb => hb) YL.out YL.out YS.out YS.out)
    rw [decide_eq_true rfl] at SN
    go_wp2_with fail
    refine (SN.out).mono ?_
    rintro e q3_ ⟨rfl, hb⟩
    have Bw_16 := hid (Bw_15.out.trans (hb.mono Bw_15.out.size))
    have Bu3__16 := hid (Bu3__15.out.trans (hb.mono Bu3__15.out.size))
    have Bf__16 := hid (Bf__15.out.trans (hb.mono Bf__15.out.size))
    have Bq1__16 := hid (Bq1__15.out.trans (hb.mono Bq1__15.out.size))
    have Bq2__16 := hid (Bq2__15.out.trans (hb.mono Bq2__15.out.size))
    clear hb SN
    have SP := hid (samePaths_any [] [] ap none cp 0 (fun q => q < q3_.heap.size) q3_ (HP.out.on Bq1__16.out) (HN.out.on Bf__16.out) (fun b hb => hb) PL.out.1 PL.out.1 PL.out.2 PL.out.2)
    rw [decide_eq_true rfl] at SP
    go_wp2_with fail
    refine (SP.out).mono ?_
    rintro e q4_ ⟨rfl, hb⟩
    have Bw_17 := hid (Bw_16.out.trans (hb.mono Bw_16.out.size))
    have Bu3__17 := hid (Bu3__16.out.trans (hb.mono Bu3__16.out.size))
    have Bf__17 := hid (Bf__16.out.trans (hb.mono Bf__16.out.size))
    have Bq1__17 := hid (Bq1__16.out.trans (hb.mono Bq1__16.out.size))
    have Bq2__17 := hid (Bq2__16.out.trans (hb.mono Bq2__16.out.size))
    clear hb SP
    have SQ := hid (samePaths_any [] [] aq none cq 0 (fun q => q < q4_.heap.size) q4_ (HQ.out.on Bq2__17.out) (HM.out.on Bf__17.out) (fun b hb => hb) QL.out.1 QL.out.1 QL.out.2 QL.out.2)
    rw [decide_eq_true rfl] at SQ
    go_wp2_with fail
    refine (SQ.out).mono ?_
    rintro e q5_ ⟨rfl, hb⟩
    have Bw_18 := hid (Bw_17.out.trans (hb.mono Bw_17.out.size))
    have Bu3__18 := hid (Bu3__17.out.trans (hb.mono Bu3__17.out.size))
    have Bf__18 := hid (Bf__17.out.trans (hb.mono Bf__17.out.size))
    have Bq1__18 := hid (Bq1__17.out.trans (hb.mono Bq1__17.out.size))
    have Bq2__18 := hid (Bq2__17.out.trans (hb.mono Bq2__17.out.size))
    clear hb SQ
    have HJ5 := hid (FSlU.wide (FSlU.agree HJ.out (Agree.of_below Bq1__18.out (fun q hq => hq.2))) (S' := fun q => f_.heap.size ≤ q) (fun q hq => hq.1))
    have SC := hid (scribble_any (Fo.cnt .nil + 1) .nil aj cj _ f_.heap.size q5_ (Nat.lt_succ_self _) HJ5.out (fun q hq => hq) Bf__18.out.size)
    clear HJ5
    go_wp2_with fail
    refine SC.out.mono ?_
    rintro e q6_ ⟨rfl, _, hb⟩
    have Bw_19 := hid (Bw_18.out.trans (hb.mono BASEw.out))
    have Bu3__19 := hid (Bu3__18.out.trans (hb.mono BASEu3_.out))
    have Bf__19 := hid (Bf__18.out.trans hb)
    clear hb SC
    have AK := hid ((alike_any (x.cnt + 1)).2 x x ox px ax cx (fun q => q < q6_.heap.size) q6_ (Nat.lt_succ_self _) (Ox.out.on Bu3__19.out) (Hx.out.on Bw_19.out) (fun b hb => hb) lenx lenx SMx.out SMx.out)
    rw [decide_eq_true rfl] at AK
    go_wp2_with fail
    refine (AK.out).mono ?_
    rintro e s0_ ⟨rfl, hb⟩
    have Bw_20 := hid (Bw_19.out.trans (hb.mono Bw_19.out.size))
    have Bu3__20 := hid (Bu3__19.out.trans (hb.mono Bu3__19.out.size))
    have Bf__20 := hid (Bf__19.out.trans (hb.mono Bf__19.out.size))
    clear hb AK
    have AK := hid ((alike_any (y.cnt + 1)).2 y y oy py ay cy (fun q => q < s0_.heap.size) s0_ (Nat.lt_succ_self _) (Oy.out.on Bu3__20.out) (Hy.out.on Bw_20.out) (fun b hb => hb) leny leny SMy.out SMy.out)
    rw [decide_eq_true rfl] at AK
    go_wp2_with fail
    refine (AK.out).mono ?_
    rintro e s1_ ⟨rfl, hb⟩
    have Bw_21 := hid (Bw_20.out.trans (hb.mono Bw_20.out.size))
    have Bu3__21 := hid (Bu3__20.out.trans (hb.mono Bu3__20.out.size))
    have Bf__21 := hid (Bf__20.out.trans (hb.mono Bf__20.out.size))
    clear hb AK
    have AK := hid ((alike_any (z.cnt + 1)).2 z z oz pz az cz (fun q => q < s1_.heap.size) s1_ (Nat.lt_succ_self _) (Oz.out.on Bu3__21.out) (Hz.out.on Bw_21.out) (fun b hb => hb) lenz lenz SMz.out SMz.out)
    rw [decide_eq_true rfl] at AK
    go_wp2_with fail
    refine (AK.out).mono ?_
    rintro e s2_ ⟨rfl, hb⟩
    have Bw_22 := hid (Bw_21.out.trans (hb.mono Bw_21.out.size))
    have Bu3__22 := hid (Bu3__21.out.trans (hb.mono Bu3__21.out.size))
    have Bf__22 := hid (Bf__21.out.trans (hb.mono Bf__21.out.size))
    clear hb AK
    have AW := hid (awake_any s2_ (HT.out.below Bw_22.out))
    go_wp2_with fail
    refine (AW.out).mono ?_
    rintro e z_ ⟨rfl, hb⟩
    have Bw_23 := hid (Bw_22.out.trans (hb.mono Bw_22.out.size))
    have Bu3__23 := hid (Bu3__22.out.trans (hb.mono Bu3__22.out.size))
    have Bf__23 := hid (Bf__22.out.trans (hb.mono Bf__22.out.size))
    clear hb AW
    go_wp2_with fail
    go_ret
    exact ⟨rfl, Bw_23.out⟩
end Go.Proofs.LF
