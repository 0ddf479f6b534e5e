/- Parts of the proof of a law of layer 11 (file): LfW107, LfC108, LfW108. The conditions stand in each theorem. -/
import Derived.Test.YtadkpjgpefcphaaGreatDoorProg
import Derived.Test.YtadkpjgpefcphaaGreatDoorCkbh
import Derived.Test.YtadkpjgpefcphaaGreatDoorCkbj
import Derived.Test.YtadkpjgpefcphaaGreatDoorCkbm
import Derived.Test.YtadkpjgpefcphaaGreatDoorCkbn
import Derived.Test.YtadkpjgpefcphaaGreatDoorCkbo
set_option linter.all false
set_option linter.unusedVariables false
set_option linter.unusedSimpArgs false
namespace Go.Proofs.LF
open Go.RowKit Go.Sort
set_option maxHeartbeats 4000000
set_option maxRecDepth 100000
attribute [local go_sem] bs_toList bs_size bs_get
theorem same160c (x y : Ch) (ap ao an aq ar am : Option Addr) (cp co cn cq cr cm : Nat) (S : Nat → Prop) (w : World) (hp : Pth S w (.slice ap x.p.length cp) x.p) (ho : Ints S w (.slice ao x.old.length co) x.old) (hn : Ints S w (.slice an x.new.length cn) x.new)
 (hq : Pth S w (.slice aq y.p.length cq) y.p) (hr : Ints S w (.slice ar y.old.length cr) y.old) (hm : Ints S w (.slice am y.new.length cm) y.new) (hS : ∀ b, S b → b < w.heap.size) (hx : x.p.length ≤ 1000 ∧ x.old.length ≤ 1000 ∧ x.new.length ≤ 1000) (hy : y.p.length ≤ 1000 ∧ y.old.length ≤ 1000 ∧ y.new.length ≤ 1000) :
 Calls Tryz.prog 160 #[.agg #[.slice ap x.p.length cp, .bool x.had, .bool x.has, .slice ao x.old.length co, .slice an x.new.length cn], .agg #[.slice aq y.p.length cq, .bool y.had, .bool y.has, .slice ar y.old.length cr, .slice am y.new.length cm]] w fun e w' => e = .returned (.bool (decide (x = y))) ∧ Below w.heap.size w w' := by
 refine (same160 x.p y.p x.had x.has y.had y.has x.old x.new y.old y.new ap ao an aq ar am cp co cn cq cr cm S w hp ho hn hq hr hm hS hx.1 hx.2.1 hx.2.2 hy.1 hy.2.1 hy.2.2).mono ?_
 rintro e w' ⟨rfl, hb⟩
 refine ⟨?_, hb⟩
 congr 2
 obtain ⟨p, a, b, c, d⟩ := x
 obtain ⟨p', a', b', c', d'⟩ := y
 rw [Bool.eq_iff_iff]
 simp [Ch.mk.injEq, and_assoc]
def SmL3 (l : List Ch) : Prop := ∀ x ∈ l, x.p.length ≤ 1000 ∧ x.old.length ≤ 1000 ∧ x.new.length ≤ 1000
theorem eqChg_any (y z : List Ch) (ay az : Option Addr) (cy cz : Nat) (S : Nat → Prop) (w : World) (hy : ChSl S w (.slice ay y.length cy) y) (hz : ChSl S w (.slice az z.length cz) z) (hS : ∀ b, S b → b < w.heap.size) (ly : y.length ≤ 1000) (lz : z.length ≤ 1000) (sy : SmL3 y) (sz : SmL3 z) :
 Calls Tryz.prog 159 #[.slice ay y.length cy, .slice az z.length cz, .func (.func 160) #[] #[]] w fun e w' => e = .returned (.bool (decide (y = z))) ∧ Below w.heap.size w w' := by
 obtain ⟨_, _, he, hc, hm1, hat⟩ := hy.at
 cases he
 obtain ⟨_, _, he, hc', hm2, hat'⟩ := hz.at
 cases he
 unfold maxLen at hm1 hm2
 have hE := enters160
 have HAT := hid hat
 have HAT' := hid hat'
 have HS := hid hS
 have SY := hid sy
 have SZ := hid sz
 clear hat hat' hS sy sz hy hz
 by_cases hne : y.length = z.length
 · have hne' : ((y.length : Int) != (z.length : Int)) = false := by simp; omega
   have HN := hid hne
   clear hne
   go_enter Tryz.func159, Tryz.ntmps159
   go_wp2_with fail
   go_loopw [17] (fun i wr => ∃ k : Nat, k ≤ y.length ∧ i = .int .i64 k ∧ Hid (y.take k = z.take k) ∧ Below w.heap.size w wr) (fun i _ => y.length - (intOf i).toNat)
   case atStart => exact ⟨0, by omega, rfl, by simp [Hid], Below.refl _ _⟩
   case round =>
    obtain ⟨k, hk, rfl, H2, hB⟩ := hrel
    have hsz := hB.size
    by_cases hlt : k < y.length
    · have hlt2 : k < z.length := by have := HN.out; omega
      obtain ⟨g, o, cs1, rfl, hg, ⟨ap, cp, ao, co, an, cn, rfl, hP, hO, hN⟩, hcell⟩ := HAT.out k hlt
      obtain ⟨g', o', cs2, rfl, hg', ⟨aq, cq, ar, cr, am, cm, rfl, hQ, hR, hM⟩, hcell'⟩ := HAT'.out k hlt2
      have hlt' : (k : Int) < (z.length : Int) := by omega
      have ha : Agree S w wr := Ag_b hB HS.out
      have c0 := ha.cell hg (hcell 0 _ rfl)
      have c1 := ha.cell hg (hcell 1 _ rfl)
      have c2 := ha.cell hg (hcell 2 _ rfl)
      have c3 := ha.cell hg (hcell 3 _ rfl)
      have c4 := ha.cell hg (hcell 4 _ rfl)
      have d0 := ha.cell hg' (hcell' 0 _ rfl)
      have d1 := ha.cell hg' (hcell' 1 _ rfl)
      have d2 := ha.cell hg' (hcell' 2 _ rfl)
      have d3 := ha.cell hg' (hcell' 3 _ rfl)
      have d4 := ha.cell hg' (hcell' 4 _ rfl)
      rw [Nat.add_zero] at c0 d0
      simp only [← Nat.add_assoc] at c1 c2 c3 c4 d1 d2 d3 d4
      have l1 := SY.out _ (List.getElem_mem hlt)
      have l2 := SZ.out _ (List.getElem_mem hlt2)
      have ty : y.take (k + 1) = y.take k ++ [y[k]] := List.take_succ_eq_append_getElem hlt
      have tz : z.take (k + 1) = z.take k ++ [z[k]] := List.take_succ_eq_append_getElem hlt2
      obtain ⟨u, hu⟩ : ∃ u, y[k] = u := ⟨_, rfl⟩
      obtain ⟨v, hv⟩ : ∃ v, z[k] = v := ⟨_, rfl⟩
      rw [hu] at c0 c1 c2 c3 c4 hP hO hN l1 ty
      rw [hv] at d0 d1 d2 d3 d4 hQ hR hM l2 tz
      obtain ⟨W4, hW4⟩ : ∃ W4, wr.alloc (.cells #[.slice ap u.p.length cp, .bool u.had, .bool u.has, .slice ao u.old.length co, .slice an u.new.length cn] 68) = W4 := ⟨_, rfl⟩
      obtain ⟨W5, hW5⟩ : ∃ W5, W4.alloc (.cells #[.slice aq v.p.length cq, .bool v.had, .bool v.has, .slice ar v.old.length cr, .slice am v.new.length cm] 120) = W5 := ⟨_, rfl⟩
      have hz4 : W4.heap.size = wr.heap.size + 1 := by rw [← hW4]; simp
      have hz5 : W5.heap.size = wr.heap.size + 2 := by rw [← hW5]; simp; omega
      have hb4 : Below wr.heap.size wr W4 := by rw [← hW4]; exact (Below.refl _ _).alloc (nl_ _) _
      have hb45 : Below W4.heap.size W4 W5 := by rw [← hW5]; exact (Below.refl _ _).alloc (nl_ _) _
      have hb5 : Below wr.heap.size wr W5 := hb4.trans (hb45.mono (by omega))
      have hnb4 : W4.heap[wr.heap.size]? = some (.cells #[.slice ap u.p.length cp, .bool u.had, .bool u.has, .slice ao u.old.length co, .slice an u.new.length cn] 68 (0, 0)) := by rw [← hW4]; exact heap_alloc_new _ _
      have hnb : W5.heap[wr.heap.size]? = some (.cells #[.slice ap u.p.length cp, .bool u.had, .bool u.has, .slice ao u.old.length co, .slice an u.new.length cn] 68 (0, 0)) := (hb45.block _ (by omega)).trans hnb4
      have hnc : W5.heap[W4.heap.size]? = some (.cells #[.slice aq v.p.length cq, .bool v.had, .bool v.has, .slice ar v.old.length cr, .slice am v.new.length cm] 120 (0, 0)) := by rw [← hW5]; exact heap_alloc_new _ _
      have e0 := cg_ hnb (k := 0) rfl
      have e1 := cg_ hnb (k := 1) rfl
      have e2 := cg_ hnb (k := 2) rfl
      have e3 := cg_ hnb (k := 3) rfl
      have e4 := cg_ hnb (k := 4) rfl
      have f0 := cg_ hnc (k := 0) rfl
      have f1 := cg_ hnc (k := 1) rfl
      have f2 := cg_ hnc (k := 2) rfl
      have f3 := cg_ hnc (k := 3) rfl
      have f4 := cg_ hnc (k := 4) rfl
      have g0 := bc_ hb4 (show g' < wr.heap.size by have := HS.out g' hg'; omega) d0
      have g1 := bc_ hb4 (show g' < wr.heap.size by have := HS.out g' hg'; omega) d1
      have g2 := bc_ hb4 (show g' < wr.heap.size by have := HS.out g' hg'; omega) d2
      have g3 := bc_ hb4 (show g' < wr.heap.size by have := HS.out g' hg'; omega) d3
      have g4 := bc_ hb4 (show g' < wr.heap.size by have := HS.out g' hg'; omega) d4
      have ha5 : Agree S w W5 := Ag_b (hB.trans (hb5.mono hsz)) HS.out
      have SP := hid (same160c u v ap ao an aq ar am cp co cn cq cr cm S W5 (hP.agree ha5) (hO.agree ha5) (hN.agree ha5) (hQ.agree ha5) (hR.agree ha5) (hM.agree ha5) (fun b hb => by have := HS.out b hb; omega) l1 l2)
      have TY := hid ty
      have TZ := hid tz
      have HPp := hid hu
      have HQq := hid hv
      have HW4 := hid hW4
      have HW5 := hid hW5
      have HB5 := hid (hB.trans (hb5.mono hsz))
      have hw5 : w.heap.size ≤ W5.heap.size := by omega
      clear hcell hcell' hP hO hN hQ hR hM ty tz hu hv hW4 hW5 hb4 hb45 hb5 hnb4 hnb hnc hz5 ha ha5 d0 d1 d2 d3 d4 hz4
      by_cases he : u = v
      · rw [decide_eq_true he] at SP
        have HE := hid he
        clear he
        go_wp2_with (first | rw [HW4.out] | rw [HW5.out])
        refine SP.out.mono ?_
        rintro e w1 ⟨rfl, hb1⟩
        have HB1 := hid (HB5.out.trans (hb1.mono hw5))
        clear hb1 c0 c1 c2 c3 c4 e0 e1 e2 e3 e4 f0 f1 f2 f3 f4 g0 g1 g2 g3 g4 SP
        apply_assumption
        go_wp2_with fail
        go_roundw
        case rel => exact ⟨k + 1, by omega, by go_num, by rw [Hid, TY.out, TZ.out, H2.out, HE.out], HB1.out⟩
        case measure => simp [intOf]; omega
      · rw [decide_eq_false he] at SP
        have HE := hid he
        clear he
        go_wp2_with (first | rw [HW4.out] | rw [HW5.out])
        refine SP.out.mono ?_
        rintro e w1 ⟨rfl, hb1⟩
        have HB1 := hid (HB5.out.trans (hb1.mono hw5))
        clear hb1 c0 c1 c2 c3 c4 e0 e1 e2 e3 e4 f0 f1 f2 f3 f4 g0 g1 g2 g3 g4 SP
        apply_assumption
        go_wp2_with fail
        go_ret
        refine ⟨ret_bool ?_, HB1.out⟩
        symm
        rw [decide_eq_false_iff_not]
        rintro rfl
        exact HE.out (HPp.out.symm.trans HQq.out)
    · go_wp2_with fail
      go_ret
      obtain rfl : k = y.length := by omega
      refine ⟨ret_bool ?_, hB⟩
      symm
      have := H2.out
      rw [List.take_length, HN.out, List.take_length] at this
      exact decide_eq_true this
 · have hne' : ((y.length : Int) != (z.length : Int)) = true := by simp; omega
   have HN := hid hne
   clear hne
   go_enter Tryz.func159, Tryz.ntmps159
   go_wp2_with fail
   go_ret
   refine ⟨ret_bool ?_, Below.refl _ _⟩
   symm
   rw [decide_eq_false_iff_not]
   rintro rfl
   exact HN.out rfl
theorem sameChg_any (y z : List Ch) (ay az : Option Addr) (cy cz : Nat) (S : Nat → Prop) (w : World) (hy : ChSl S w (.slice ay y.length cy) y) (hz : ChSl S w (.slice az z.length cz) z) (hS : ∀ b, S b → b < w.heap.size) (ly : y.length ≤ 1000) (lz : z.length ≤ 1000) (sy : SmL3 y) (sz : SmL3 z) :
 Calls Tryz.prog 68 #[.slice ay y.length cy, .slice az z.length cz] w fun e w' => e = .returned (.bool (decide (y = z))) ∧ Below w.heap.size w w' := by
 have HQ := hid (eqChg_any y z ay az cy cz S w hy hz hS ly lz sy sz)
 clear hy hz hS ly lz sy sz
 go_enter Tryz.func68, Tryz.ntmps68
 go_wp2_with fail
 refine HQ.out.mono ?_
 rintro e w1 ⟨rfl, hb1⟩
 go_wp2_with fail
 go_ret
 exact ⟨rfl, hb1⟩
theorem unch_any (y z : List Ch) (ay az : Option Addr) (cy cz : Nat) (S : Nat → Prop) (w : World) (hy : ChSl S w (.slice ay y.length cy) y) (hz : ChSl S w (.slice az z.length cz) z) (hS : ∀ b, S b → b < w.heap.size) (ly : y.length ≤ 1000) (lz : z.length ≤ 1000) (sy : SmL3 y) (sz : SmL3 z) :
 Calls Tryz.prog 74 #[.slice ay y.length cy, .slice az z.length cz] w fun e w' => e = .returned (.bool (decide (y = z))) ∧ Below w.heap.size w w' := by
 have HC := hid (changes_any z az cz S w hz hS lz sz)
 have HY := hid hy
 have HS := hid hS
 have SY := hid sy
 have SZ := hid sz
 clear hy hz hS sy sz
 go_enter Tryz.func74, Tryz.ntmps74
 go_wp2_with fail
 refine HC.out.mono ?_
 rintro e w1 ⟨a1, c1, rfl, hc1, hb1⟩
 have hz1 := hb1.size
 have HQ := hid (sameChg_any y z ay a1 cy c1 (fun b => b < w1.heap.size) w1 ((LSl.agree HY.out (Ag_b hb1 HS.out)).wide fun b hb => by have := HS.out b hb; omega) (hc1.wide fun b hb => hb.2) (fun b hb => hb) ly lz SY.out SZ.out)
 have HB := hid hb1
 clear hb1 hc1 HC
 go_wp2_with fail
 refine HQ.out.mono ?_
 rintro e w2 ⟨rfl, hb2⟩
 have HB2 := hid (HB.out.trans (hb2.mono hz1))
 clear hb2
 go_wp2_with fail
 go_ret
 exact ⟨rfl, HB2.out⟩
end Go.Proofs.LF
namespace Go.Proofs.LF
open Go.RowKit Go.Sort
theorem after_c (l m : List Ch) (al am : Option Addr) (cl cm : Nat) (W : World) (hl : ChIn W (.slice al l.length cl) l) (hm : ChIn W (.slice am m.length cm) m) (ll : l.length ≤ 1000) (lm : m.length ≤ 1000) (sl : SmCh l) (sm : SmCh m) (ht : Pow W) {E : Int} {A : List Ch} (h : aftE l m = E ∧ aftL l m = A) :
 Calls Tryz.prog 76 #[.slice al l.length cl, .slice am m.length cm] W fun e w' => ∃ a c, e = .returned (.tuple #[.slice a A.length c, .int .i64 E]) ∧ ChIn w' (.slice a A.length c) A ∧ Below W.heap.size W w' := by
 obtain ⟨rfl, rfl⟩ := h
 exact (After_any l m al am cl cm _ _ W hl (fun _ h => h) hm (fun _ h => h) ll lm sl sm ht).mono fun e w' ⟨a, c, he, h1, h2⟩ => ⟨a, c, he, h1.wide fun b hb => hb.1.2, h2⟩
theorem unch_c (y : List Ch) (ay az : Option Addr) (cy cz : Nat) (W : World) (hy : ChIn W (.slice ay y.length cy) y) (hz : ChIn W (.slice az y.length cz) y) (ly : y.length ≤ 1000) (sy : SmCh y) :
 Calls Tryz.prog 74 #[.slice ay y.length cy, .slice az y.length cz] W fun e w' => e = .returned (.bool true) ∧ Below W.heap.size W w' := by
 have h := unch_any y y ay az cy cz _ W hy hz (fun _ h => h) ly ly (fun x hx => ⟨(sy x hx).1, (sy x hx).2.2.1, (sy x hx).2.2.2⟩) (fun x hx => ⟨(sy x hx).1, (sy x hx).2.2.1, (sy x hx).2.2.2⟩)
 rwa [decide_eq_true rfl] at h
end Go.Proofs.LF
namespace Go.Proofs.LF
open Go.RowKit Go.Sort
set_option maxHeartbeats 4000000
set_option maxRecDepth 100000
attribute [local go_sem] bs_toList bs_size bs_get
theorem FileComposed_any (l1 l2 l3 : List Int) (i1 i2 i3 : Option Addr) (k1 k2 k3 : Nat) (w : World) (h1 : ByIn w (.slice i1 l1.length k1) l1) (h2 : ByIn w (.slice i2 l2.length k2) l2) (h3 : ByIn w (.slice i3 l3.length k3) l3) (ht : Pow w) :
 Calls Tryz.prog 14 #[.slice i1 l1.length k1, .slice i2 l2.length k2, .slice i3 l3.length k3] w fun e w' => e = .returned (.bool true) ∧ Below w.heap.size w w' := by
 have HT := hid ht
 have B1 := hid h1
 have B2 := hid h2
 have B3 := hid h3
 have BW := hid (Below.refl w.heap.size w)
 clear ht h1 h2 h3
 go_enter Tryz.func14, Tryz.ntmps14
 go_wp2_with fail
 refine (pile_c l1 i1 k1 w B1.out).mono ?_
 rintro e p1 ⟨rfl, hp⟩
 have HP := hid hp
 clear hp
 go_wp2_with fail
 refine (made_c w p1 HP.out).mono ?_
 rintro e w1 ⟨y, ay, cy, rfl, hF, ho, hb⟩
 replace B2 := hid (B2.out.on hb)
 replace B3 := hid (B3.out.on hb)
 replace BW := hid (BW.out.trans (hb.mono BW.out.size))
 have Hy := hid hF
 have Oy := hid ho
 clear hF ho hb HP
 go_wp2_with fail
 refine (pile_c l2 i2 k2 w1 B2.out).mono ?_
 rintro e p2 ⟨rfl, hp⟩
 have HP := hid hp
 clear hp
 go_wp2_with fail
 refine (changed_c y ay cy w1 p2 HP.out Hy.out Oy.out.1 (by have := Oy.out.2; omega)).mono ?_
 rintro e w2 ⟨x, ax, cx, rfl, hF, ho, hb⟩
 replace B3 := hid (B3.out.on hb)
 replace Hy := hid (Hy.out.on hb)
 replace BW := hid (BW.out.trans (hb.mono BW.out.size))
 have Hx := hid hF
 have Ox := hid ho
 clear hF ho hb HP
 go_wp2_with fail
 refine (pile_c l3 i3 k3 w2 B3.out).mono ?_
 rintro e p3 ⟨rfl, hp⟩
 have HP := hid hp
 clear hp
 go_wp2_with fail
 refine (changed_c x ax cx w2 p3 HP.out Hx.out Ox.out.1 (by have := Oy.out.2; have := Ox.out.2; omega)).mono ?_
 rintro e w3 ⟨z, az, cz, rfl, hF, ho, hb⟩
 replace Hy := hid (Hy.out.on hb)
 replace Hx := hid (Hx.out.on hb)
 replace BW := hid (BW.out.trans (hb.mono BW.out.size))
 have Hz := hid hF
 have Oz := hid ho
 clear hF ho hb HP
 clear B1
 have ny := Oy.out.2
 have nx := Ox.out.2
 have nz := Oz.out.2
 have BDy := hid (okF_bd Oy.out.1 (by omega))
 have BDx := hid (okF_bd Ox.out.1 (by omega))
 have BDz := hid (okF_bd Oz.out.1 (by omega))
 by_cases ky : y.cnt ≤ 60
 rotate_left
 · go_wp2_with fail
   refine (checkE_c y ay cy w3 Hy.out BDy.out (okF_many2 Oy.out.1 ky)).mono ?_
   rintro e c0_ ⟨rfl, hb⟩
   replace Hy := hid (Hy.out.on hb)
   replace Hx := hid (Hx.out.on hb)
   replace Hz := hid (Hz.out.on hb)
   replace BW := hid (BW.out.trans (hb.mono BW.out.size))
   clear hb
   go_wp2_with fail
   refine (few_c y ay cy c0_ Hy.out Oy.out.1 (by omega) (q := true) (by simp; omega)).mono ?_
   rintro e f0_ ⟨rfl, hb⟩
   replace Hy := hid (Hy.out.on hb)
   replace Hx := hid (Hx.out.on hb)
   replace Hz := hid (Hz.out.on hb)
   replace BW := hid (BW.out.trans (hb.mono BW.out.size))
   clear hb
   go_wp2_with fail
   refine (awake_any f0_ (HT.out.below BW.out)).mono ?_
   rintro e z_ ⟨rfl, hb⟩
   replace Hy := hid (Hy.out.on hb)
   replace Hx := hid (Hx.out.on hb)
   replace Hz := hid (Hz.out.on hb)
   replace BW := hid (BW.out.trans (hb.mono BW.out.size))
   clear hb
   go_wp2_with fail
   go_ret
   exact ⟨rfl, BW.out⟩
 by_cases kx : x.cnt ≤ 60
 rotate_left
 · go_wp2_with fail
   refine (checkE_c y ay cy w3 Hy.out BDy.out (okF_few Oy.out.1 ky)).mono ?_
   rintro e c0_ ⟨rfl, hb⟩
   replace Hy := hid (Hy.out.on hb)
   replace Hx := hid (Hx.out.on hb)
   replace Hz := hid (Hz.out.on hb)
   replace BW := hid (BW.out.trans (hb.mono BW.out.size))
   clear hb
   go_wp2_with fail
   refine (checkE_c x ax cx c0_ Hx.out BDx.out (okF_many2 Ox.out.1 kx)).mono ?_
   rintro e c1_ ⟨rfl, hb⟩
   replace Hy := hid (Hy.out.on hb)
   replace Hx := hid (Hx.out.on hb)
   replace Hz := hid (Hz.out.on hb)
   replace BW := hid (BW.out.trans (hb.mono BW.out.size))
   clear hb
   go_wp2_with fail
   refine (few_c y ay cy c1_ Hy.out Oy.out.1 (by omega) (q := false) (by simp; omega)).mono ?_
   rintro e f0_ ⟨rfl, hb⟩
   replace Hy := hid (Hy.out.on hb)
   replace Hx := hid (Hx.out.on hb)
   replace Hz := hid (Hz.out.on hb)
   replace BW := hid (BW.out.trans (hb.mono BW.out.size))
   clear hb
   go_wp2_with fail
   refine (few_c x ax cx f0_ Hx.out Ox.out.1 (by omega) (q := true) (by simp; omega)).mono ?_
   rintro e f1_ ⟨rfl, hb⟩
   replace Hy := hid (Hy.out.on hb)
   replace Hx := hid (Hx.out.on hb)
   replace Hz := hid (Hz.out.on hb)
   replace BW := hid (BW.out.trans (hb.mono BW.out.size))
   clear hb
   go_wp2_with fail
   refine (awake_any f1_ (HT.out.below BW.out)).mono ?_
   rintro e z_ ⟨rfl, hb⟩
   replace Hy := hid (Hy.out.on hb)
   replace Hx := hid (Hx.out.on hb)
   replace Hz := hid (Hz.out.on hb)
   replace BW := hid (BW.out.trans (hb.mono BW.out.size))
   clear hb
   go_wp2_with fail
   go_ret
   exact ⟨rfl, BW.out⟩
 by_cases kz : z.cnt ≤ 60
 rotate_left
 · go_wp2_with fail
   refine (checkE_c y ay cy w3 Hy.out BDy.out (okF_few Oy.out.1 ky)).mono ?_
   rintro e c0_ ⟨rfl, hb⟩
   replace Hy := hid (Hy.out.on hb)
   replace Hx := hid (Hx.out.on hb)
   replace Hz := hid (Hz.out.on hb)
   replace BW := hid (BW.out.trans (hb.mono BW.out.size))
   clear hb
   go_wp2_with fail
   refine (checkE_c x ax cx c0_ Hx.out BDx.out (okF_few Ox.out.1 kx)).mono ?_
   rintro e c1_ ⟨rfl, hb⟩
   replace Hy := hid (Hy.out.on hb)
   replace Hx := hid (Hx.out.on hb)
   replace Hz := hid (Hz.out.on hb)
   replace BW := hid (BW.out.trans (hb.mono BW.out.size))
   clear hb
   go_wp2_with fail
   refine (checkE_c z az cz c1_ Hz.out BDz.out (okF_many2 Oz.out.1 kz)).mono ?_
   rintro e c2_ ⟨rfl, hb⟩
   replace Hy := hid (Hy.out.on hb)
   replace Hx := hid (Hx.out.on hb)
   replace Hz := hid (Hz.out.on hb)
   replace BW := hid (BW.out.trans (hb.mono BW.out.size))
   clear hb
   go_wp2_with fail
   refine (few_c y ay cy c2_ Hy.out Oy.out.1 (by omega) (q := false) (by simp; omega)).mono ?_
   rintro e f0_ ⟨rfl, hb⟩
   replace Hy := hid (Hy.out.on hb)
   replace Hx := hid (Hx.out.on hb)
   replace Hz := hid (Hz.out.on hb)
   replace BW := hid (BW.out.trans (hb.mono BW.out.size))
   clear hb
   go_wp2_with fail
   refine (few_c x ax cx f0_ Hx.out Ox.out.1 (by omega) (q := false) (by simp; omega)).mono ?_
   rintro e f1_ ⟨rfl, hb⟩
   replace Hy := hid (Hy.out.on hb)
   replace Hx := hid (Hx.out.on hb)
   replace Hz := hid (Hz.out.on hb)
   replace BW := hid (BW.out.trans (hb.mono BW.out.size))
   clear hb
   go_wp2_with fail
   refine (few_c z az cz f1_ Hz.out Oz.out.1 (by omega) (q := true) (by simp; omega)).mono ?_
   rintro e f2_ ⟨rfl, hb⟩
   replace Hy := hid (Hy.out.on hb)
   replace Hx := hid (Hx.out.on hb)
   replace Hz := hid (Hz.out.on hb)
   replace BW := hid (BW.out.trans (hb.mono BW.out.size))
   clear hb
   go_wp2_with fail
   refine (awake_any f2_ (HT.out.below BW.out)).mono ?_
   rintro e z_ ⟨rfl, hb⟩
   replace Hy := hid (Hy.out.on hb)
   replace Hx := hid (Hx.out.on hb)
   replace Hz := hid (Hz.out.on hb)
   replace BW := hid (BW.out.trans (hb.mono BW.out.size))
   clear hb
   go_wp2_with fail
   go_ret
   exact ⟨rfl, BW.out⟩
 have cky := okF_few Oy.out.1 ky
 have ckx := okF_few Ox.out.1 kx
 have ckz := okF_few Oz.out.1 kz
 have d1 := (difL_eq cky ckx).1
 have d2 := (difL_eq ckx ckz).1
 have d3 := (difL_eq cky ckz).1
 have q1 := dif_ck cky ckx
 have q2 := dif_ck ckx ckz
 have q3 := dif_ck cky ckz
 have q4 := dif_ck ckx cky
 have n1 := dif_len cky ckx
 have n2 := dif_len ckx ckz
 have n3 := dif_len cky ckz
 have n4 := dif_len ckx cky
 have a1 := aft_dif cky ckx ckz
 have a2 := aft_dif cky ckx cky
 rw [dif_self cky] at a2
 have t1 := dif_turn cky ckx
 have m1 := mk_misfit cky ckx
 obtain ⟨D1, hD1⟩ : ∃ D, difL y x = D := ⟨_, rfl⟩
 obtain ⟨D2, hD2⟩ : ∃ D, difL x z = D := ⟨_, rfl⟩
 obtain ⟨D3, hD3⟩ : ∃ D, difL y z = D := ⟨_, rfl⟩
 obtain ⟨D4, hD4⟩ : ∃ D, difL x y = D := ⟨_, rfl⟩
 rw [hD1] at q1 n1 a1 a2 t1 m1
 rw [hD2] at q2 n2 a1
 rw [hD3] at q3 n3 a1
 rw [hD4] at q4 n4 a2 t1
 obtain ⟨E3, hE3⟩ : ∃ E, (if D1 = [] then (0 : Int) else 7) = E := ⟨_, rfl⟩
 rw [hE3] at m1
 have F1 := hid (And.intro d1 hD1)
 have F2 := hid (And.intro d2 hD2)
 have F3 := hid (And.intro d3 hD3)
 have S1 := hid (ck_sm q1)
 have S2 := hid (ck_sm q2)
 have S3 := hid (ck_sm q3)
 have S4 := hid (ck_sm q4)
 have A1 := hid a1
 have A2 := hid a2
 have T1 := hid (And.intro q1 t1)
 have HE3 := hid hE3
 obtain ⟨Z3, hZ3⟩ : ∃ Z, mkY x D1 = Z := ⟨_, rfl⟩
 have M1 := hid (And.intro m1 hZ3)
 clear cky ckx ckz d1 d2 d3 q1 q2 q3 q4 a1 a2 t1 m1 hD1 hD2 hD3 hD4 hE3 hZ3
 go_wp2_with fail
 refine (checkE_c y ay cy w3 Hy.out BDy.out (okF_few Oy.out.1 ky)).mono ?_
 rintro e c0_ ⟨rfl, hb⟩
 replace Hy := hid (Hy.out.on hb)
 replace Hx := hid (Hx.out.on hb)
 replace Hz := hid (Hz.out.on hb)
 replace BW := hid (BW.out.trans (hb.mono BW.out.size))
 clear hb
 go_wp2_with fail
 refine (checkE_c x ax cx c0_ Hx.out BDx.out (okF_few Ox.out.1 kx)).mono ?_
 rintro e c1_ ⟨rfl, hb⟩
 replace Hy := hid (Hy.out.on hb)
 replace Hx := hid (Hx.out.on hb)
 replace Hz := hid (Hz.out.on hb)
 replace BW := hid (BW.out.trans (hb.mono BW.out.size))
 clear hb
 go_wp2_with fail
 refine (checkE_c z az cz c1_ Hz.out BDz.out (okF_few Oz.out.1 kz)).mono ?_
 rintro e c2_ ⟨rfl, hb⟩
 replace Hy := hid (Hy.out.on hb)
 replace Hx := hid (Hx.out.on hb)
 replace Hz := hid (Hz.out.on hb)
 replace BW := hid (BW.out.trans (hb.mono BW.out.size))
 clear hb
 go_wp2_with fail
 refine (diff_c y x ay ax cy cx c2_ Hy.out Hx.out BDy.out BDx.out (HT.out.below BW.out) F1.out).mono ?_
 rintro e g1_ ⟨ad, cd, rfl, hL, hb⟩
 replace Hy := hid (Hy.out.on hb)
 replace Hx := hid (Hx.out.on hb)
 replace Hz := hid (Hz.out.on hb)
 replace BW := hid (BW.out.trans (hb.mono BW.out.size))
 have HD1 := hid hL
 clear hL
 clear hb
 go_wp2_with fail
 refine (diff_c x z ax az cx cz g1_ Hx.out Hz.out BDx.out BDz.out (HT.out.below BW.out) F2.out).mono ?_
 rintro e g2_ ⟨ae, ce, rfl, hL, hb⟩
 replace Hy := hid (Hy.out.on hb)
 replace Hx := hid (Hx.out.on hb)
 replace Hz := hid (Hz.out.on hb)
 replace HD1 := hid (HD1.out.on hb)
 replace BW := hid (BW.out.trans (hb.mono BW.out.size))
 have HD2 := hid hL
 clear hL
 clear hb
 go_wp2_with fail
 refine (after_c D1 D2 ad ae cd ce g2_ HD1.out HD2.out (by omega) (by omega) S1.out S2.out (HT.out.below BW.out) A1.out).mono ?_
 rintro e g3_ ⟨an, cn, rfl, hL, hb⟩
 replace Hy := hid (Hy.out.on hb)
 replace Hx := hid (Hx.out.on hb)
 replace Hz := hid (Hz.out.on hb)
 replace HD1 := hid (HD1.out.on hb)
 replace HD2 := hid (HD2.out.on hb)
 replace BW := hid (BW.out.trans (hb.mono BW.out.size))
 have HN := hid hL
 clear hL
 clear hb
 clear HD2
 go_wp2_with fail
 refine (diff_c y z ay az cy cz g3_ Hy.out Hz.out BDy.out BDz.out (HT.out.below BW.out) F3.out).mono ?_
 rintro e g4_ ⟨af, cf, rfl, hL, hb⟩
 replace Hy := hid (Hy.out.on hb)
 replace Hx := hid (Hx.out.on hb)
 replace Hz := hid (Hz.out.on hb)
 replace HD1 := hid (HD1.out.on hb)
 replace HN := hid (HN.out.on hb)
 replace BW := hid (BW.out.trans (hb.mono BW.out.size))
 have HD3 := hid hL
 clear hL
 clear hb
 go_wp2_with fail
 refine (unch_c D3 an af cn cf g4_ HN.out HD3.out (by omega) S3.out).mono ?_
 rintro e g5_ ⟨rfl, hb⟩
 replace Hy := hid (Hy.out.on hb)
 replace Hx := hid (Hx.out.on hb)
 replace Hz := hid (Hz.out.on hb)
 replace HD1 := hid (HD1.out.on hb)
 replace HN := hid (HN.out.on hb)
 replace HD3 := hid (HD3.out.on hb)
 replace BW := hid (BW.out.trans (hb.mono BW.out.size))
 clear hb
 clear HN HD3
 go_wp2_with fail
 refine (back_c D1 D4 ad cd g5_ HD1.out (by omega) S1.out T1.out).mono ?_
 rintro e g6_ ⟨ab, cb, rfl, hL, hb⟩
 replace Hy := hid (Hy.out.on hb)
 replace Hx := hid (Hx.out.on hb)
 replace Hz := hid (Hz.out.on hb)
 replace HD1 := hid (HD1.out.on hb)
 replace BW := hid (BW.out.trans (hb.mono BW.out.size))
 have HB := hid hL
 clear hL
 clear hb
 go_wp2_with fail
 refine (after_c D1 D4 ad ab cd cb g6_ HD1.out HB.out (by omega) (by omega) S1.out S4.out (HT.out.below BW.out) A2.out).mono ?_
 rintro e g7_ ⟨ao, co, rfl, hL, hb⟩
 replace Hy := hid (Hy.out.on hb)
 replace Hx := hid (Hx.out.on hb)
 replace Hz := hid (Hz.out.on hb)
 replace HD1 := hid (HD1.out.on hb)
 replace HB := hid (HB.out.on hb)
 replace BW := hid (BW.out.trans (hb.mono BW.out.size))
 have HO := hid hL
 clear hL
 clear hb
 clear HB HO
 go_wp2_with fail
 refine (make_c x D1 ax ad cx cd g7_ Hx.out HD1.out BDx.out (by omega) S1.out M1.out).mono ?_
 rintro e g8_ ⟨am, cm, rfl, hL, hb⟩
 replace Hy := hid (Hy.out.on hb)
 replace Hx := hid (Hx.out.on hb)
 replace Hz := hid (Hz.out.on hb)
 replace HD1 := hid (HD1.out.on hb)
 replace BW := hid (BW.out.trans (hb.mono BW.out.size))
 clear hL
 clear hb
 clear HD1
 by_cases hd0 : D1.length = 0
 · have h0 : E3 = 0 := by rw [← HE3.out, if_pos (List.eq_nil_of_length_eq_zero hd0)]
   have hn := List.eq_nil_of_length_eq_zero hd0
   subst h0
   subst hn
   clear hd0 HE3
   go_wp2_with fail
   refine (awake_any g8_ (HT.out.below BW.out)).mono ?_
   rintro e z_ ⟨rfl, hb⟩
   replace Hy := hid (Hy.out.on hb)
   replace Hx := hid (Hx.out.on hb)
   replace Hz := hid (Hz.out.on hb)
   replace BW := hid (BW.out.trans (hb.mono BW.out.size))
   clear hb
   go_wp2_with fail
   go_ret
   exact ⟨rfl, BW.out⟩
 · have h0 : E3 = 7 := by rw [← HE3.out, if_neg (fun e => hd0 (by rw [e]; rfl))]
   have hlt0 : (0 : Int) < (D1.length : Int) := by omega
   have hne0 : ¬ D1 = [] := fun e => hd0 (by rw [e]; rfl)
   subst h0
   clear hd0 HE3
   go_wp2_with fail
   refine (awake_any g8_ (HT.out.below BW.out)).mono ?_
   rintro e z_ ⟨rfl, hb⟩
   replace Hy := hid (Hy.out.on hb)
   replace Hx := hid (Hx.out.on hb)
   replace Hz := hid (Hz.out.on hb)
   replace BW := hid (BW.out.trans (hb.mono BW.out.size))
   clear hb
   go_wp2_with fail
   go_ret
   exact ⟨by show Ending.returned (Value.bool (!((D1.length : Int) == 0))) = _; simp [hne0], BW.out⟩
end Go.Proofs.LF
