/- Parts of the proof of a law of layer 11 (file): LfW92. The conditions stand in each theorem. -/
import Derived.Test.YtadkpjgpefcphaaGreatDoorProg
import Derived.Test.YtadkpjgpefcphaaGreatDoorCkaw
set_option linter.all false
set_option linter.unusedVariables false
set_option linter.unusedSimpArgs false
namespace Go.Proofs.LF
open Go.RowKit Go.Sort
set_option maxHeartbeats 4000000
set_option maxRecDepth 100000
attribute [local go_sem] bs_toList bs_size bs_get
theorem Tryz.zeroOf68 (w : World) : (zeroValue 68).run Tryz.prog w = .ok (.agg #[.slice none 0 0, .bool false, .bool false, .slice none 0 0, .slice none 0 0]) w := by kernel_rfl
theorem set5_row' {w : World} {g o : Nat} {cur : Array Value} {t : TypeId} {x y z u v : Value} (hg : w.heap[g]? = some (.cells cur t (0, 0))) :
 (((((w.setCell ⟨g, o, none⟩ x).setCell ⟨g, o + 1, none⟩ y).setCell ⟨g, o + 2, none⟩ z).setCell ⟨g, o + 3, none⟩ u).setCell ⟨g, o + 4, none⟩ v).heap[g]? = some (.cells (((((cur.setIfInBounds (o) x).setIfInBounds (o + 1) y).setIfInBounds (o + 2) z).setIfInBounds (o + 3) u).setIfInBounds (o + 4) v) t (0, 0)) := by
 simp [World.setCell, Array.getElem?_modify, hg]
theorem set5_other' {w : World} {g o b : Nat} {x y z u v : Value} (h : b ≠ g) : (((((w.setCell ⟨g, o, none⟩ x).setCell ⟨g, o + 1, none⟩ y).setCell ⟨g, o + 2, none⟩ z).setCell ⟨g, o + 3, none⟩ u).setCell ⟨g, o + 4, none⟩ v).heap[b]? = w.heap[b]? := by
 rw [Below.heap_setCell _ _ _ _ h, Below.heap_setCell _ _ _ _ h, Below.heap_setCell _ _ _ _ h, Below.heap_setCell _ _ _ _ h, Below.heap_setCell _ _ _ _ h]
theorem set5_take {cur : Array Value} {cs : List Value} {i j : Nat} (hi : i * 5 + 5 ≤ cur.size) (hj : j * 5 + 5 ≤ cs.length) :
 (((((cur.setIfInBounds (i * 5) (cs.getD (j * 5) undef)).setIfInBounds (i * 5 + 1) (cs.getD (j * 5 + 1) undef)).setIfInBounds (i * 5 + 2) (cs.getD (j * 5 + 2) undef)).setIfInBounds (i * 5 + 3) (cs.getD (j * 5 + 3) undef)).setIfInBounds (i * 5 + 4) (cs.getD (j * 5 + 4) undef)).toList.take ((i + 1) * 5) = cur.toList.take (i * 5) ++ (cs.drop (j * 5)).take 5 := by
 apply List.ext_getElem?
 intro q
 simp only [Array.toList_setIfInBounds, List.getElem?_take, List.getElem?_set, List.getElem?_append, List.length_take, List.length_set, Array.length_toList, List.getElem?_drop]
 have hm : min (i * 5) cur.size = i * 5 := by omega
 rw [hm]
 by_cases h1 : q < i * 5
 · simp only [h1, if_true]
   rw [if_pos (by omega)]
   repeat' rw [if_neg (by omega)]
 · simp only [h1, if_false]
   by_cases h2 : q < (i + 1) * 5
   · rw [if_pos h2]
     obtain h3 | h3 | h3 | h3 | h3 : q = i * 5 ∨ q = i * 5 + 1 ∨ q = i * 5 + 2 ∨ q = i * 5 + 3 ∨ q = i * 5 + 4 := by omega
     all_goals subst h3
     · rw [if_neg (by omega)]; rw [if_neg (by omega)]; rw [if_neg (by omega)]; rw [if_neg (by omega)]; rw [if_pos rfl, if_pos (by omega)]
       rw [if_pos (by omega), ← getD_of_lt (by omega)]
       congr 1; omega
     · rw [if_neg (by omega)]; rw [if_neg (by omega)]; rw [if_neg (by omega)]; rw [if_pos rfl, if_pos (by omega)]
       rw [if_pos (by omega), ← getD_of_lt (by omega)]
       congr 1; omega
     · rw [if_neg (by omega)]; rw [if_neg (by omega)]; rw [if_pos rfl, if_pos (by omega)]
       rw [if_pos (by omega), ← getD_of_lt (by omega)]
       congr 1; omega
     · rw [if_neg (by omega)]; rw [if_pos rfl, if_pos (by omega)]
       rw [if_pos (by omega), ← getD_of_lt (by omega)]
       congr 1; omega
     · rw [if_pos rfl, if_pos (by omega)]
       rw [if_pos (by omega), ← getD_of_lt (by omega)]
       congr 1; omega
   · rw [if_neg h2, if_neg (by omega)]
theorem clear5_row {P : Program} {w : World} {z : Value} {cur : Array Value} {g i n c e : Nat} {T : TypeId} (t ty : TypeId) (ht : P.underlying t = some (.slice e)) (hv : ∀ w, (zeroValue e).run P w = .ok z w) (hg : w.heap[g]? = some (.cells cur T (0, 0))) (hin : i < n) (hnc : n ≤ c) (hs : cur.size = c * 5) (hz : z.cells.size = 5 := by rfl) (hz1 : ∀ v ∈ z.cells.toList, v.oneCell' = true := by simp [Value.cells, Value.oneCell']) :
 ∃ w' cur', (Builtin.clear_ #[t] ty #[.slice (some ⟨g, i * 5, none⟩) (n - i) (c - i)]).run P w = .ok (.tuple #[]) w' ∧ w.grownBy w' (some g) ∧ w'.heap[g]? = some (.cells cur' T (0, 0)) ∧ cur'.size = cur.size ∧ cur'.toList.take (i * 5) = cur.toList.take (i * 5) := by
 refine clear_row ht hv hg hin hnc hs hz hz1 (by omega)
theorem del_chg (g : Nat) (hE : Enters g) (p : Nat → Bool) (caps : List Value) (n B gg c : Nat) (cs : List Value) (w : World) (hown : w.ownsRow B 68 5 (.slice (some ⟨gg, 0, none⟩) n c) n cs) (hsh : ∀ j, j < n → ∃ x0 y0 z0 x1 x2 x3 y3 z3 x4 y4 z4, cs.getD (j * 5) undef = (.slice x0 y0 z0) ∧ cs.getD (j * 5 + 1) undef = (.bool x1) ∧ cs.getD (j * 5 + 2) undef = (.bool x2) ∧ cs.getD (j * 5 + 3) undef = (.slice x3 y3 z3) ∧ cs.getD (j * 5 + 4) undef = (.slice x4 y4 z4)) (hlen : n ≤ 100000)
 (hp : ∀ i, i < n → ∀ W, w.grownBy W (some gg) → Calls Tryz.prog g ([elemV 5 cs i] ++ caps).toArray W fun e w' => e = .returned (.bool (p i)) ∧ Below W.heap.size W w') :
 Calls Tryz.prog 168 #[.slice (some ⟨gg, 0, none⟩) n c, .func (.func g) #[] caps.toArray] w fun e w' => e = .returned (.slice (some ⟨gg, 0, none⟩) (kpN p n) c) ∧ w'.ownsRow B 68 5 (.slice (some ⟨gg, 0, none⟩) (kpN p n) c) (kpN p n) (kpC 5 p cs n) ∧ w.grownBy w' (some gg) := by
 have hE' : ∀ (args : Array Value) (W : World), Sem.run Tryz.prog (callFunc g args) W = .ok (.enter g args) W := hE
 have hsl := SlC.of_owns hown
 obtain ⟨h1, ⟨h0, _⟩ | ⟨g', cap, cur0, he, hbg, hg0, hnc, hcap, hcs0, htk0⟩⟩ := id hown
 · cases h0
 cases he
 unfold maxLen at hcap
 have hgl : gg < w.heap.size := (Array.getElem?_eq_some_iff.1 hg0).1
 have IDX := hid (idx_chg g hE p caps n (some ⟨gg, 0, none⟩) c cs _ w hsl (fun b hb => hb.2) hlen (fun i hi W hW => hp i hi W ⟨hW.os, hW.tape, hW.output, hW.size, fun b hb _ => hW.block b hb⟩))
 have HP := hid hp
 have HG0 := hid hg0
 have HCS0 := hid hcs0
 have HTK0 := hid htk0
 have HOWN := hid hown
 have HCS := hid h1
 have HSH := hid hsh
 clear hp hown hsl hE hg0 hcs0 htk0 h1 hsh
 go_enter Tryz.func168, Tryz.ntmps168
 go_wp2_with fail
 refine IDX.out.mono ?_
 rintro e w1 ⟨rfl, hb1⟩
 have hz1 := hb1.size
 have HB1 := hid hb1
 obtain ⟨r, hr⟩ : ∃ r, idxN p n = r := ⟨_, rfl⟩
 rw [hr]
 have HR := hid hr
 clear hr IDX hb1
 rcases Int.lt_or_le r 0 with hneg | hpos
 · have hno := idxN_neg HR.out hneg
   obtain rfl := hno.1
   have HNO := hid hno.2
   clear hno hneg HR
   go_wp2_with fail
   go_ret
   have hgr : w.grownBy w1 (some gg) := ⟨HB1.out.os, HB1.out.tape, HB1.out.output, HB1.out.size, fun b hb _ => HB1.out.block b hb⟩
   rw [kpN_all HNO.out n (nl_ _), kpC_all HNO.out HCS.out n (nl_ _), List.take_of_length_le (Nat.le_of_eq HCS.out)]
   exact ⟨rfl, ob_ HOWN.out HB1.out (nl_ _), hgr⟩
 · obtain ⟨f, hrf, hfn, hfp, hfno⟩ := idxN_pos HR.out hpos
   have HRF := hid hrf
   have HFP := hid hfp
   have HFNO := hid hfno
   have hff : ¬ r = -1 := by omega
   have hr1 : r < 100000 := by omega
   have HFN := hid hfn
   clear HR hfp hfno hrf hfn
   go_wp2_with fail
   clear hff hpos hr1
   obtain ⟨bb, hbb⟩ : ∃ bb, (r == -1) = bb := ⟨_, rfl⟩
   rw [hbb]
   clear hbb
   go_loopw [5, 6] (fun vi vj wr => ∃ (i j : Nat) (cur : Array Value), vi = .int .i64 i ∧ vj = .int .i64 j ∧ i < j ∧ j ≤ n ∧ Hid (kpN p j = i) ∧ Hid (w.grownBy wr (some gg)) ∧ Hid (wr.heap[gg]? = some (.cells cur 68 (0, 0))) ∧ Hid (cur.size = c * 5) ∧ Hid (cur.toList.take (i * 5) = kpC 5 p cs j) ∧ Hid (∀ q, j * 5 ≤ q → q < n * 5 → cur[q]? = cs[q]?)) (fun _ vj _ => n - (intOf vj).toNat)
   case atStart =>
    have hfn := HFN.out
    refine ⟨f, f + 1, cur0, by rw [HRF.out], by rw [HRF.out]; go_num, by omega, by omega, ?_, ?_, ?_, HCS0.out, ?_, ?_⟩
    · show kpN p (f + 1) = f
      rw [kpN, HFP.out, if_pos rfl, kpN_all HFNO.out f (nl_ _)]
    · exact ⟨HB1.out.os, HB1.out.tape, HB1.out.output, HB1.out.size, fun b hb _ => HB1.out.block b hb⟩
    · exact (HB1.out.block gg hgl).trans HG0.out
    · show cur0.toList.take (f * 5) = kpC 5 p cs (f + 1)
      rw [kpC, HFP.out, if_pos rfl, kpC_all HFNO.out HCS.out f (by omega), ← HTK0.out, List.take_take, Nat.min_eq_left (Nat.mul_le_mul_right 5 (Nat.le_of_lt hfn))]
    · intro q _ hq
      have h2 := HTK0.out
      rw [← h2, List.getElem?_take, if_pos hq, Array.getElem?_toList]
   case round =>
    rename_i _ _ wr
    obtain ⟨i, j, cur, rfl, rfl, hij, hjn, HK, HGR, HG, HSZ, HT, HQ⟩ := hrel
    have hzr := HGR.out.size
    by_cases hlt : j < n
    · have hlt' : (j : Int) < (n : Int) := by omega
      obtain ⟨x0, y0, z0, x1, x2, x3, y3, z3, x4, y4, z4, s0, s1, s2, s3, s4⟩ := HSH.out j hlt
      have hel : elemV 5 cs j = .agg #[.slice x0 y0 z0, .bool x1, .bool x2, .slice x3 y3 z3, .slice x4 y4 z4] := by simp [elemV, List.range_succ, s0, s1, s2, s3, s4, -List.getD_eq_getElem?_getD]
      have q0 : j * 5 + 0 < n * 5 := by omega
      have c0 : wr.cell? ⟨gg, j * 5, none⟩ = some (.slice x0 y0 z0) := cg_ HG.out (k := j * 5) ((HQ.out (j * 5) (by omega) (by omega)).trans ((getD_of_lt (by rw [HCS.out]; omega)).trans (by rw [s0])))
      have q1 : j * 5 + 1 < n * 5 := by omega
      have c1 : wr.cell? ⟨gg, j * 5 + 1, none⟩ = some (.bool x1) := cg_ HG.out (k := j * 5 + 1) ((HQ.out (j * 5 + 1) (by omega) (by omega)).trans ((getD_of_lt (by rw [HCS.out]; omega)).trans (by rw [s1])))
      have q2 : j * 5 + 2 < n * 5 := by omega
      have c2 : wr.cell? ⟨gg, j * 5 + 2, none⟩ = some (.bool x2) := cg_ HG.out (k := j * 5 + 2) ((HQ.out (j * 5 + 2) (by omega) (by omega)).trans ((getD_of_lt (by rw [HCS.out]; omega)).trans (by rw [s2])))
      have q3 : j * 5 + 3 < n * 5 := by omega
      have c3 : wr.cell? ⟨gg, j * 5 + 3, none⟩ = some (.slice x3 y3 z3) := cg_ HG.out (k := j * 5 + 3) ((HQ.out (j * 5 + 3) (by omega) (by omega)).trans ((getD_of_lt (by rw [HCS.out]; omega)).trans (by rw [s3])))
      have q4 : j * 5 + 4 < n * 5 := by omega
      have c4 : wr.cell? ⟨gg, j * 5 + 4, none⟩ = some (.slice x4 y4 z4) := cg_ HG.out (k := j * 5 + 4) ((HQ.out (j * 5 + 4) (by omega) (by omega)).trans ((getD_of_lt (by rw [HCS.out]; omega)).trans (by rw [s4])))
      have NB := hid (heap_alloc_new wr (.cells #[.slice x0 y0 z0, .bool x1, .bool x2, .slice x3 y3 z3, .slice x4 y4 z4] 68))
      have BA := hid ((Below.refl wr.heap.size wr).alloc (nl_ _) (.cells #[.slice x0 y0 z0, .bool x1, .bool x2, .slice x3 y3 z3, .slice x4 y4 z4] 68))
      have m0 := cg_ NB.out (k := 0) (v := (.slice x0 y0 z0)) rfl
      have m1 := cg_ NB.out (k := 1) (v := (.bool x1)) rfl
      have m2 := cg_ NB.out (k := 2) (v := (.bool x2)) rfl
      have m3 := cg_ NB.out (k := 3) (v := (.slice x3 y3 z3)) rfl
      have m4 := cg_ NB.out (k := 4) (v := (.slice x4 y4 z4)) rfl
      obtain ⟨wa, hwa⟩ : ∃ wa, wr.alloc (.cells #[.slice x0 y0 z0, .bool x1, .bool x2, .slice x3 y3 z3, .slice x4 y4 z4] 68) = wa := ⟨_, rfl⟩
      have hza : wr.heap.size < wa.heap.size := by rw [← hwa]; simp
      rw [hwa] at NB BA m0 m1 m2 m3 m4
      have HWA := hid hwa
      have CALL := hid (HP.out j hlt wa ⟨BA.out.os.trans HGR.out.os, BA.out.tape.trans HGR.out.tape, BA.out.output.trans HGR.out.output, by omega, fun b hb hne => (BA.out.block b (by omega)).trans (HGR.out.block b hb hne)⟩)
      rw [hel] at CALL
      have HSS := hid (And.intro s0 (And.intro s1 (And.intro s2 (And.intro s3 s4))))
      clear hwa hel s0 s1 s2 s3 s4
      go_wp2_with fail
      rw [HWA.out]
      go_wp2_with fail
      refine CALL.out.mono ?_
      rintro e w2 ⟨rfl, hb2⟩
      have hz2 := hb2.size
      have hbx : Below wr.heap.size wr w2 := BA.out.trans (hb2.mono (by omega))
      have hgr2 : w.grownBy w2 (some gg) := ⟨hbx.os.trans HGR.out.os, hbx.tape.trans HGR.out.tape, hbx.output.trans HGR.out.output, by omega, fun b hb hne => (hbx.block b (by omega)).trans (HGR.out.block b hb hne)⟩
      have hg2 : w2.heap[gg]? = some (.cells cur 68 (0, 0)) := (hbx.block gg (by omega)).trans HG.out
      replace m0 := bc_ hb2 hza m0
      replace m1 := bc_ hb2 hza m1
      replace m2 := bc_ hb2 hza m2
      replace m3 := bc_ hb2 hza m3
      replace m4 := bc_ hb2 hza m4
      have HGR2 := hid hgr2
      have HG2 := hid hg2
      clear HWA CALL hb2 hbx hgr2 hg2 BA NB c0 c1 c2 c3 c4
      cases hpj : p j with
      | true =>
        have HPJ := hid hpj
        clear hpj
        go_wp2_with fail
        go_roundw
        case rel =>
         refine ⟨i, j + 1, cur, rfl, by go_num, by omega, by omega, ?_, HGR2, HG2, HSZ, ?_, fun q h1 h2 => HQ.out q (by omega) h2⟩
         · show kpN p (j + 1) = i
           rw [kpN, HPJ.out, if_pos rfl, HK.out]
         · show cur.toList.take (i * 5) = kpC 5 p cs (j + 1)
           rw [kpC, HPJ.out, if_pos rfl, HT.out]
        case measure => simp [intOf]; omega
      | false =>
        have HPJ := hid hpj
        clear hpj
        have hin : (i : Int) < (n : Int) := by omega
        have hi0 : (0 : Int) ≤ (i : Int) := by omega
        have hsz := HSZ.out
        have f0 := cells_frz HG2.out (k := i * 5)
        have e0 := cg_ HG2.out (k := i * 5) (Array.getElem?_eq_getElem (show i * 5 < cur.size by omega))
        have f1 := cells_frz HG2.out (k := i * 5 + 1)
        have e1 := cg_ HG2.out (k := i * 5 + 1) (Array.getElem?_eq_getElem (show i * 5 + 1 < cur.size by omega))
        have f2 := cells_frz HG2.out (k := i * 5 + 2)
        have e2 := cg_ HG2.out (k := i * 5 + 2) (Array.getElem?_eq_getElem (show i * 5 + 2 < cur.size by omega))
        have f3 := cells_frz HG2.out (k := i * 5 + 3)
        have e3 := cg_ HG2.out (k := i * 5 + 3) (Array.getElem?_eq_getElem (show i * 5 + 3 < cur.size by omega))
        have f4 := cells_frz HG2.out (k := i * 5 + 4)
        have e4 := cg_ HG2.out (k := i * 5 + 4) (Array.getElem?_eq_getElem (show i * 5 + 4 < cur.size by omega))
        go_wp2_with fail
        go_roundw
        case rel =>
         refine ⟨i + 1, j + 1, (((((cur.setIfInBounds (i * 5) (.slice x0 y0 z0)).setIfInBounds (i * 5 + 1) (.bool x1)).setIfInBounds (i * 5 + 2) (.bool x2)).setIfInBounds (i * 5 + 3) (.slice x3 y3 z3)).setIfInBounds (i * 5 + 4) (.slice x4 y4 z4)), by go_num, by go_num, by omega, by omega, ?_, ?_, ?_, ?_, ?_, ?_⟩
         · show kpN p (j + 1) = i + 1
           rw [kpN, HPJ.out, if_neg (by simp), HK.out]
         · exact ⟨HGR2.out.os, HGR2.out.tape, HGR2.out.output, by simpa [World.setCell] using HGR2.out.size, fun b hb hne => (set5_other' (fun e => hne (by rw [e]))).trans (HGR2.out.block b hb hne)⟩
         · exact set5_row' HG2.out
         · show _ = _
           simpa using HSZ.out
         · show List.take _ _ = _
           rw [kpC, HPJ.out, if_neg (by simp), ← HT.out]
           have hss := HSS.out
           rw [← hss.1, ← hss.2.1, ← hss.2.2.1, ← hss.2.2.2.1, ← hss.2.2.2.2]
           exact set5_take (by have := HSZ.out; omega) (by rw [HCS.out]; omega)
         · intro q h1 h2
           rw [← HQ.out q (by omega) h2]
           simp only [Array.getElem?_setIfInBounds]
           repeat' rw [if_neg (by omega)]
        case measure => simp [intOf]; omega
    · obtain rfl : j = n := by omega
      have hlt' : ¬ (j : Int) < (j : Int) := by omega
      have hin : (i : Int) ≤ (j : Int) := by omega
      have hin' : (i : Int) ≤ (c : Int) := by omega
      obtain ⟨w3, cur3, hclr, hgr3, hg3, hs3, ht3⟩ := clear5_row 62 0 (z := .agg #[.slice none 0 0, .bool false, .bool false, .slice none 0 0, .slice none 0 0]) Tryz.underlying62 Tryz.zeroOf68 HG.out (i := i) (n := j) (c := c) hij (by omega) HSZ.out
      have HGR3 := hid hgr3
      have HG3 := hid hg3
      have HT3 := hid ht3
      have hs3' := hid hs3
      clear hgr3 hg3 ht3 hs3
      go_wp2_with fail
      go_ret
      rw [HK.out]
      refine ⟨rfl, ⟨by rw [← HT.out, List.length_take, Array.length_toList, HSZ.out]; omega, .inr ⟨gg, c, cur3, rfl, hbg, HG3.out, by omega, by unfold maxLen; omega, hs3'.out.trans HSZ.out, HT3.out.trans HT.out⟩⟩, ?_⟩
      exact ⟨HGR3.out.os.trans HGR.out.os, HGR3.out.tape.trans HGR.out.tape, HGR3.out.output.trans HGR.out.output, by have := HGR3.out.size; omega, fun b hb hne => (HGR3.out.block b (by omega) hne).trans (HGR.out.block b hb hne)⟩
end Go.Proofs.LF
