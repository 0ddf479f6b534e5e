/- Parts of the proof of a law of layer 11 (file): LfVal, LfW83, LfW49, LfW50, LfW51, LfRdIn, LfW70, LfW74. The conditions stand in each theorem. -/
import Derived.Below
import Derived.BigQuiet
import Derived.ChangeSame
import Derived.Deep.AppendLies
import Derived.Deep.Cut
import Derived.Deep.CutBlock
import Derived.Deep.CutRange
import Derived.Deep.DeepHandedRow
import Derived.Deep.DeepWitnessRowRef
import Derived.Deep.QuietTactic
import Derived.Deep.RegionHeld3
import Derived.Deep.Slices
import Derived.Laws.ResultCell
import Derived.Lib.LaidIn
import Derived.Lib.LaidTab
import Derived.OpenShut
import Derived.Outline
import Derived.ProofKit
import Derived.Stop.LaidErr
import Derived.Test.YtadkpjgpefcphaaGreatDoorCards
import Derived.Test.YtadkpjgpefcphaaGreatDoorProg
import Derived.Test.YtadkpjgpefcphaaGreatDoorTie
import Derived.WalkKit
import Derived.WalkLawsBesides
import Derived.WalkSpells
import Derived.Test.YtadkpjgpefcphaaGreatDoorToal
import Derived.Test.YtadkpjgpefcphaaGreatDoorToan
import Derived.Test.YtadkpjgpefcphaaGreatDoorToaq
import Derived.Test.YtadkpjgpefcphaaGreatDoorToax
import Derived.Test.YtadkpjgpefcphaaGreatDoorTobe
import Derived.Test.YtadkpjgpefcphaaGreatDoorTobj
import Derived.Test.YtadkpjgpefcphaaGreatDoorTobo
set_option linter.all false
set_option linter.unusedVariables false
set_option linter.unusedSimpArgs false
namespace Go.Proofs.LF
def txt1 : List UInt8 := [98, 101, 100, 32, 51, 10, 32, 114, 97, 107, 101, 100, 32, 53, 32, 55, 10, 115, 111, 108, 100, 10]
def txt2 : List UInt8 := [98, 101, 100, 32, 51, 10, 32, 32, 114, 97, 107, 101, 100, 32, 53, 10]
def bed3 : Ky := ⟨bedN, true, 3⟩
def raked5 : Ky := ⟨rakedN, true, 5⟩
def raked6 : Ky := ⟨rakedN, true, 6⟩
def oneB (n : Int) : Fo := .cons bedN [3] (.cons rakedN [5, n] .nil .nil) .nil
def oneS : Fo := .cons soldN [] .nil .nil
def oneM : Fo := .cons bedN [3] (.cons rakedN [5, 7] .nil (.cons rakedN [6] .nil .nil)) (.cons soldN [] .nil .nil)
def difV : List Ch := [⟨[bed3, raked5], true, true, [5, 7], [5, 8]⟩, ⟨[⟨soldN, false, 0⟩], true, false, [], []⟩]
theorem val_chk : chkY (oneY 7) = 0 := by decide +kernel
theorem val_txt : txtL (nodesL [] (oneY 7)) = txt1 := by decide +kernel
theorem val_prs1 : (prs txt1).2 = (0, 0, 0) ∧ prsY txt1 = oneY 7 := by decide +kernel
theorem val_prs2 : (prs txt2).2 = (1, 1, 11) ∧ prsY txt2 = .nil := by decide +kernel
theorem val_dif : difE (oneY 7) (oneB 8) = 0 ∧ difL (oneY 7) (oneB 8) = difV := by decide +kernel
theorem val_get : getE (oneY 7) [bed3, raked5] = 0 ∧ getN (oneY 7) [bed3, raked5] = (rakedN, [5, 7], .nil) := by decide +kernel
theorem val_put : putE (oneY 7) [bed3] rakedN [6] .nil = 0 ∧ putY (oneY 7) [bed3] rakedN [6] .nil = oneM := by decide +kernel
theorem val_join : joE (oneY 7) oneS oneM = 0 ∧ joY (oneY 7) oneS oneM = oneS ∧ joP (oneY 7) oneS oneM = [[bed3, raked6]] := by decide +kernel
end Go.Proofs.LF
namespace Go.Proofs.LF
open Go.RowKit Go.Sort
set_option maxHeartbeats 4000000
set_option maxRecDepth 100000
attribute [local go_sem] bs_toList bs_size bs_get
theorem enters42 : ∀ (args : Array Value) (W : World), (callFunc 42 args).run Tryz.prog W = .ok (.enter 42 args) W := by
  intro args W
  simp [go_sem]
theorem eqPathsK_any (y z : List (List Ky)) (ay az : Option Addr) (cy cz : Nat) (S : Nat → Prop) (w : World) (hy : PaSl S w (.slice ay y.length cy) y) (hz : PaSl S w (.slice az z.length cz) z) (hS : ∀ b, S b → b < w.heap.size) (ly : y.length ≤ 1000) (lz : z.length ≤ 1000) (sy : ∀ p ∈ y, p.length ≤ 1000) (sz : ∀ p ∈ z, p.length ≤ 1000) :
    Calls Tryz.prog 138 #[.slice ay y.length cy, .slice az z.length cz, .func (.func 42) #[] #[]] w fun e w' => e = .returned (.bool (decide (y = z))) ∧ Below w.heap.size w w' := by
  obtain ⟨_, _, he, hc, hm1, hat⟩ := hy.at
  cases he
  obtain ⟨_, _, he, hc', hm2, hat'⟩ := hz.at
  cases he
  unfold maxLen at hm1 hm2
  have hE := enters42
  have HAT := hid hat
  have HAT' := hid hat'
  have HS := hid hS
  have SY := hid sy
  have SZ := hid sz
  clear hat hat' hS sy sz hy hz
  by_cases hne : y.length = z.length
  · have hne' : ((y.length : Int) != (z.length : Int)) = false := by simp; omega
    have HN := hid hne
    clear hne
    go_enter Tryz.func138, Tryz.ntmps138
    go_wp2_with fail
    go_loopw [17] (fun i wr => ∃ k : Nat, k ≤ y.length ∧ i = .int .i64 k ∧ Hid (y.take k = z.take k) ∧ Below w.heap.size w wr) (fun i _ => y.length - (intOf i).toNat)
    case atStart => exact ⟨0, by omega, rfl, by simp [Hid], Below.refl _ _⟩
    case round =>
      obtain ⟨k, hk, rfl, H2, hB⟩ := hrel
      have hsz := hB.size
      by_cases hlt : k < y.length
      · have hlt2 : k < z.length := by have := HN.out; omega
        obtain ⟨g, o, cs1, rfl, hg, ⟨ap, cp, rfl, hP⟩, hcell⟩ := HAT.out k hlt
        obtain ⟨g', o', cs2, rfl, hg', ⟨aq, cq, rfl, hQ⟩, hcell'⟩ := HAT'.out k hlt2
        have hlt' : (k : Int) < (z.length : Int) := by omega
        have ha : Agree S w wr := Agree.of_below hB HS.out
        have c0 := ha.cell hg (hcell 0 _ rfl)
        have d0 := ha.cell hg' (hcell' 0 _ rfl)
        rw [Nat.mul_one, Nat.add_zero] at c0 d0
        have l1 := SY.out _ (List.getElem_mem hlt)
        have l2 := SZ.out _ (List.getElem_mem hlt2)
        have ty : y.take (k + 1) = y.take k ++ [y[k]] := List.take_succ_eq_append_getElem hlt
        have tz : z.take (k + 1) = z.take k ++ [z[k]] := List.take_succ_eq_append_getElem hlt2
        obtain ⟨p, hp⟩ : ∃ p, y[k] = p := ⟨_, rfl⟩
        obtain ⟨q, hq⟩ : ∃ q, z[k] = q := ⟨_, rfl⟩
        rw [hp] at c0 hP l1 ty
        rw [hq] at d0 hQ l2 tz
        have SP := hid (eqKeys_any p q ap aq cp cq S wr (hP.agree ha) (hQ.agree ha) (by omega) (by omega))
        have TY := hid ty
        have TZ := hid tz
        have HPp := hid hp
        have HQq := hid hq
        clear hcell hcell' hP hQ ty tz hp hq
        by_cases he : p = q
        · rw [decide_eq_true he] at SP
          have HE := hid he
          clear he
          go_wp2_with fail
          refine SP.out.mono ?_
          rintro e w1 ⟨rfl, hb1⟩
          go_wp2_with fail
          go_roundw
          case rel => exact ⟨k + 1, by omega, by go_num, by rw [Hid, TY.out, TZ.out, H2.out, HE.out], hB.trans (hb1.mono hsz)⟩
          case measure => simp [intOf]; omega
        · rw [decide_eq_false he] at SP
          have HE := hid he
          clear he
          go_wp2_with fail
          refine SP.out.mono ?_
          rintro e w1 ⟨rfl, hb1⟩
          go_wp2_with fail
          go_ret
          refine ⟨ret_bool ?_, hB.trans (hb1.mono hsz)⟩
          symm
          rw [decide_eq_false_iff_not]
          rintro rfl
          exact HE.out (HPp.out.symm.trans HQq.out)
      · go_wp2_with fail
        go_ret
        obtain rfl : k = y.length := by omega
        refine ⟨ret_bool ?_, hB⟩
        symm
        have := H2.out
        rw [List.take_length, HN.out, List.take_length] at this
        exact decide_eq_true this
  · have hne' : ((y.length : Int) != (z.length : Int)) = true := by simp; omega
    have HN := hid hne
    clear hne
    go_enter Tryz.func138, Tryz.ntmps138
    go_wp2_with fail
    go_ret
    refine ⟨ret_bool ?_, Below.refl _ _⟩
    symm
    rw [decide_eq_false_iff_not]
    rintro rfl
    exact HN.out rfl
theorem equalPaths_any (y z : List (List Ky)) (ay az : Option Addr) (cy cz : Nat) (S : Nat → Prop) (w : World) (hy : PaSl S w (.slice ay y.length cy) y) (hz : PaSl S w (.slice az z.length cz) z) (hS : ∀ b, S b → b < w.heap.size) (ly : y.length ≤ 1000) (lz : z.length ≤ 1000) (sy : ∀ p ∈ y, p.length ≤ 1000) (sz : ∀ p ∈ z, p.length ≤ 1000) :
    Calls Tryz.prog 52 #[.slice ay y.length cy, .slice az z.length cz] w fun e w' => e = .returned (.bool (decide (y = z))) ∧ Below w.heap.size w w' := by
  have hq := eqPathsK_any y z ay az cy cz S w hy hz hS ly lz sy sz
  have HQ := hid hq
  clear hq hy hz hS ly lz sy sz
  go_enter Tryz.func52, Tryz.ntmps52
  go_wp2_with fail
  refine HQ.out.mono ?_
  rintro e w1 ⟨rfl, hb1⟩
  go_wp2_with fail
  go_ret
  exact ⟨rfl, hb1⟩
end Go.Proofs.LF
namespace Go.Proofs.LF
open Go.RowKit Go.Sort
set_option maxHeartbeats 4000000
set_option maxRecDepth 100000
attribute [local go_sem] bs_toList bs_size bs_get
theorem FCs.take {S : Nat → Prop} {w : World} : ∀ {i : Nat} {y : Fo} {cs : List Value}, FCs S w y cs → FCs S w (y.take i) (cs.take (i * 3))
  | 0, _, _, _ => by simp [Fo.take, FCs]
  | i + 1, .nil, _, h => by rw [show _ = [] from h]; simp [Fo.take, FCs]
  | i + 1, .cons _ _ _ _, _, ⟨vn, vs, cs', h, h2, h3, h5⟩ => by
    rw [h, show (i + 1) * 3 = i * 3 + 1 + 1 + 1 from by omega]
    exact ⟨vn, vs, cs'.take (i * 3), rfl, h2, h3, h5.take⟩
theorem SlC.pre {S : Nat → Prop} {w : World} {k n m c : Nat} {a : Option Addr} {cs : List Value} (h : SlC S w k (.slice a n c) n cs) (hm : m ≤ n) : SlC S w k (.slice a m c) m (cs.take (m * k)) := by
  obtain ⟨h1, a', c', he, h2, h3, h4, h5⟩ := h
  cases he
  refine ⟨by rw [List.length_take, h1]; exact Nat.min_eq_left (Nat.mul_le_mul_right k hm), a, c, rfl, by omega, h3, h4, ?_⟩
  rcases h5 with h5 | ⟨g, o, h6, h7, h8⟩
  · exact .inl (by omega)
  · refine .inr ⟨g, o, h6, h7, fun j u hj => h8 j u ?_⟩
    rw [List.getElem?_take] at hj
    split at hj
    · exact hj
    · cases hj
theorem SlC.suf {S : Nat → Prop} {w : World} {k n m c g o : Nat} {cs : List Value} (h : SlC S w k (.slice (some ⟨g, o, none⟩) n c) n cs) (hm : m < n) : SlC S w k (.slice (some ⟨g, o + m * k, none⟩) (n - m) (c - m)) (n - m) (cs.drop (m * k)) := by
  obtain ⟨h1, a', c', he, h2, h3, h4, h5⟩ := h
  cases he
  refine ⟨by rw [List.length_drop, h1, Nat.sub_mul], _, _, rfl, by omega, by omega, (fun h => by cases h), ?_⟩
  rcases h5 with h5 | ⟨g', o', h6, h7, h8⟩
  · omega
  · cases h6
    refine .inr ⟨g, o + m * k, rfl, h7, fun j u hj => ?_⟩
    rw [List.getElem?_drop] at hj
    rw [Nat.add_assoc]
    exact h8 _ u hj
theorem FSl.pre {S : Nat → Prop} {w : World} {a : Option Addr} {m c : Nat} {y : Fo} (h : FSl S w (.slice a y.len c) y) (hm : m ≤ y.len) : FSl S w (.slice a m c) (y.take m) := by
  obtain ⟨ds, h1, h2⟩ := h
  exact ⟨_, by rw [Fo.len_take hm]; exact h1.pre hm, h2.take⟩
theorem FSl.suf {S : Nat → Prop} {w : World} {g o m c : Nat} {y : Fo} (h : FSl S w (.slice (some ⟨g, o, none⟩) y.len c) y) (hm : m < y.len) : FSl S w (.slice (some ⟨g, o + m * 3, none⟩) (y.len - m) (c - m)) (y.drop m) := by
  obtain ⟨ds, h1, h2⟩ := h
  exact ⟨_, by rw [Fo.len_drop]; exact h1.suf hm, h2.drop⟩
theorem one_facts (n : Int) : (oneY n).len = 2 ∧ (oneY n).Sm ∧ (oneY n).cnt = 3 := ⟨rfl, by simp [oneY, Fo.Sm, bedN, rakedN, soldN, Fo.len], rfl⟩
theorem print7 (a : Option Addr) (c : Nat) (S : Nat → Prop) (w : World) (hv : FSl S w (.slice a 2 c) (oneY 7)) (hS : ∀ b, S b → b < w.heap.size) (ht : Pow w) :
    Calls Tryz.prog 22 #[.slice a 2 c] w fun e w' => e = .returned (.tuple #[.string ⟨#[98, 101, 100, 32, 51, 10, 32, 114, 97, 107, 101, 100, 32, 53, 32, 55, 10, 115, 111, 108, 100, 10]⟩, .int .i64 0]) ∧ Below w.heap.size w w' := by
  have h := Print_any (oneY 7) a c S w hv hS (by decide) (one_facts 7).2.1 (by decide) ht
  rw [val_chk, if_pos rfl, val_txt] at h
  exact h
theorem parse1 (w : World) : Calls Tryz.prog 26 #[.string ⟨#[98, 101, 100, 32, 51, 10, 32, 114, 97, 107, 101, 100, 32, 53, 32, 55, 10, 115, 111, 108, 100, 10]⟩] w fun e w' => ∃ a c, e = .returned (.tuple #[.slice a 2 c, .int .i64 0, .int .i64 0, .int .i64 0]) ∧ FSl (Rg w.heap.size w'.heap.size) w' (.slice a 2 c) (oneY 7) ∧ Below w.heap.size w w' := by
  have h := Parse_any txt1 w (by decide)
  rw [val_prs1.1, val_prs1.2] at h
  exact h
theorem parse2 (w : World) : Calls Tryz.prog 26 #[.string ⟨#[98, 101, 100, 32, 51, 10, 32, 32, 114, 97, 107, 101, 100, 32, 53, 10]⟩] w fun e w' => ∃ a c, e = .returned (.tuple #[.slice a 0 c, .int .i64 1, .int .i64 1, .int .i64 11]) ∧ Below w.heap.size w w' := by
  have h := Parse_any txt2 w (by decide)
  rw [val_prs2.1, val_prs2.2] at h
  exact h.mono fun e w' ⟨a, c, h1, _, h3⟩ => ⟨a, c, h1, h3⟩
theorem alike7 (a1 a2 : Option Addr) (c1 c2 : Nat) (S : Nat → Prop) (w : World) (h1 : FSl S w (.slice a1 2 c1) (oneY 7)) (h2 : FSl S w (.slice a2 2 c2) (oneY 7)) (hS : ∀ b, S b → b < w.heap.size) :
    Calls Tryz.prog 25 #[.slice a1 2 c1, .slice a2 2 c2] w fun e w' => e = .returned (.bool true) ∧ Below w.heap.size w w' := by
  have h := (alike_any 4).2 (oneY 7) (oneY 7) a1 c1 a2 c2 S w (by decide) h1 h2 hS (by decide) (by decide) (one_facts 7).2.1 (one_facts 7).2.1
  rw [decide_eq_true rfl] at h
  exact h
theorem diff78 (a1 a2 : Option Addr) (c1 c2 : Nat) (S : Nat → Prop) (w : World) (h1 : FSl S w (.slice a1 2 c1) (oneY 7)) (h2 : FSl S w (.slice a2 1 c2) (oneB 8)) (hS : ∀ b, S b → b < w.heap.size) (ht : Pow w) :
    Calls Tryz.prog 41 #[.slice a1 2 c1, .slice a2 1 c2] w fun e w' => ∃ a c, e = .returned (.tuple #[.slice a 2 c, .int .i64 0]) ∧ ChSl (Rg w.heap.size w'.heap.size) w' (.slice a 2 c) difV ∧ Below w.heap.size w w' := by
  have h := Diff_any (oneY 7) (oneB 8) a1 a2 c1 c2 S w h1 h2 hS (by decide) (by decide) (one_facts 7).2.1 (by simp [oneB, Fo.Sm, bedN, rakedN, Fo.len]) (by decide) (by decide) ht
  rw [val_dif.1, val_dif.2] at h
  exact h
theorem get7 (a1 a2 : Option Addr) (c1 c2 : Nat) (S T : Nat → Prop) (w : World) (h1 : FSl S w (.slice a1 2 c1) (oneY 7)) (hS : ∀ b, S b → b < w.heap.size) (h2 : Pth T w (.slice a2 2 c2) [bed3, raked5]) (hT : ∀ b, T b → b < w.heap.size) :
    Calls Tryz.prog 56 #[.slice a1 2 c1, .slice a2 2 c2] w fun e w' => ∃ an cn ab cb, e = .returned (.tuple #[.agg #[.string ⟨#[114, 97, 107, 101, 100]⟩, .slice an 2 cn, .slice ab 0 cb], .int .i64 0]) ∧ Ints (Rg w.heap.size w'.heap.size) w' (.slice an 2 cn) [5, 7] ∧ Below w.heap.size w w' := by
  have h := Get_any (oneY 7) [bed3, raked5] a1 a2 c1 c2 S T w h1 hS h2 hT (by decide) (one_facts 7).2.1 (by decide) (by decide)
  refine h.mono ?_
  rintro e w' ⟨n, l, s, an, cn, ab, cb, hg, he, hi, hf, hb⟩
  rw [val_get.2] at hg
  obtain ⟨rfl, rfl, rfl⟩ : rakedN = n ∧ [5, 7] = l ∧ Fo.nil = s := by simpa using hg
  rw [val_get.1] at he
  exact ⟨an, cn, ab, cb, he, hi, hb⟩
theorem put7 (a1 a2 an : Option Addr) (c1 c2 cn : Nat) (S T : Nat → Prop) (w : World) (h1 : FSl S w (.slice a1 2 c1) (oneY 7)) (hS : ∀ b, S b → b < w.heap.size) (h2 : Pth T w (.slice a2 1 c2) [bed3]) (h3 : Ints T w (.slice an 1 cn) [6]) (hT : ∀ b, T b → b < w.heap.size) :
    Calls Tryz.prog 49 #[.slice a1 2 c1, .slice a2 1 c2, .agg #[.string ⟨#[114, 97, 107, 101, 100]⟩, .slice an 1 cn, .slice none 0 0]] w fun e w' => ∃ a c, e = .returned (.tuple #[.slice a 2 c, .int .i64 0]) ∧ FSl (Rg w.heap.size w'.heap.size) w' (.slice a 2 c) oneM ∧ Below w.heap.size w w' := by
  have h := Put_any (oneY 7) [bed3] rakedN [6] .nil a1 a2 an none c1 c2 cn 0 S T T w h1 hS h2 hT h3 ⟨[], ⟨rfl, none, 0, rfl, Nat.le_refl _, by simp [maxLen], fun _ => rfl, .inl rfl⟩, rfl⟩ hT (by decide) (one_facts 7).2.1 (by decide) (by decide) (by decide) (by decide) (by decide) trivial (by decide)
  refine h.mono ?_
  rintro e w' ⟨a, c, he, hf, hb⟩
  rw [val_put.1, val_put.2] at he
  rw [val_put.2] at hf
  exact ⟨a, c, he, hf.fsl, hb⟩
theorem join7 (a1 a2 a3 : Option Addr) (c1 c2 c3 : Nat) (S : Nat → Prop) (w : World) (h1 : FSl S w (.slice a1 2 c1) (oneY 7)) (h2 : FSl S w (.slice a2 1 c2) oneS) (h3 : FSl S w (.slice a3 2 c3) oneM) (hS : ∀ b, S b → b < w.heap.size) (ht : Pow w) :
    Calls Tryz.prog 33 #[.slice a1 2 c1, .slice a2 1 c2, .slice a3 2 c3] w fun e w' => ∃ a c a' c', e = .returned (.tuple #[.slice a 1 c, .slice a' 1 c', .int .i64 0]) ∧ FSl (Rg w.heap.size w'.heap.size) w' (.slice a 1 c) oneS ∧ PaSl (Rg w.heap.size w'.heap.size) w' (.slice a' 1 c') [[bed3, raked6]] ∧ Below w.heap.size w w' := by
  have h := Join_any (oneY 7) oneS oneM a1 a2 a3 c1 c2 c3 S w h1 h2 h3 hS ⟨by decide, (one_facts 7).2.1, by decide⟩ ⟨by decide, by simp [oneS, Fo.Sm, soldN, Fo.len], by decide⟩ ⟨by decide, by simp [oneM, Fo.Sm, bedN, rakedN, soldN, Fo.len], by decide⟩ ht
  refine h.mono ?_
  rintro e w' ⟨a, c, a', c', he, hf, hp, hb⟩
  rw [val_join.1, val_join.2.1, val_join.2.2] at he
  rw [val_join.2.1] at hf
  rw [val_join.2.2] at hp
  exact ⟨a, c, a', c', he, hf, hp, hb⟩
end Go.Proofs.LF
namespace Go.Proofs.LF
open Go.RowKit Go.Sort
set_option maxHeartbeats 40000000
set_option maxRecDepth 100000
attribute [local go_sem] bs_toList bs_size bs_get
theorem AnyH_two {F : Fence} {n : Nat} {P : Program} {ops : Array Oper} {Q : Exit → Act → World → Prop} {md : Region.Mode} {S : World → Prop} {i j : Nat} {oi oj : Oper} {fuel : Nat} {listed : Array Bool} {a : Act} {w : World} (hr : Region.ready md ops listed = [i, j]) (hi : ops[i]? = some oi) (hj : ops[j]? = some oj)
    (hwi : Region.wanted oi (yielded ops a.tmps) = true) (hwj : Region.wanted oj (yielded ops a.tmps) = true)
    (h1 : ∀ K : Act → World → Prop, (∀ a w, S w ∧ AnyH F n P md ops Q S fuel (listed.setIfInBounds i true) a w → K a w) → Oper.wpIn F n P oi a w K Q)
    (h2 : ∀ K : Act → World → Prop, (∀ a w, S w ∧ AnyH F n P md ops Q S fuel (listed.setIfInBounds j true) a w → K a w) → Oper.wpIn F n P oj a w K Q) : AnyH F n P md ops Q S (fuel + 1) listed a w :=
  ⟨fun h0 => (by rw [hr] at h0; cases h0), hr ▸ fun k hk => by
    simp only [List.mem_cons, List.not_mem_nil, or_false] at hk
    rcases hk with rfl | rfl
    · unfold wpOpIn
      rw [hi]
      simp only [hwi, if_true]
      exact h1 _ fun _ _ h => h
    · unfold wpOpIn
      rw [hj]
      simp only [hwj, if_true]
      exact h2 _ fun _ _ h => h⟩
theorem awake_any (w : World) (ht : Pow w) : Calls Tryz.prog 18 #[] w fun e w' => e = .returned (.bool true) ∧ Below w.heap.size w w' := by
  have HT := hid ht
  clear ht
  go_enter Tryz.func18, Tryz.ntmps18
  go_wp2_with fail
  refine (One_any 7 w).mono ?_
  rintro e w1 ⟨g1, rfl, hF1, hb1⟩
  have HB1 := hid hb1
  have P1 := hid (print7 _ 2 _ w1 hF1 (fun b hb => hb.2) (HT.out.below hb1))
  clear hF1 hb1
  go_wp2_with fail
  refine P1.out.mono ?_
  rintro e w2 ⟨rfl, hb2⟩
  have HB2 := hid (HB1.out.trans (hb2.mono HB1.out.size))
  clear hb2
  go_wp2_with fail
  refine (parse1 w2).mono ?_
  rintro e w3 ⟨a3, c3, rfl, hF3, hb3⟩
  have HB3 := hid (HB2.out.trans (hb3.mono HB2.out.size))
  have HF3 := hid hF3
  clear hF3 hb3
  go_wp2_with fail
  refine (parse2 w3).mono ?_
  rintro e w4 ⟨a4, c4, rfl, hb4⟩
  have HB4 := hid (HB3.out.trans (hb4.mono HB3.out.size))
  have HF4 := hid (HF3.out.agree (Agree.of_below hb4 (fun b hb => hb.2)))
  have hz4 := hb4.size
  clear hb4
  go_wp2_with fail
  refine (One_any 7 w4).mono ?_
  rintro e w5 ⟨g5, rfl, hF5, hb5⟩
  have HB5 := hid (HB4.out.trans (hb5.mono HB4.out.size))
  have A5 := hid (alike7 a3 (some ⟨g5, 0, none⟩) c3 2 (fun b => b < w5.heap.size) w5 ((HF4.out.agree (Agree.of_below hb5 (fun b hb => by have := hb.2; omega))).wide (fun b hb => by have := hb.2; have := hb5.size; omega)) (hF5.wide (fun b hb => hb.2)) (fun b hb => hb))
  clear hF5 hb5
  go_wp2_with fail
  refine A5.out.mono ?_
  rintro e w6 ⟨rfl, hb6⟩
  have HB6 := hid (HB5.out.trans (hb6.mono HB5.out.size))
  clear hb6
  go_wp2_with fail
  refine (One_any 7 w6).mono ?_
  rintro e w7 ⟨g7, rfl, hF7, hb7⟩
  have HB7 := hid (HB6.out.trans (hb7.mono HB6.out.size))
  have HF7 := hid hF7
  clear hF7 hb7
  go_wp2_with fail
  refine (One_any 8 w7).mono ?_
  rintro e w8 ⟨g8, rfl, hF8, hb8⟩
  have HB8 := hid (HB7.out.trans (hb8.mono HB7.out.size))
  have D8 := hid (diff78 (some ⟨g7, 0, none⟩) (some ⟨g8, 0, none⟩) 2 2 (fun b => b < w8.heap.size) w8 ((HF7.out.agree (Agree.of_below hb8 (fun b hb => hb.2))).wide (fun b hb => by have := hb.2; have := hb8.size; omega)) ((FSl.pre (m := 1) hF8 (by decide)).wide (fun b hb => hb.2)) (fun b hb => hb) (HT.out.below HB8.out))
  clear hF8 hb8
  go_wp2_with fail
  refine D8.out.mono ?_
  rintro e w9 ⟨a9, c9, rfl, hC9, hb9⟩
  have HB9 := hid (HB8.out.trans (hb9.mono HB8.out.size))
  have HC9 := hid hC9
  clear hC9 hb9
  go_wp2_with fail
  refine (One_any 7 w9).mono ?_
  rintro e w10 ⟨g10, rfl, hF10, hb10⟩
  have HB10 := hid (HB9.out.trans (hb10.mono HB9.out.size))
  have HF10 := hid hF10
  have HC10 := hid (LSl.agree HC9.out (Agree.of_below hb10 (fun b hb => hb.2)))
  have hz10 := hb10.size
  clear hF10 hb10 HF7 HF4 HF3 HC9 P1 A5 D8
  go_wp2_with fail
  have hba : Below w10.heap.size w10 (w10.alloc (.cells #[.int .i64 3] 3)) := (Below.refl _ _).alloc (Nat.le_refl _) _
  refine (K_any _ 3 w10.heap.size 1 _ (cells_get (heap_alloc_new w10 _) (k := 0) rfl) (by simp) (Nat.le_refl _)).mono ?_
  rintro e w11 ⟨rfl, hb11⟩
  have hb11' := hba.trans (hb11.mono (by simp))
  have HB11 := hid (HB10.out.trans (hb11'.mono HB10.out.size))
  have HL11 := hid hb11'
  clear hb11 hba hb11'
  go_wp2_with fail
  have hba : Below w11.heap.size w11 (w11.alloc (.cells #[.int .i64 5] 3)) := (Below.refl _ _).alloc (Nat.le_refl _) _
  refine (K_any _ 5 w11.heap.size 1 _ (cells_get (heap_alloc_new w11 _) (k := 0) rfl) (by simp) (Nat.le_refl _)).mono ?_
  rintro e w12 ⟨rfl, hb12⟩
  have hb12' := hba.trans (hb12.mono (by simp))
  have HB12 := hid (HB11.out.trans (hb12'.mono HB11.out.size))
  have HL12 := hid (HL11.out.trans (hb12'.mono HL11.out.size))
  clear hb12 hba hb12'
  go_wp2_with fail
  have hk12 := heap_alloc_new w12 (.cells #[.string ⟨#[98, 101, 100]⟩, .bool true, .int .i64 3, .string ⟨#[114, 97, 107, 101, 100]⟩, .bool true, .int .i64 5] 71)
  have hbk : Below w12.heap.size w12 (w12.alloc (.cells #[.string ⟨#[98, 101, 100]⟩, .bool true, .int .i64 3, .string ⟨#[114, 97, 107, 101, 100]⟩, .bool true, .int .i64 5] 71)) := (Below.refl _ _).alloc (Nat.le_refl _) _
  have hl12 := HL12.out.trans (hbk.mono HL12.out.size)
  have hP12 : Pth (fun b => b < w12.heap.size + 1) (w12.alloc (.cells #[.string ⟨#[98, 101, 100]⟩, .bool true, .int .i64 3, .string ⟨#[114, 97, 107, 101, 100]⟩, .bool true, .int .i64 5] 71)) (.slice (some ⟨w12.heap.size, 0, none⟩) 2 2) [bed3, raked5] := slc_block (k := 3) (n := 2) hk12 (by omega) rfl (by simp [maxLen])
  have G12 := hid (get7 (some ⟨g10, 0, none⟩) (some ⟨w12.heap.size, 0, none⟩) 2 2 _ _ _ (HF10.out.agree (Agree.of_below hl12 (fun b hb => hb.2))) (fun b hb => by have := hb.2; have := hl12.size; omega) hP12 (fun b hb => by simpa using hb))
  have HL12b := hid hl12
  clear hk12 hbk hP12 hl12
  refine G12.out.mono ?_
  rintro e w13 ⟨an, cn, ab, cb, rfl, hI13, hb13⟩
  have hb13' := HL12b.out.trans (hb13.mono HL12b.out.size)
  have HL13 := hid hb13'
  have HB13 := hid (HB10.out.trans (hb13'.mono HB10.out.size))
  have HI13 := hid hI13
  have hz13 := hb13'.size
  have hz13b : w12.heap.size + 1 ≤ w13.heap.size := by have := hb13.size; simpa using this
  clear hI13 hb13 hb13' G12 HF10 HL12 HL12b HL11
  go_wp2_with fail
  have HN13 := hid (heap_alloc_new w13 (.cells #[.string ⟨#[114, 97, 107, 101, 100]⟩, .slice an 2 cn, .slice ab 0 cb] 85))
  have hbx : Below w13.heap.size w13 (w13.alloc (.cells #[.string ⟨#[114, 97, 107, 101, 100]⟩, .slice an 2 cn, .slice ab 0 cb] 85)) := (Below.refl _ _).alloc (Nat.le_refl _) _
  refine (One_any 7 _).mono ?_
  rintro e w14 ⟨g14, rfl, hF14, hb14⟩
  have hz14 := hb14.size
  simp only [World.size_alloc] at hz14
  have hb14' := hbx.trans (hb14.mono (by simp))
  have HL14 := hid hb14'
  have HB14 := hid (HB13.out.trans (hb14'.mono HB13.out.size))
  have HN14 := hid ((hb14.block w13.heap.size (by simp)).trans HN13.out)
  have HF14 := hid (hF14.wide (S' := fun b => b < w14.heap.size) (fun b hb => hb.2))
  clear hF14 hb14 hb14' hbx
  go_wp2_with fail
  have hba : Below w14.heap.size w14 (w14.alloc (.cells #[.int .i64 3] 3)) := (Below.refl _ _).alloc (Nat.le_refl _) _
  refine (K_any _ 3 w14.heap.size 1 _ (cells_get (heap_alloc_new w14 _) (k := 0) rfl) (by simp) (Nat.le_refl _)).mono ?_
  rintro e w15 ⟨rfl, hb15⟩
  have hb15' := hba.trans (hb15.mono (by simp))
  have HL15 := hid hb15'
  have hz15 := hb15'.size
  clear hb15 hba hb15'
  go_wp2_with fail
  have hk15 := heap_alloc_new w15 (.cells #[.string ⟨#[98, 101, 100]⟩, .bool true, .int .i64 3] 71)
  have hk15b : ((w15.alloc (.cells #[.string ⟨#[98, 101, 100]⟩, .bool true, .int .i64 3] 71)).alloc (.cells #[.int .i64 6] 3)).heap[w15.heap.size]? = _ := (heap_alloc_old _ _ (by simp)).trans hk15
  have hk6 := heap_alloc_new (w15.alloc (.cells #[.string ⟨#[98, 101, 100]⟩, .bool true, .int .i64 3] 71)) (.cells #[.int .i64 6] 3)
  simp only [World.size_alloc] at hk6
  have hbk : Below w15.heap.size w15 ((w15.alloc (.cells #[.string ⟨#[98, 101, 100]⟩, .bool true, .int .i64 3] 71)).alloc (.cells #[.int .i64 6] 3)) := ((Below.refl _ _).alloc (Nat.le_refl _) _).alloc (by simp) _
  have hl15 := HL15.out.trans (hbk.mono hz15)
  have hP15 : Pth (fun b => b < w15.heap.size + 2) ((w15.alloc (.cells #[.string ⟨#[98, 101, 100]⟩, .bool true, .int .i64 3] 71)).alloc (.cells #[.int .i64 6] 3)) (.slice (some ⟨w15.heap.size, 0, none⟩) 1 1) [bed3] := slc_block (k := 3) (n := 1) hk15b (by omega) rfl (by simp [maxLen])
  have hI15 : Ints (fun b => b < w15.heap.size + 2) ((w15.alloc (.cells #[.string ⟨#[98, 101, 100]⟩, .bool true, .int .i64 3] 71)).alloc (.cells #[.int .i64 6] 3)) (.slice (some ⟨w15.heap.size + 1, 0, none⟩) 1 1) [6] := slc_block (k := 1) (n := 1) hk6 (by omega) rfl (by simp [maxLen])
  have G15 := hid (put7 (some ⟨g14, 0, none⟩) (some ⟨w15.heap.size, 0, none⟩) (some ⟨w15.heap.size + 1, 0, none⟩) 2 1 1 _ _ _ (HF14.out.agree (Agree.of_below hl15 (fun b hb => hb))) (fun b hb => by have := hl15.size; omega) hP15 hI15 (fun b hb => by simpa using hb))
  have HL15b := hid hl15
  clear hk15 hk15b hk6 hbk hP15 hI15 hl15
  refine G15.out.mono ?_
  rintro e w16 ⟨a16, c16, rfl, hF16, hb16⟩
  have hb16' := HL15b.out.trans (hb16.mono HL15b.out.size)
  have HL16 := hid hb16'
  have HB16 := hid (HB14.out.trans (hb16'.mono HB14.out.size))
  have HF16 := hid (hF16.wide (S' := fun b => b < w16.heap.size) (fun b hb => hb.2))
  have HN16 := hid ((hb16'.block w13.heap.size (by omega)).trans HN14.out)
  have hz16 := hb16'.size
  clear hF16 hb16 hb16' G15 HF14 HL15 HL15b
  go_wp2_with fail
  refine (One_any 7 w16).mono ?_
  rintro e w17 ⟨g17, rfl, hF17, hb17⟩
  have HL17 := hid hb17
  have hz17 := hb17.size
  have HF17 := hid (hF17.wide (S' := fun b => b < w17.heap.size) (fun b hb => hb.2))
  clear hF17 hb17
  go_wp2_with fail
  refine (One_any 7 w17).mono ?_
  rintro e w18 ⟨g18, rfl, hF18, hb18⟩
  have hz18 := hb18.size
  have hl18 := HL17.out.trans (hb18.mono hz17)
  have HB18 := hid (HB16.out.trans (hl18.mono HB16.out.size))
  have hsuf := FSl.suf (m := 1) hF18 (by decide)
  have J18 := hid (join7 (some ⟨g17, 0, none⟩) (some ⟨g18, 0 + 1 * 3, none⟩) a16 2 1 c16 (fun b => b < w18.heap.size) w18 ((HF17.out.agree (Agree.of_below hb18 (fun b hb => hb))).wide (fun b hb => by omega)) (hsuf.wide (fun b hb => hb.2)) ((HF16.out.agree (Agree.of_below hl18 (fun b hb => hb))).wide (fun b hb => by omega)) (fun b hb => hb) (HT.out.below HB18.out))
  have HL18 := hid hl18
  clear hF18 hb18 hl18 hsuf HF17 HF16 HL17
  go_wp2_with fail
  refine J18.out.mono ?_
  rintro e w19 ⟨aj, cj, aq, cq, rfl, hFj, hPj, hb19⟩
  have hl19 := HL18.out.trans (hb19.mono (by omega))
  have hz19 : w16.heap.size ≤ w19.heap.size := by have := hl19.size; omega
  have HB19 := hid (HB16.out.trans (hl19.mono HB16.out.size))
  have hl16 := HL16.out.trans (hl19.mono hz16)
  have hl14 := HL14.out.trans (hl16.mono (by omega))
  have hl13 := HL13.out.trans (hl14.mono hz13)
  have hw14 := hl14.size
  have hC19 : ChSl (fun b => b < w19.heap.size) w19 (.slice a9 2 c9) difV := LSl.wide (LSl.agree HC10.out (Agree.of_below hl13 (fun b hb => by have := hb.2; omega))) (fun b hb => by have := hb.2; omega)
  have hI19 : Ints (fun b => b < w19.heap.size) w19 (.slice an 2 cn) [5, 7] := (HI13.out.agree (Agree.of_below hl14 (fun b hb => hb.2))).wide (fun b hb => by have := hb.2; omega)
  have hN19 := (hl19.block w13.heap.size (by omega)).trans HN16.out
  have n1 : w19.cell? ⟨w13.heap.size, 1, none⟩ = some (.slice an 2 cn) := cells_get hN19 (k := 1) rfl
  obtain ⟨aX, cX, heX, hc9, hc9m, hatC⟩ := hC19.at
  obtain ⟨rfl, rfl⟩ : a9 = aX ∧ c9 = cX := by cases heX; exact ⟨rfl, rfl⟩
  obtain ⟨gl, ol, cs0, rfl, hgl, ⟨ap, cp, ao, co, ax, cx, rfl, hp0, ho0, hx0⟩, hcell0⟩ := hatC 0 (by decide)
  obtain ⟨gl', ol', cs1, he1, _, ⟨ap1, cp1, ao1, co1, ax1, cx1, rfl, _, _, _⟩, hcell1⟩ := hatC 1 (by decide)
  obtain ⟨rfl, rfl⟩ : gl = gl' ∧ ol = ol' := by cases he1; exact ⟨rfl, rfl⟩
  have l0 : w19.cell? ⟨gl, ol, none⟩ = some (.slice ap 2 cp) := hcell0 0 _ rfl
  have l4 : w19.cell? ⟨gl, ol + 4, none⟩ = some (.slice ax 2 cx) := hcell0 4 _ rfl
  have l7 : w19.cell? ⟨gl, ol + 5 + 2, none⟩ = some (.bool false) := hcell1 2 _ rfl
  obtain ⟨aY, cY, heY, hcq, hcqm, hatP⟩ := hPj.at
  obtain ⟨rfl, rfl⟩ : aq = aY ∧ cq = cY := by cases heY; exact ⟨rfl, rfl⟩
  obtain ⟨gq, oq, cs2, rfl, hgq, ⟨ar, cr, rfl, hpq⟩, hcellq⟩ := hatP 0 (by decide)
  have p0 : w19.cell? ⟨gq, oq, none⟩ = some (.slice ar 2 cr) := hcellq 0 _ rfl
  have hX19 : Ints (fun b => b < w19.heap.size) w19 (.slice ax 2 cx) [5, 8] := hx0
  have hP19 : Pth (fun b => b < w19.heap.size) w19 (.slice ar 2 cr) [bed3, raked6] := hpq.wide (fun b hb => hb.2)
  have hJ19 : FSl (fun b => b < w19.heap.size) w19 (.slice aj 1 cj) oneS := hFj.wide (fun b hb => hb.2)
  have hgl' : gl < w19.heap.size := hgl
  have hgq' : gq < w19.heap.size := hgq.2
  have hn' : w13.heap.size < w19.heap.size := by omega
  have ALL : ∀ W, Below w19.heap.size w19 W → (W.cell? ⟨w13.heap.size, 1, none⟩ = some (.slice an 2 cn) ∧ W.cell? ⟨gl, ol, none⟩ = some (.slice ap 2 cp) ∧ W.cell? ⟨gl, ol + 4, none⟩ = some (.slice ax 2 cx) ∧ W.cell? ⟨gl, ol + 5 + 2, none⟩ = some (.bool false) ∧ W.cell? ⟨gq, oq, none⟩ = some (.slice ar 2 cr)) ∧
      Ints (fun b => b < w19.heap.size) W (.slice an 2 cn) [5, 7] ∧ Ints (fun b => b < w19.heap.size) W (.slice ax 2 cx) [5, 8] ∧ Pth (fun b => b < w19.heap.size) W (.slice ar 2 cr) [bed3, raked6] ∧ FSl (fun b => b < w19.heap.size) W (.slice aj 1 cj) oneS := fun W hW =>
    ⟨⟨below_cell hW hn' n1, below_cell hW hgl' l0, below_cell hW hgl' l4, below_cell hW hgl' l7, below_cell hW hgq' p0⟩, hI19.agree (Agree.of_below hW (fun b hb => hb)), hX19.agree (Agree.of_below hW (fun b hb => hb)), hP19.agree (Agree.of_below hW (fun b hb => hb)), hJ19.agree (Agree.of_below hW (fun b hb => hb))⟩
  have HALL := hid ALL
  unfold maxLen at hc9m hcqm
  clear ALL hJ19 hP19 hX19 p0 l0 l4 l7 n1 hcellq hcell0 hcell1 hatC hatP hpq hgq hgl he1 heX heY hp0 ho0 hx0 hC19 hI19 hN19 hl13 hl14 hl16 hl19 hb19 hFj hPj J18 HL18 HN16 HN14 HN13 HL16 HL14 HL13 HC10 HI13
  clear HB1 HB2 HB3 HB4 HB5 HB6 HB7 HB8 HB9 HB10 HB11 HB12 HB13 HB14 HB16 HB18
  go_wp2_with fail
  simp only [List.append_eq, List.cons_append, List.nil_append]
  refine (wpIn_wide (n := 9)).1 ?_
  refine region_held (fun w' => w'.cell? ⟨w13.heap.size, 1, none⟩ = some (.slice an 2 cn) ∧ w'.cell? ⟨gl, ol, none⟩ = some (.slice ap 2 cp) ∧ w'.cell? ⟨gl, ol + 4, none⟩ = some (.slice ax 2 cx) ∧ w'.cell? ⟨gl, ol + 5 + 2, none⟩ = some (.bool false) ∧ w'.cell? ⟨gq, oq, none⟩ = some (.slice ar 2 cr)) (by kernel_rfl) ?_
  have hS0 := (HALL.out w19.drew (Below.refl _ _).drew).1
  refine AnyH_takeD (fun _ => trivial) (by kernel_rfl) 0 98 (.int .i64 0) rfl rfl (by kernel_rfl) (by kernel_rfl) (by kernel_rfl) (fun _ _ _ h => h) (.inl ⟨by kernel_rfl, fun w' hs => ?_⟩) hS0 ?_
  · go_simp
  refine AnyH_takeD (fun _ => trivial) (by kernel_rfl) 1 99 (.bool true) rfl rfl (by kernel_rfl) (by kernel_rfl) (by kernel_rfl) (fun _ _ _ h => h) (.inl ⟨by kernel_rfl, fun w' hs => ?_⟩) hS0 ?_
  · go_simp
  refine AnyH_takeD (fun _ => trivial) (by kernel_rfl) 2 100 (.bool true) rfl rfl (by kernel_rfl) (by kernel_rfl) (by kernel_rfl) (fun _ _ _ h => h) (.inl ⟨by kernel_rfl, fun w' hs => ?_⟩) hS0 ?_
  · go_simp
  refine AnyH_takeD (fun _ => trivial) (by kernel_rfl) 3 101 (.int .i64 0) rfl rfl (by kernel_rfl) (by kernel_rfl) (by kernel_rfl) (fun _ _ _ h => h) (.inl ⟨by kernel_rfl, fun w' hs => ?_⟩) hS0 ?_
  · go_simp
  refine AnyH_takeD (fun _ => trivial) (by kernel_rfl) 4 102 (.bool true) rfl rfl (by kernel_rfl) (by kernel_rfl) (by kernel_rfl) (fun _ _ _ h => h) (.inl ⟨by kernel_rfl, fun w' hs => ?_⟩) hS0 ?_
  · go_simp
  refine AnyH_takeD (fun _ => trivial) (by kernel_rfl) 5 103 (.bool true) rfl rfl (by kernel_rfl) (by kernel_rfl) (by kernel_rfl) (fun _ _ _ h => h) (.inl ⟨by kernel_rfl, fun w' hs => ?_⟩) hS0 ?_
  · go_simp
  refine AnyH_takeD (fun _ => trivial) (by kernel_rfl) 6 104 (.bool true) rfl rfl (by kernel_rfl) (by kernel_rfl) (by kernel_rfl) (fun _ _ _ h => h) (.inl ⟨by kernel_rfl, fun w' hs => ?_⟩) hS0 ?_
  · go_simp
  refine AnyH_takeD (fun _ => trivial) (by kernel_rfl) 7 105 (.int .i64 0) rfl rfl (by kernel_rfl) (by kernel_rfl) (by kernel_rfl) (fun _ _ _ h => h) (.inl ⟨by kernel_rfl, fun w' hs => ?_⟩) hS0 ?_
  · go_simp
  refine AnyH_takeD (fun _ => trivial) (by kernel_rfl) 8 106 (.bool true) rfl rfl (by kernel_rfl) (by kernel_rfl) (by kernel_rfl) (fun _ _ _ h => h) (.inl ⟨by kernel_rfl, fun w' hs => ?_⟩) hS0 ?_
  · go_simp
  refine AnyH_takeD (fun _ => trivial) (by kernel_rfl) 9 107 (.bool true) rfl rfl (by kernel_rfl) (by kernel_rfl) (by kernel_rfl) (fun _ _ _ h => h) (.inl ⟨by kernel_rfl, fun w' hs => ?_⟩) hS0 ?_
  · go_simp
  refine AnyH_takeD (fun _ => trivial) (by kernel_rfl) 10 108 (.bool true) rfl rfl (by kernel_rfl) (by kernel_rfl) (by kernel_rfl) (fun _ _ _ h => h) (.inl ⟨by kernel_rfl, fun w' hs => ?_⟩) hS0 ?_
  · go_simp
  refine AnyH_takeD (fun _ => trivial) (by kernel_rfl) 11 109 (.int .i64 0) rfl rfl (by kernel_rfl) (by kernel_rfl) (by kernel_rfl) (fun _ _ _ h => h) (.inl ⟨by kernel_rfl, fun w' hs => ?_⟩) hS0 ?_
  · go_simp
  refine AnyH_takeD (fun _ => trivial) (by kernel_rfl) 12 110 (.bool true) rfl rfl (by kernel_rfl) (by kernel_rfl) (by kernel_rfl) (fun _ _ _ h => h) (.inl ⟨by kernel_rfl, fun w' hs => ?_⟩) hS0 ?_
  · go_simp
  refine AnyH_takeD (fun _ => trivial) (by kernel_rfl) 13 111 (.bool true) rfl rfl (by kernel_rfl) (by kernel_rfl) (by kernel_rfl) (fun _ _ _ h => h) (.inl ⟨by kernel_rfl, fun w' hs => ?_⟩) hS0 ?_
  · go_simp
  refine AnyH_takeD (fun _ => trivial) (by kernel_rfl) 14 112 (.bool true) rfl rfl (by kernel_rfl) (by kernel_rfl) (by kernel_rfl) (fun _ _ _ h => h) (.inl ⟨by kernel_rfl, fun w' hs => ?_⟩) hS0 ?_
  · go_simp
  refine AnyH_takeD (fun _ => trivial) (by kernel_rfl) 15 113 (.slice (some ⟨gl, ol, none⟩) 2 c9) rfl rfl (by kernel_rfl) (by kernel_rfl) (by kernel_rfl) (fun _ _ _ h => h) (.inl ⟨by kernel_rfl, fun w' hs => ?_⟩) hS0 ?_
  · go_simp
  refine AnyH_takeD (fun _ => trivial) (by kernel_rfl) 16 114 (.int .i64 2) rfl rfl (by kernel_rfl) (by kernel_rfl) (by kernel_rfl) (fun _ _ _ h => h) (.inl ⟨by kernel_rfl, fun w' hs => ?_⟩) hS0 ?_
  · go_simp
  refine AnyH_takeD (fun _ => trivial) (by kernel_rfl) 17 115 (.bool true) rfl rfl (by kernel_rfl) (by kernel_rfl) (by kernel_rfl) (fun _ _ _ h => h) (.inl ⟨by kernel_rfl, fun w' hs => ?_⟩) hS0 ?_
  · go_simp
  refine AnyH_takeD (fun _ => trivial) (by kernel_rfl) 18 116 (.bool true) rfl rfl (by kernel_rfl) (by kernel_rfl) (by kernel_rfl) (fun _ _ _ h => h) (.inl ⟨by kernel_rfl, fun w' hs => ?_⟩) hS0 ?_
  · go_simp
  refine AnyH_takeD (fun _ => trivial) (by kernel_rfl) 19 117 (.bool true) rfl rfl (by kernel_rfl) (by kernel_rfl) (by kernel_rfl) (fun _ _ _ h => h) (.inl ⟨by kernel_rfl, fun w' hs => ?_⟩) hS0 ?_
  · go_simp
  refine AnyH_takeD (fun _ => trivial) (by kernel_rfl) 20 118 (.slice (some ⟨gl, ol, none⟩) 2 c9) rfl rfl (by kernel_rfl) (by kernel_rfl) (by kernel_rfl) (fun _ _ _ h => h) (.inl ⟨by kernel_rfl, fun w' hs => ?_⟩) hS0 ?_
  · go_simp
  refine AnyH_takeD (fun _ => trivial) (by kernel_rfl) 21 119 (.pointer (some ⟨gl, ol, none⟩)) rfl rfl (by kernel_rfl) (by kernel_rfl) (by kernel_rfl) (fun _ _ _ h => h) (.inl ⟨by kernel_rfl, fun w' hs => ?_⟩) hS0 ?_
  · go_simp
  refine AnyH_takeD (fun _ => trivial) (by kernel_rfl) 22 120 (.pointer (some ⟨gl, ol, none⟩)) rfl rfl (by kernel_rfl) (by kernel_rfl) (by kernel_rfl) (fun _ _ _ h => h) (.inl ⟨by kernel_rfl, fun w' hs => ?_⟩) hS0 ?_
  · go_simp
  refine AnyH_takeD (fun _ => trivial) (by kernel_rfl) 23 121 (.slice ap 2 cp) rfl rfl (by kernel_rfl) (by kernel_rfl) (by kernel_rfl) (fun _ _ _ h => h) (.inl ⟨by kernel_rfl, fun w' hs => ?_⟩) hS0 ?_
  · obtain ⟨q0, q1, q2, q3, q4⟩ := hs
    go_simp
  refine AnyH_takeD (fun _ => trivial) (by kernel_rfl) 24 122 (.int .i64 2) rfl rfl (by kernel_rfl) (by kernel_rfl) (by kernel_rfl) (fun _ _ _ h => h) (.inl ⟨by kernel_rfl, fun w' hs => ?_⟩) hS0 ?_
  · go_simp
  refine AnyH_takeD (fun _ => trivial) (by kernel_rfl) 25 123 (.bool true) rfl rfl (by kernel_rfl) (by kernel_rfl) (by kernel_rfl) (fun _ _ _ h => h) (.inl ⟨by kernel_rfl, fun w' hs => ?_⟩) hS0 ?_
  · go_simp
  refine AnyH_takeD (fun _ => trivial) (by kernel_rfl) 26 124 (.bool true) rfl rfl (by kernel_rfl) (by kernel_rfl) (by kernel_rfl) (fun _ _ _ h => h) (.inl ⟨by kernel_rfl, fun w' hs => ?_⟩) hS0 ?_
  · go_simp
  refine AnyH_takeD (fun _ => trivial) (by kernel_rfl) 27 125 (.bool true) rfl rfl (by kernel_rfl) (by kernel_rfl) (by kernel_rfl) (fun _ _ _ h => h) (.inl ⟨by kernel_rfl, fun w' hs => ?_⟩) hS0 ?_
  · go_simp
  refine AnyH_takeD (fun _ => trivial) (by kernel_rfl) 28 126 (.slice (some ⟨gl, ol, none⟩) 2 c9) rfl rfl (by kernel_rfl) (by kernel_rfl) (by kernel_rfl) (fun _ _ _ h => h) (.inl ⟨by kernel_rfl, fun w' hs => ?_⟩) hS0 ?_
  · go_simp
  refine AnyH_takeD (fun _ => trivial) (by kernel_rfl) 29 127 (.pointer (some ⟨gl, ol, none⟩)) rfl rfl (by kernel_rfl) (by kernel_rfl) (by kernel_rfl) (fun _ _ _ h => h) (.inl ⟨by kernel_rfl, fun w' hs => ?_⟩) hS0 ?_
  · go_simp
  refine AnyH_takeD (fun _ => trivial) (by kernel_rfl) 30 128 (.pointer (some ⟨gl, ol + 4, none⟩)) rfl rfl (by kernel_rfl) (by kernel_rfl) (by kernel_rfl) (fun _ _ _ h => h) (.inl ⟨by kernel_rfl, fun w' hs => ?_⟩) hS0 ?_
  · go_simp
  refine AnyH_takeD (fun _ => trivial) (by kernel_rfl) 31 129 (.slice ax 2 cx) rfl rfl (by kernel_rfl) (by kernel_rfl) (by kernel_rfl) (fun _ _ _ h => h) (.inl ⟨by kernel_rfl, fun w' hs => ?_⟩) hS0 ?_
  · obtain ⟨q0, q1, q2, q3, q4⟩ := hs
    go_simp
  refine AnyH_one (i := 32) (by kernel_rfl) rfl (by kernel_rfl) (fun K hK => ?_)
  go_simp
  have hbA : Below w19.heap.size w19 (w19.drew.alloc (.cells #[.int .i64 5, .int .i64 8] 3)) := (Below.refl _ _).drew.alloc (Nat.le_refl _) _
  have hA := HALL.out _ hbA
  have hkA := heap_alloc_new w19.drew (.cells #[.int .i64 5, .int .i64 8] 3)
  have iA : Ints (fun b => b < w19.heap.size + 1) (w19.drew.alloc (.cells #[.int .i64 5, .int .i64 8] 3)) (.slice (some ⟨w19.heap.size, 0, none⟩) 2 2) [5, 8] := slc_block (k := 1) (n := 2) hkA (by simp) rfl (by simp [maxLen])
  have EA := hid (eqInts_any [5, 8] [5, 8] ax (some ⟨w19.heap.size, 0, none⟩) cx 2 (fun b => b < w19.heap.size + 1) _ (hA.2.2.1.wide (fun b hb => by omega)) iA (by decide) (by decide))
  rw [decide_eq_true rfl] at EA
  have HBA := hid hbA
  refine hK _ _ ⟨hA.1, ?_⟩
  clear hK hA hkA iA hbA
  refine AnyH_one (i := 33) (by kernel_rfl) rfl (by kernel_rfl) (fun K hK => ?_)
  go_simp
  refine ⟨trivial, (callsIn_wide.2 EA.out).mono ?_⟩
  rintro e w20 ⟨rfl, hb20⟩
  have hl20 := HBA.out.trans (hb20.mono (by simp))
  have hS20 := (HALL.out _ hl20).1
  have hz20 := hl20.size
  have HL20 := hid hl20
  refine hK _ _ ⟨hS20, ?_⟩
  clear hK hb20 hl20 EA HBA
  refine AnyH_takeD (fun _ => trivial) (by kernel_rfl) 34 132 (.bool true) rfl rfl (by kernel_rfl) (by kernel_rfl) (by kernel_rfl) (fun _ _ _ h => h) (.inl ⟨by kernel_rfl, fun w' hs => ?_⟩) hS20 ?_
  · go_simp
  refine AnyH_takeD (fun _ => trivial) (by kernel_rfl) 35 133 (.bool true) rfl rfl (by kernel_rfl) (by kernel_rfl) (by kernel_rfl) (fun _ _ _ h => h) (.inl ⟨by kernel_rfl, fun w' hs => ?_⟩) hS20 ?_
  · go_simp
  refine AnyH_takeD (fun _ => trivial) (by kernel_rfl) 36 134 (.slice (some ⟨gl, ol, none⟩) 2 c9) rfl rfl (by kernel_rfl) (by kernel_rfl) (by kernel_rfl) (fun _ _ _ h => h) (.inl ⟨by kernel_rfl, fun w' hs => ?_⟩) hS20 ?_
  · go_simp
  refine AnyH_takeD (fun _ => trivial) (by kernel_rfl) 37 135 (.pointer (some ⟨gl, ol + 5, none⟩)) rfl rfl (by kernel_rfl) (by kernel_rfl) (by kernel_rfl) (fun _ _ _ h => h) (.inl ⟨by kernel_rfl, fun w' hs => ?_⟩) hS20 ?_
  · go_simp
  refine AnyH_takeD (fun _ => trivial) (by kernel_rfl) 38 136 (.pointer (some ⟨gl, ol + 5 + 2, none⟩)) rfl rfl (by kernel_rfl) (by kernel_rfl) (by kernel_rfl) (fun _ _ _ h => h) (.inl ⟨by kernel_rfl, fun w' hs => ?_⟩) hS20 ?_
  · go_simp
  refine AnyH_takeD (fun _ => trivial) (by kernel_rfl) 39 137 (.bool false) rfl rfl (by kernel_rfl) (by kernel_rfl) (by kernel_rfl) (fun _ _ _ h => h) (.inl ⟨by kernel_rfl, fun w' hs => ?_⟩) hS20 ?_
  · obtain ⟨q0, q1, q2, q3, q4⟩ := hs
    go_simp
  refine AnyH_takeD (fun _ => trivial) (by kernel_rfl) 40 138 (.bool true) rfl rfl (by kernel_rfl) (by kernel_rfl) (by kernel_rfl) (fun _ _ _ h => h) (.inl ⟨by kernel_rfl, fun w' hs => ?_⟩) hS20 ?_
  · go_simp
  refine AnyH_takeD (fun _ => trivial) (by kernel_rfl) 41 139 (.bool true) rfl rfl (by kernel_rfl) (by kernel_rfl) (by kernel_rfl) (fun _ _ _ h => h) (.inl ⟨by kernel_rfl, fun w' hs => ?_⟩) hS20 ?_
  · go_simp
  refine AnyH_takeD (fun _ => trivial) (by kernel_rfl) 42 140 (.bool true) rfl rfl (by kernel_rfl) (by kernel_rfl) (by kernel_rfl) (fun _ _ _ h => h) (.inl ⟨by kernel_rfl, fun w' hs => ?_⟩) hS20 ?_
  · go_simp
  refine AnyH_takeD (fun _ => trivial) (by kernel_rfl) 43 141 (.pointer (some ⟨w13.heap.size, 1, none⟩)) rfl rfl (by kernel_rfl) (by kernel_rfl) (by kernel_rfl) (fun _ _ _ h => h) (.inl ⟨by kernel_rfl, fun w' hs => ?_⟩) hS20 ?_
  · go_simp
  refine AnyH_takeD (fun _ => trivial) (by kernel_rfl) 44 142 (.slice an 2 cn) rfl rfl (by kernel_rfl) (by kernel_rfl) (by kernel_rfl) (fun _ _ _ h => h) (.inl ⟨by kernel_rfl, fun w' hs => ?_⟩) hS20 ?_
  · obtain ⟨q0, q1, q2, q3, q4⟩ := hs
    go_simp
  refine AnyH_one (i := 45) (by kernel_rfl) rfl (by kernel_rfl) (fun K hK => ?_)
  go_simp
  have hbA : Below w20.heap.size w20 (w20.alloc (.cells #[.int .i64 5, .int .i64 7] 3)) := (Below.refl _ _).alloc (Nat.le_refl _) _
  have hlA := HL20.out.trans (hbA.mono hz20)
  have hA := HALL.out _ hlA
  have hkA := heap_alloc_new w20 (.cells #[.int .i64 5, .int .i64 7] 3)
  have iA : Ints (fun b => b < w20.heap.size + 1) (w20.alloc (.cells #[.int .i64 5, .int .i64 7] 3)) (.slice (some ⟨w20.heap.size, 0, none⟩) 2 2) [5, 7] := slc_block (k := 1) (n := 2) hkA (by simp) rfl (by simp [maxLen])
  have EA := hid (eqInts_any [5, 7] [5, 7] an (some ⟨w20.heap.size, 0, none⟩) cn 2 (fun b => b < w20.heap.size + 1) _ (hA.2.1.wide (fun b hb => by omega)) iA (by decide) (by decide))
  rw [decide_eq_true rfl] at EA
  have HLA := hid hlA
  refine hK _ _ ⟨hA.1, ?_⟩
  clear hK hA hkA iA hbA hlA
  refine AnyH_one (i := 46) (by kernel_rfl) rfl (by kernel_rfl) (fun K hK => ?_)
  go_simp
  refine ⟨trivial, (callsIn_wide.2 EA.out).mono ?_⟩
  rintro e w21 ⟨rfl, hb21⟩
  have hl21 := HLA.out.trans (hb21.mono (by simp; omega))
  have hS21 := (HALL.out _ hl21).1
  have hz21 := hl21.size
  have HL21 := hid hl21
  refine hK _ _ ⟨hS21, ?_⟩
  clear hK hb21 hl21 EA HLA
  refine AnyH_takeD (fun _ => trivial) (by kernel_rfl) 47 145 (.bool true) rfl rfl (by kernel_rfl) (by kernel_rfl) (by kernel_rfl) (fun _ _ _ h => h) (.inl ⟨by kernel_rfl, fun w' hs => ?_⟩) hS21 ?_
  · go_simp
  refine AnyH_takeD (fun _ => trivial) (by kernel_rfl) 48 146 (.bool true) rfl rfl (by kernel_rfl) (by kernel_rfl) (by kernel_rfl) (fun _ _ _ h => h) (.inl ⟨by kernel_rfl, fun w' hs => ?_⟩) hS21 ?_
  · go_simp
  refine AnyH_takeD (fun _ => trivial) (by kernel_rfl) 49 147 (.slice aj 1 cj) rfl rfl (by kernel_rfl) (by kernel_rfl) (by kernel_rfl) (fun _ _ _ h => h) (.inl ⟨by kernel_rfl, fun w' hs => ?_⟩) hS21 ?_
  · go_simp
  refine AnyH_one (i := 50) (by kernel_rfl) rfl (by kernel_rfl) (fun K hK => ?_)
  go_simp
  refine ⟨trivial, (callsIn_wide.2 (One_any 7 w21)).mono ?_⟩
  rintro e w22 ⟨g22, rfl, hF22, hb22⟩
  have hl22 := HL21.out.trans (hb22.mono hz21)
  have h22 := HALL.out _ hl22
  have hS22 := h22.1
  have hz22 := hl22.size
  have HL22 := hid hl22
  have hsuf := FSl.suf (m := 1) hF22 (by decide)
  have E22 := hid ((alike_any 4).2 oneS oneS aj cj (some ⟨g22, 0 + 1 * 3, none⟩) (2 - 1) (fun b => b < w22.heap.size) w22 (by decide) (h22.2.2.2.2.wide (fun b hb => by omega)) (hsuf.wide (fun b hb => hb.2)) (fun b hb => hb) (by decide) (by decide) (by simp [oneS, Fo.Sm, soldN, Fo.len]) (by simp [oneS, Fo.Sm, soldN, Fo.len]))
  rw [decide_eq_true rfl] at E22
  refine hK _ _ ⟨hS22, ?_⟩
  clear hK hb22 hl22 hF22 hsuf h22
  refine AnyH_takeD (fun _ => trivial) (by kernel_rfl) 51 149 (.slice (some ⟨g22, 3, none⟩) 1 1) rfl rfl (by kernel_rfl) (by kernel_rfl) (by kernel_rfl) (fun _ _ _ h => h) (.inl ⟨by kernel_rfl, fun w' hs => ?_⟩) hS22 ?_
  · go_simp
  refine AnyH_one (i := 52) (by kernel_rfl) rfl (by kernel_rfl) (fun K hK => ?_)
  go_simp
  refine ⟨trivial, (callsIn_wide.2 E22.out).mono ?_⟩
  rintro e w23 ⟨rfl, hb23⟩
  have hl23 := HL22.out.trans (hb23.mono hz22)
  have h23 := HALL.out _ hl23
  have hS23 := h23.1
  have hz23 := hl23.size
  have HL23 := hid hl23
  have HP23 := hid h23.2.2.2.1
  refine hK _ _ ⟨hS23, ?_⟩
  clear hK hb23 hl23 E22 h23
  refine AnyH_takeD (fun _ => trivial) (by kernel_rfl) 53 151 (.bool true) rfl rfl (by kernel_rfl) (by kernel_rfl) (by kernel_rfl) (fun _ _ _ h => h) (.inl ⟨by kernel_rfl, fun w' hs => ?_⟩) hS23 ?_
  · go_simp
  refine AnyH_takeD (fun _ => trivial) (by kernel_rfl) 54 152 (.bool true) rfl rfl (by kernel_rfl) (by kernel_rfl) (by kernel_rfl) (fun _ _ _ h => h) (.inl ⟨by kernel_rfl, fun w' hs => ?_⟩) hS23 ?_
  · go_simp
  refine AnyH_takeD (fun _ => trivial) (by kernel_rfl) 55 153 (.slice (some ⟨gq, oq, none⟩) 1 cq) rfl rfl (by kernel_rfl) (by kernel_rfl) (by kernel_rfl) (fun _ _ _ h => h) (.inl ⟨by kernel_rfl, fun w' hs => ?_⟩) hS23 ?_
  · go_simp
  refine AnyH_takeD (fun _ => trivial) (by kernel_rfl) 56 154 (.int .i64 1) rfl rfl (by kernel_rfl) (by kernel_rfl) (by kernel_rfl) (fun _ _ _ h => h) (.inl ⟨by kernel_rfl, fun w' hs => ?_⟩) hS23 ?_
  · go_simp
  refine AnyH_takeD (fun _ => trivial) (by kernel_rfl) 57 155 (.bool true) rfl rfl (by kernel_rfl) (by kernel_rfl) (by kernel_rfl) (fun _ _ _ h => h) (.inl ⟨by kernel_rfl, fun w' hs => ?_⟩) hS23 ?_
  · go_simp
  refine AnyH_takeD (fun _ => trivial) (by kernel_rfl) 58 156 (.bool true) rfl rfl (by kernel_rfl) (by kernel_rfl) (by kernel_rfl) (fun _ _ _ h => h) (.inl ⟨by kernel_rfl, fun w' hs => ?_⟩) hS23 ?_
  · go_simp
  refine AnyH_takeD (fun _ => trivial) (by kernel_rfl) 59 157 (.bool true) rfl rfl (by kernel_rfl) (by kernel_rfl) (by kernel_rfl) (fun _ _ _ h => h) (.inl ⟨by kernel_rfl, fun w' hs => ?_⟩) hS23 ?_
  · go_simp
  refine AnyH_takeD (fun _ => trivial) (by kernel_rfl) 60 158 (.slice (some ⟨gq, oq, none⟩) 1 cq) rfl rfl (by kernel_rfl) (by kernel_rfl) (by kernel_rfl) (fun _ _ _ h => h) (.inl ⟨by kernel_rfl, fun w' hs => ?_⟩) hS23 ?_
  · go_simp
  refine AnyH_takeD (fun _ => trivial) (by kernel_rfl) 61 159 (.pointer (some ⟨gq, oq, none⟩)) rfl rfl (by kernel_rfl) (by kernel_rfl) (by kernel_rfl) (fun _ _ _ h => h) (.inl ⟨by kernel_rfl, fun w' hs => ?_⟩) hS23 ?_
  · go_simp
  refine AnyH_takeD (fun _ => trivial) (by kernel_rfl) 62 160 (.slice ar 2 cr) rfl rfl (by kernel_rfl) (by kernel_rfl) (by kernel_rfl) (fun _ _ _ h => h) (.inl ⟨by kernel_rfl, fun w' hs => ?_⟩) hS23 ?_
  · obtain ⟨q0, q1, q2, q3, q4⟩ := hs
    go_simp
  have hSW : ∀ W, Below w23.heap.size w23 W → (W.cell? ⟨w13.heap.size, 1, none⟩ = some (.slice an 2 cn) ∧ W.cell? ⟨gl, ol, none⟩ = some (.slice ap 2 cp) ∧ W.cell? ⟨gl, ol + 4, none⟩ = some (.slice ax 2 cx) ∧ W.cell? ⟨gl, ol + 5 + 2, none⟩ = some (.bool false) ∧ W.cell? ⟨gq, oq, none⟩ = some (.slice ar 2 cr)) := fun W hW => (HALL.out W (HL23.out.trans (hW.mono hz23))).1
  have HSW := hid hSW
  clear hSW
  have hb0 : Below w23.heap.size w23 w23 := Below.refl _ _
  refine AnyH_two (i := 63) (j := 65) (by kernel_rfl) rfl rfl (by kernel_rfl) (by kernel_rfl) (fun K hK => ?_) (fun K hK => ?_)
  · go_simp
    obtain ⟨w1, hw1⟩ : ∃ w1, w23.alloc (.cells #[.int .i64 3] 3) = w1 := ⟨_, rfl⟩
    have hl1 : Below w23.heap.size w23 w1 := by rw [← hw1]; exact hb0.alloc (Nat.le_refl _) _
    have k1 : w1.cell? ⟨w23.heap.size, 0, none⟩ = some (.int .i64 3) := by rw [← hw1]; exact cells_get (heap_alloc_new w23 _) (k := 0) rfl
    have z1 : w1.heap.size = w23.heap.size + 1 := by rw [← hw1]; simp
    have Z1 := hid z1
    have HL1 := hid hl1
    have K1 := hid k1
    rw [hw1]
    refine hK _ _ ⟨HSW.out _ hl1, ?_⟩
    clear hK hw1 hl1 k1 z1
    refine AnyH_two (i := 64) (j := 65) (by kernel_rfl) rfl rfl (by kernel_rfl) (by kernel_rfl) (fun K hK => ?_) (fun K hK => ?_)
    · go_simp
      refine ⟨trivial, (callsIn_wide.2 (K_any _ 3 w23.heap.size 1 w1 K1.out (by have := Z1.out; omega) (Nat.le_refl _))).mono ?_⟩
      rintro e w24 ⟨rfl, hb24⟩
      have hl24 := HL1.out.trans (hb24.mono HL1.out.size)
      have HL24 := hid hl24
      refine hK _ _ ⟨HSW.out _ hl24, ?_⟩
      clear hK hb24 hl24
      refine AnyH_one (i := 65) (by kernel_rfl) rfl (by kernel_rfl) (fun K hK => ?_)
      go_simp
      have hlx := HL24.out.alloc HL24.out.size (.cells #[.int .i64 6] 3)
      have HLX := hid hlx
      have KX := hid (cells_get (heap_alloc_new w24 (.cells #[.int .i64 6] 3)) (k := 0) (v := .int .i64 6) rfl)
      refine hK _ _ ⟨HSW.out _ hlx, ?_⟩
      clear hK hlx
      refine AnyH_one (i := 66) (by kernel_rfl) rfl (by kernel_rfl) (fun K hK => ?_)
      go_simp
      refine ⟨trivial, (callsIn_wide.2 (K_any _ 6 w24.heap.size 1 _ KX.out (by simp) (Nat.le_refl _))).mono ?_⟩
      rintro e w25 ⟨rfl, hb25⟩
      have hl25 := HLX.out.trans (hb25.mono HLX.out.size)
      have HL25 := hid hl25
      refine hK _ _ ⟨HSW.out _ hl25, ?_⟩
      clear hK hb25 hl25
      refine AnyH_one (i := 67) (by kernel_rfl) rfl (by kernel_rfl) (fun K hK => ?_)
      go_simp
      have hbK : Below w25.heap.size w25 (w25.alloc (.cells #[.string ⟨#[98, 101, 100]⟩, .bool true, .int .i64 3, .string ⟨#[114, 97, 107, 101, 100]⟩, .bool true, .int .i64 6] 71)) := (Below.refl _ _).alloc (Nat.le_refl _) _
      have hkK := heap_alloc_new w25 (.cells #[.string ⟨#[98, 101, 100]⟩, .bool true, .int .i64 3, .string ⟨#[114, 97, 107, 101, 100]⟩, .bool true, .int .i64 6] 71)
      have hl26 := HL25.out.trans (hbK.mono HL25.out.size)
      have hz25 := HL25.out.size
      have pK : Pth (fun b => b < w25.heap.size + 1) (w25.alloc (.cells #[.string ⟨#[98, 101, 100]⟩, .bool true, .int .i64 3, .string ⟨#[114, 97, 107, 101, 100]⟩, .bool true, .int .i64 6] 71)) (.slice (some ⟨w25.heap.size, 0, none⟩) 2 2) [bed3, raked6] := slc_block (k := 3) (n := 2) hkK (by simp) rfl (by simp [maxLen])
      have EK := hid (eqKeys_any [bed3, raked6] [bed3, raked6] ar (some ⟨w25.heap.size, 0, none⟩) cr 2 (fun b => b < w25.heap.size + 1) _ ((HP23.out.agree (Agree.of_below hl26 (fun b hb => by omega))).wide (fun b hb => by omega)) pK (by decide) (by decide))
      rw [decide_eq_true rfl] at EK
      have HL26 := hid hl26
      refine hK _ _ ⟨HSW.out _ hl26, ?_⟩
      clear hK hkK pK hbK hl26
      refine AnyH_one (i := 68) (by kernel_rfl) rfl (by kernel_rfl) (fun K hK => ?_)
      go_simp
      refine ⟨trivial, (callsIn_wide.2 EK.out).mono ?_⟩
      rintro e w27 ⟨rfl, hb27⟩
      have hl27 := HL26.out.trans (hb27.mono HL26.out.size)
      have hS27 := HSW.out _ hl27
      have HL27 := hid hl27
      refine hK _ _ ⟨hS27, ?_⟩
      clear hK hb27 hl27 EK
      refine AnyH_takeD (fun _ => trivial) (by kernel_rfl) 69 167 (.bool true) rfl rfl (by kernel_rfl) (by kernel_rfl) (by kernel_rfl) (fun _ _ _ h => h) (.inl ⟨by kernel_rfl, fun w' hs => ?_⟩) hS27 ?_
      · go_simp
      refine AnyH_takeD (fun _ => trivial) (by kernel_rfl) 70 0 (.bool true) rfl rfl (by kernel_rfl) (by kernel_rfl) (by kernel_rfl) (fun _ _ _ h => h) (.inl ⟨by kernel_rfl, fun w' hs => ?_⟩) hS27 ?_
      · go_simp
      refine AnyH_done (by kernel_rfl) ?_
      go_simp
      clear hS27
      go_wp2_with fail
      go_ret
      have e1 := HB19.out.size
      exact ⟨rfl, HB19.out.trans ((HL23.out.trans (HL27.out.mono hz23)).mono e1)⟩
    · go_simp
      obtain ⟨w2, hw2⟩ : ∃ w2, w1.alloc (.cells #[.int .i64 6] 3) = w2 := ⟨_, rfl⟩
      have hl2 : Below w23.heap.size w23 w2 := by rw [← hw2]; exact HL1.out.alloc HL1.out.size _
      have k2 : w2.cell? ⟨w1.heap.size, 0, none⟩ = some (.int .i64 6) := by rw [← hw2]; exact cells_get (heap_alloc_new w1 _) (k := 0) rfl
      have z2 : w2.heap.size = w1.heap.size + 1 := by rw [← hw2]; simp
      have k3 : w2.cell? ⟨w23.heap.size, 0, none⟩ = some (.int .i64 3) := by rw [← hw2]; exact below_cell ((Below.refl w1.heap.size _).alloc (Nat.le_refl _) _) (by have := Z1.out; omega) K1.out
      have Z2 := hid z2
      have HL2 := hid hl2
      have K2 := hid k2
      have K3 := hid k3
      rw [hw2]
      refine hK _ _ ⟨HSW.out _ hl2, ?_⟩
      clear hK hw2 hl2 k2 k3 z2
      refine AnyH_one (i := 64) (by kernel_rfl) rfl (by kernel_rfl) (fun K hK => ?_)
      go_simp
      refine ⟨trivial, (callsIn_wide.2 (K_any _ 3 w23.heap.size 1 w2 K3.out (by have := Z1.out; have := Z2.out; omega) (Nat.le_refl _))).mono ?_⟩
      rintro e w24 ⟨rfl, hb24⟩
      have hl24 := HL2.out.trans (hb24.mono HL2.out.size)
      have HL24 := hid hl24
      have z24 : w1.heap.size < w24.heap.size := by have := Z2.out; have := hb24.size; omega
      have KX := hid (below_cell hb24 (by have := Z2.out; omega) K2.out)
      refine hK _ _ ⟨HSW.out _ hl24, ?_⟩
      clear hK hb24 hl24
      refine AnyH_one (i := 66) (by kernel_rfl) rfl (by kernel_rfl) (fun K hK => ?_)
      go_simp
      refine ⟨trivial, (callsIn_wide.2 (K_any _ 6 w1.heap.size 1 w24 KX.out z24 (Nat.le_refl _))).mono ?_⟩
      rintro e w25 ⟨rfl, hb25⟩
      have hl25 := HL24.out.trans (hb25.mono HL24.out.size)
      have HL25 := hid hl25
      refine hK _ _ ⟨HSW.out _ hl25, ?_⟩
      clear hK hb25 hl25 z24
      refine AnyH_one (i := 67) (by kernel_rfl) rfl (by kernel_rfl) (fun K hK => ?_)
      go_simp
      have hbK : Below w25.heap.size w25 (w25.alloc (.cells #[.string ⟨#[98, 101, 100]⟩, .bool true, .int .i64 3, .string ⟨#[114, 97, 107, 101, 100]⟩, .bool true, .int .i64 6] 71)) := (Below.refl _ _).alloc (Nat.le_refl _) _
      have hkK := heap_alloc_new w25 (.cells #[.string ⟨#[98, 101, 100]⟩, .bool true, .int .i64 3, .string ⟨#[114, 97, 107, 101, 100]⟩, .bool true, .int .i64 6] 71)
      have hl26 := HL25.out.trans (hbK.mono HL25.out.size)
      have hz25 := HL25.out.size
      have pK : Pth (fun b => b < w25.heap.size + 1) (w25.alloc (.cells #[.string ⟨#[98, 101, 100]⟩, .bool true, .int .i64 3, .string ⟨#[114, 97, 107, 101, 100]⟩, .bool true, .int .i64 6] 71)) (.slice (some ⟨w25.heap.size, 0, none⟩) 2 2) [bed3, raked6] := slc_block (k := 3) (n := 2) hkK (by simp) rfl (by simp [maxLen])
      have EK := hid (eqKeys_any [bed3, raked6] [bed3, raked6] ar (some ⟨w25.heap.size, 0, none⟩) cr 2 (fun b => b < w25.heap.size + 1) _ ((HP23.out.agree (Agree.of_below hl26 (fun b hb => by omega))).wide (fun b hb => by omega)) pK (by decide) (by decide))
      rw [decide_eq_true rfl] at EK
      have HL26 := hid hl26
      refine hK _ _ ⟨HSW.out _ hl26, ?_⟩
      clear hK hkK pK hbK hl26
      refine AnyH_one (i := 68) (by kernel_rfl) rfl (by kernel_rfl) (fun K hK => ?_)
      go_simp
      refine ⟨trivial, (callsIn_wide.2 EK.out).mono ?_⟩
      rintro e w27 ⟨rfl, hb27⟩
      have hl27 := HL26.out.trans (hb27.mono HL26.out.size)
      have hS27 := HSW.out _ hl27
      have HL27 := hid hl27
      refine hK _ _ ⟨hS27, ?_⟩
      clear hK hb27 hl27 EK
      refine AnyH_takeD (fun _ => trivial) (by kernel_rfl) 69 167 (.bool true) rfl rfl (by kernel_rfl) (by kernel_rfl) (by kernel_rfl) (fun _ _ _ h => h) (.inl ⟨by kernel_rfl, fun w' hs => ?_⟩) hS27 ?_
      · go_simp
      refine AnyH_takeD (fun _ => trivial) (by kernel_rfl) 70 0 (.bool true) rfl rfl (by kernel_rfl) (by kernel_rfl) (by kernel_rfl) (fun _ _ _ h => h) (.inl ⟨by kernel_rfl, fun w' hs => ?_⟩) hS27 ?_
      · go_simp
      refine AnyH_done (by kernel_rfl) ?_
      go_simp
      clear hS27
      go_wp2_with fail
      go_ret
      have e1 := HB19.out.size
      exact ⟨rfl, HB19.out.trans ((HL23.out.trans (HL27.out.mono hz23)).mono e1)⟩
  · go_simp
    obtain ⟨w1, hw1⟩ : ∃ w1, w23.alloc (.cells #[.int .i64 6] 3) = w1 := ⟨_, rfl⟩
    have hl1 : Below w23.heap.size w23 w1 := by rw [← hw1]; exact hb0.alloc (Nat.le_refl _) _
    have k1 : w1.cell? ⟨w23.heap.size, 0, none⟩ = some (.int .i64 6) := by rw [← hw1]; exact cells_get (heap_alloc_new w23 _) (k := 0) rfl
    have z1 : w1.heap.size = w23.heap.size + 1 := by rw [← hw1]; simp
    have Z1 := hid z1
    have HL1 := hid hl1
    have K1 := hid k1
    rw [hw1]
    refine hK _ _ ⟨HSW.out _ hl1, ?_⟩
    clear hK hw1 hl1 k1 z1
    refine AnyH_one (i := 63) (by kernel_rfl) rfl (by kernel_rfl) (fun K hK => ?_)
    go_simp
    obtain ⟨w2, hw2⟩ : ∃ w2, w1.alloc (.cells #[.int .i64 3] 3) = w2 := ⟨_, rfl⟩
    have hl2 : Below w23.heap.size w23 w2 := by rw [← hw2]; exact HL1.out.alloc HL1.out.size _
    have k2 : w2.cell? ⟨w1.heap.size, 0, none⟩ = some (.int .i64 3) := by rw [← hw2]; exact cells_get (heap_alloc_new w1 _) (k := 0) rfl
    have z2 : w2.heap.size = w1.heap.size + 1 := by rw [← hw2]; simp
    have k3 : w2.cell? ⟨w23.heap.size, 0, none⟩ = some (.int .i64 6) := by rw [← hw2]; exact below_cell ((Below.refl w1.heap.size _).alloc (Nat.le_refl _) _) (by have := Z1.out; omega) K1.out
    have Z2 := hid z2
    have HL2 := hid hl2
    have K2 := hid k2
    have K3 := hid k3
    rw [hw2]
    refine hK _ _ ⟨HSW.out _ hl2, ?_⟩
    clear hK hw2 hl2 k2 k3 z2
    refine AnyH_one (i := 64) (by kernel_rfl) rfl (by kernel_rfl) (fun K hK => ?_)
    go_simp
    refine ⟨trivial, (callsIn_wide.2 (K_any _ 3 w1.heap.size 1 w2 K2.out (by have := Z2.out; omega) (Nat.le_refl _))).mono ?_⟩
    rintro e w24 ⟨rfl, hb24⟩
    have hl24 := HL2.out.trans (hb24.mono HL2.out.size)
    have HL24 := hid hl24
    have z24 : w23.heap.size < w24.heap.size := by have := Z1.out; have := Z2.out; have := hb24.size; omega
    have KX := hid (below_cell hb24 (by have := Z1.out; have := Z2.out; omega) K3.out)
    refine hK _ _ ⟨HSW.out _ hl24, ?_⟩
    clear hK hb24 hl24
    refine AnyH_one (i := 66) (by kernel_rfl) rfl (by kernel_rfl) (fun K hK => ?_)
    go_simp
    refine ⟨trivial, (callsIn_wide.2 (K_any _ 6 w23.heap.size 1 w24 KX.out z24 (Nat.le_refl _))).mono ?_⟩
    rintro e w25 ⟨rfl, hb25⟩
    have hl25 := HL24.out.trans (hb25.mono HL24.out.size)
    have HL25 := hid hl25
    refine hK _ _ ⟨HSW.out _ hl25, ?_⟩
    clear hK hb25 hl25 z24
    refine AnyH_one (i := 67) (by kernel_rfl) rfl (by kernel_rfl) (fun K hK => ?_)
    go_simp
    have hbK : Below w25.heap.size w25 (w25.alloc (.cells #[.string ⟨#[98, 101, 100]⟩, .bool true, .int .i64 3, .string ⟨#[114, 97, 107, 101, 100]⟩, .bool true, .int .i64 6] 71)) := (Below.refl _ _).alloc (Nat.le_refl _) _
    have hkK := heap_alloc_new w25 (.cells #[.string ⟨#[98, 101, 100]⟩, .bool true, .int .i64 3, .string ⟨#[114, 97, 107, 101, 100]⟩, .bool true, .int .i64 6] 71)
    have hl26 := HL25.out.trans (hbK.mono HL25.out.size)
    have hz25 := HL25.out.size
    have pK : Pth (fun b => b < w25.heap.size + 1) (w25.alloc (.cells #[.string ⟨#[98, 101, 100]⟩, .bool true, .int .i64 3, .string ⟨#[114, 97, 107, 101, 100]⟩, .bool true, .int .i64 6] 71)) (.slice (some ⟨w25.heap.size, 0, none⟩) 2 2) [bed3, raked6] := slc_block (k := 3) (n := 2) hkK (by simp) rfl (by simp [maxLen])
    have EK := hid (eqKeys_any [bed3, raked6] [bed3, raked6] ar (some ⟨w25.heap.size, 0, none⟩) cr 2 (fun b => b < w25.heap.size + 1) _ ((HP23.out.agree (Agree.of_below hl26 (fun b hb => by omega))).wide (fun b hb => by omega)) pK (by decide) (by decide))
    rw [decide_eq_true rfl] at EK
    have HL26 := hid hl26
    refine hK _ _ ⟨HSW.out _ hl26, ?_⟩
    clear hK hkK pK hbK hl26
    refine AnyH_one (i := 68) (by kernel_rfl) rfl (by kernel_rfl) (fun K hK => ?_)
    go_simp
    refine ⟨trivial, (callsIn_wide.2 EK.out).mono ?_⟩
    rintro e w27 ⟨rfl, hb27⟩
    have hl27 := HL26.out.trans (hb27.mono HL26.out.size)
    have hS27 := HSW.out _ hl27
    have HL27 := hid hl27
    refine hK _ _ ⟨hS27, ?_⟩
    clear hK hb27 hl27 EK
    refine AnyH_takeD (fun _ => trivial) (by kernel_rfl) 69 167 (.bool true) rfl rfl (by kernel_rfl) (by kernel_rfl) (by kernel_rfl) (fun _ _ _ h => h) (.inl ⟨by kernel_rfl, fun w' hs => ?_⟩) hS27 ?_
    · go_simp
    refine AnyH_takeD (fun _ => trivial) (by kernel_rfl) 70 0 (.bool true) rfl rfl (by kernel_rfl) (by kernel_rfl) (by kernel_rfl) (fun _ _ _ h => h) (.inl ⟨by kernel_rfl, fun w' hs => ?_⟩) hS27 ?_
    · go_simp
    refine AnyH_done (by kernel_rfl) ?_
    go_simp
    clear hS27
    go_wp2_with fail
    go_ret
    have e1 := HB19.out.size
    exact ⟨rfl, HB19.out.trans ((HL23.out.trans (HL27.out.mono hz23)).mono e1)⟩
end Go.Proofs.LF
namespace Go.Proofs.LF
open Go.RowKit Go.Sort
set_option maxHeartbeats 4000000
set_option maxRecDepth 100000
attribute [local go_sem] bs_toList bs_size bs_get
theorem refCheck_any (y : Fo) (a : Option Addr) (c : Nat) (S : Nat → Prop) (w : World) (hv : FSl S w (.slice a y.len c) y) (hS : ∀ b, S b → b < w.heap.size) (hlen : y.len ≤ 1000) (hsm : y.Sm) :
    Calls Tryz.prog 21 #[.slice a y.len c] w fun e w' => e = .returned (.int .i64 (chkY y)) ∧ Below w.heap.size w w' := by
  have HM := hid (many_any (y.cnt + 1) y 60 a c S w (Nat.lt_succ_self _) (by decide) (by decide) hv hS)
  have HC := hid (check_any (y.cnt + 1) y 0 a c S w (Nat.lt_succ_self _) (by decide) (by decide) hv hS hlen hsm)
  have hq := refChk_eq y
  unfold refChk at hq
  by_cases h : 60 < many y 60
  · rw [if_pos h] at hq
    have HQ := hid hq
    clear hq
    go_enter Tryz.func21, Tryz.ntmps21
    go_wp2_with fail
    refine HM.out.mono ?_
    rintro e w' ⟨rfl, rfl⟩
    go_wp2_with fail
    go_ret
    exact ⟨ret_int HQ.out, Below.refl _ _⟩
  · rw [if_neg h] at hq
    have HQ := hid hq
    clear hq
    go_enter Tryz.func21, Tryz.ntmps21
    go_wp2_with fail
    refine HM.out.mono ?_
    rintro e w' ⟨rfl, rfl⟩
    go_wp2_with fail
    refine HC.out.mono ?_
    rintro e w1 ⟨rfl, hb⟩
    go_wp2_with fail
    go_ret
    exact ⟨ret_int HQ.out, hb⟩
theorem FileYears_any (y : Fo) (a : Option Addr) (c : Nat) (S : Nat → Prop) (w : World) (hv : FSl S w (.slice a y.len c) y) (hS : ∀ b, S b → b < w.heap.size) (ht : Pow w) :
    Calls Tryz.prog 3 #[.slice a y.len c] w fun e w' => e = .returned (.bool true) ∧ Below w.heap.size w w' := by
  have HD := hid (deep_any y a c S w hv hS)
  have HV := hid hv
  have HS := hid hS
  have HT := hid ht
  clear hv hS ht
  by_cases hdp : 80 < cntG 0 0 y
  · have hd : decide (80 < cntG 0 0 y) = true := decide_eq_true hdp
    go_enter Tryz.func3, Tryz.ntmps3
    go_wp2_with fail
    refine HD.out.mono ?_
    rintro e w1 ⟨rfl, hb1⟩
    rw [hd]
    have HB1 := hid hb1
    have AW := hid (awake_any w1 (HT.out.below hb1))
    clear hb1
    go_wp2_with fail
    refine AW.out.mono ?_
    rintro e w2 ⟨rfl, hb2⟩
    go_wp2_with fail
    go_ret
    exact ⟨rfl, HB1.out.trans (hb2.mono HB1.out.size)⟩
  · have hd : decide (80 < cntG 0 0 y) = false := decide_eq_false hdp
    obtain ⟨n1, n2, n3⟩ := deep_no hdp
    have HN2 := hid n2
    have n3' : y.len ≤ 1000 := by omega
    have HOK := hid (show chkY y = 0 → ∀ x ∈ nodesL [] y, OkN x from fun h => ordG_ok y _ _ [] (chk_ord h))
    obtain ⟨n, hn⟩ : ∃ n, chkY y = n := ⟨_, rfl⟩
    obtain ⟨tx, htx⟩ : ∃ tx, (if n = 0 then txtL (nodesL [] y) else []) = tx := ⟨_, rfl⟩
    have HN := hid hn
    have HTX := hid htx
    clear hdp n2 hn htx
    go_enter Tryz.func3, Tryz.ntmps3
    go_wp2_with fail
    refine HD.out.mono ?_
    rintro e w1 ⟨rfl, hb1⟩
    rw [hd]
    have HB1 := hid hb1
    have O1 := hid (Own_any (y.cnt + 1) y a c S w1 (Nat.lt_succ_self _) (HV.out.agree (Agree.of_below hb1 HS.out)) (fun b hb => by have := HS.out b hb; have := hb1.size; omega) n3' HN2.out)
    clear hb1 hd HD
    go_wp2_with fail
    refine O1.out.mono ?_
    rintro e w2 ⟨a2, c2, rfl, hF2, hb2⟩
    have HB2 := hid (HB1.out.trans (hb2.mono HB1.out.size))
    have HF2 := hid (hF2.wide (S' := fun b => b < w2.heap.size) (fun b hb => hb.2))
    have T2 := hid (theirs_any (y.cnt + 1) y a c S w2 (Nat.lt_succ_self _) (HV.out.agree (Agree.of_below HB2.out HS.out)) (fun b hb => by have := HS.out b hb; have := HB2.out.size; omega) n3' HN2.out)
    clear hF2 hb2 O1
    go_wp2_with fail
    refine T2.out.mono ?_
    rintro e w3 ⟨a3, c3, rfl, hF3, hb3⟩
    have HB3 := hid (HB2.out.trans (hb3.mono HB2.out.size))
    have hz3 := hb3.size
    have HO3 := hid ((HF2.out.agree (Agree.of_below hb3 (fun b hb => hb))).wide (S' := fun b => b < w3.heap.size) (fun b hb => by omega))
    have HX3 := hid (hF3.wide (S' := fun b => b < w3.heap.size) (fun b hb => hb.2))
    have r3 := refCheck_any y a3 c3 _ w3 HX3.out (fun b hb => hb) n3' HN2.out
    rw [HN.out] at r3
    have R3 := hid r3
    clear r3
    clear hF3 hb3 T2 HF2
    go_wp2_with fail
    refine R3.out.mono ?_
    rintro e w4 ⟨rfl, hb4⟩
    have HL4 := hid hb4
    have HB4 := hid (HB3.out.trans (hb4.mono HB3.out.size))
    have hz4 := hb4.size
    have p4 := Print_any y a2 c2 _ w4 (HO3.out.agree (Agree.of_below hb4 (fun b hb => hb))) (fun b hb => by omega) n3' HN2.out (by omega) (HT.out.below HB4.out)
    rw [HN.out, HTX.out] at p4
    have P4 := hid p4
    clear p4
    clear hb4 R3
    go_wp2_with fail
    refine P4.out.mono ?_
    rintro e w5 ⟨rfl, hb5⟩
    have hl5 := HL4.out.trans (hb5.mono hz4)
    have HL5 := hid hl5
    have HB5 := hid (HB3.out.trans (hl5.mono HB3.out.size))
    have hz5 := hl5.size
    have c5 := Check_any y a2 c2 _ w5 (HO3.out.agree (Agree.of_below hl5 (fun b hb => hb))) (fun b hb => by omega) n3' HN2.out (by omega)
    rw [HN.out] at c5
    have C5 := hid c5
    clear c5
    clear hb5 hl5 P4
    go_wp2_with fail
    refine C5.out.mono ?_
    rintro e w6 ⟨rfl, hb6⟩
    have hl6 := HL5.out.trans (hb6.mono hz5)
    have HL6 := hid hl6
    have HB6 := hid (HB3.out.trans (hl6.mono HB3.out.size))
    have hz6 := hl6.size
    clear hb6 hl6 C5
    by_cases hc : n = 0
    · subst hc
      have r6 := RefPrint_any y a3 c3 _ w6 (HX3.out.agree (Agree.of_below HL6.out (fun b hb => hb))) (fun b hb => by omega) n3' HN2.out (by omega) (HOK.out HN.out)
      have htx := HTX.out
      rw [if_pos rfl] at htx
      rw [htx] at r6
      have R6 := hid r6
      clear htx r6 HOK HN HTX
      go_wp2_with fail
      refine R6.out.mono ?_
      rintro e w7 ⟨rfl, hb7⟩
      have hl7 := HL6.out.trans (hb7.mono hz6)
      have HB7 := hid (HB3.out.trans (hl7.mono HB3.out.size))
      have hz7 := hl7.size
      have A7 := hid ((alike_any (y.cnt + 1)).2 y y a2 c2 a c (fun b => b < w7.heap.size) w7 (Nat.lt_succ_self _) ((HO3.out.agree (Agree.of_below hl7 (fun b hb => hb))).wide (fun b hb => by omega)) ((HV.out.agree (Agree.of_below HB7.out HS.out)).wide (fun b hb => by have := HS.out b hb; have := HB7.out.size; omega)) (fun b hb => hb) n3' n3' HN2.out HN2.out)
      rw [decide_eq_true rfl] at A7
      clear hb7 hl7 R6
      go_wp2_with fail
      refine A7.out.mono ?_
      rintro e w8 ⟨rfl, hb8⟩
      have HB8 := hid (HB7.out.trans (hb8.mono HB7.out.size))
      have AW := hid (awake_any w8 (HT.out.below HB8.out))
      clear hb8 A7
      go_wp2_with fail
      refine AW.out.mono ?_
      rintro e w9 ⟨rfl, hb9⟩
      go_wp2_with fail
      go_ret
      exact ⟨rfl, HB8.out.trans (hb9.mono HB8.out.size)⟩
    · have htx := HTX.out
      rw [if_neg hc] at htx
      subst htx
      have hc' : (n != 0) = true := by simpa using hc
      have A7 := hid ((alike_any (y.cnt + 1)).2 y y a2 c2 a c (fun b => b < w6.heap.size) w6 (Nat.lt_succ_self _) ((HO3.out.agree (Agree.of_below HL6.out (fun b hb => hb))).wide (fun b hb => by omega)) ((HV.out.agree (Agree.of_below HB6.out HS.out)).wide (fun b hb => by have := HS.out b hb; have := HB6.out.size; omega)) (fun b hb => hb) n3' n3' HN2.out HN2.out)
      rw [decide_eq_true rfl] at A7
      clear hc HOK HN HTX
      go_wp2_with fail
      refine A7.out.mono ?_
      rintro e w8 ⟨rfl, hb8⟩
      have HB8 := hid (HB6.out.trans (hb8.mono HB6.out.size))
      have AW := hid (awake_any w8 (HT.out.below HB8.out))
      clear hb8 A7
      go_wp2_with fail
      refine AW.out.mono ?_
      rintro e w9 ⟨rfl, hb9⟩
      go_wp2_with fail
      go_ret
      exact ⟨rfl, HB8.out.trans (hb9.mono HB8.out.size)⟩
end Go.Proofs.LF
namespace Go.Proofs.LF
open Go.RowKit
set_option maxRecDepth 100000
theorem cells22 : Tryz.prog.cellsOf 85 = 3 := by kernel_rfl
theorem cells3 : Tryz.prog.cellsOf 3 = 1 := by kernel_rfl
theorem cells9 : Tryz.prog.cellsOf 9 = 1 := by kernel_rfl
theorem cells66 : Tryz.prog.cellsOf 66 = 1 := by kernel_rfl
theorem cells22' : Tryz.prog.cellsOf 22 = 1 := by kernel_rfl
section
variable {H : Type} {enc : TypeId × Value → H} {W : World}
theorem cell_plain {a : Addr} {v : Value} (h : W.cell? a = some v) : a.spot = none ∧ a.block < W.heap.size := by
  unfold World.cell? at h
  split at h
  · rename_i c t f hb
    split at h
    · cases h
    · rename_i hs
      exact ⟨by simpa using hs, (Array.getElem?_eq_some_iff.1 hb).1⟩
  · cases h
theorem add_plain (a : Addr) (h : a.spot = none) (i : Nat) : a.add i = ⟨a.block, a.off + i, none⟩ := by
  unfold Addr.add
  split
  · rename_i h0
    subst h0
    cases a
    simp only at h
    subst h
    rfl
  · rfl
theorem read_ints {fuel : Nat} {v : Value} {x : DataW H × List MemPlace} (h : DataW.trod enc Tryz.prog W 0 (fun _ => true) true fuel 66 [v] = some x) : ∃ l, Ints (fun b => b < W.heap.size) W v l := by
  rcases Go.ChangeShapes.open_ints Tryz.underlying66 Tryz.underlying3 cells3 h with ⟨hc, _⟩ | ⟨a, len, cap, zs, hc, _, hl, hm, hz, _, hcell, _⟩
  · obtain rfl : v = _ := by simpa using hc
    exact ⟨[], rfl, none, 0, rfl, Nat.le_refl _, by simp [maxLen], fun _ => rfl, .inl rfl⟩
  · obtain rfl : v = _ := by simpa using hc
    simp only [if_true] at hz
    have hlen : (zs.take len).length = len := by rw [List.length_take]; omega
    refine ⟨zs.take len, ?_⟩
    unfold Ints
    rw [hlen]
    refine ⟨by simp; omega, some a, cap, rfl, hl, hm, (fun h => by cases h), ?_⟩
    by_cases h0 : len = 0
    · exact .inl h0
    · have hs := cell_plain (hcell 0 (by omega))
      have h1 := hs.1
      have hadd0 : (a.add 0) = a := rfl
      rw [hadd0] at hs
      refine .inr ⟨a.block, a.off, by cases a; simp only at hs; rw [hs.1], hs.2, fun j u hj => ?_⟩
      simp only [List.getElem?_map, Option.map_eq_some_iff, List.getElem?_take] at hj
      obtain ⟨z, hz', rfl⟩ := hj
      split at hz'
      · have hj' := (List.getElem?_eq_some_iff.1 hz').1
        have := hcell j hj'
        rw [add_plain a hs.1] at this
        rw [this, List.getD_eq_getElem?_getD, hz']; rfl
      · cases hz'
theorem read_nodes : ∀ (fuel : Nat) (v : Value) (x : DataW H × List MemPlace), DataW.trod enc Tryz.prog W 0 (fun _ => true) true fuel 22 [v] = some x → ∃ y, FSl (fun b => b < W.heap.size) W v y := by
  intro fuel
  induction fuel using Nat.strongRecOn with
  | _ fuel ih =>
  intro v x h
  rcases DataW.trod_slice Tryz.underlying22 h with ⟨hc, _⟩ | ⟨a, len, cap, elems, rest, n, hfu, hc, _, hb, hl, hm, hlen, hel, _, _⟩
  · obtain rfl : v = _ := by simpa using hc
    exact ⟨.nil, [], ⟨rfl, none, 0, rfl, Nat.le_refl _, by simp [maxLen], fun _ => rfl, .inl rfl⟩, rfl⟩
  · obtain rfl : v = _ := by simpa using hc
    rw [cells22] at hel
    have each : ∀ i, i < len → ∃ s l y vn vs, W.cell? (a.add (i * 3)) = some (.string s) ∧ W.cell? ((a.add (i * 3)).add 1) = some vn ∧ W.cell? ((a.add (i * 3)).add 2) = some vs ∧ Ints (fun b => b < W.heap.size) W vn l ∧ FSl (fun b => b < W.heap.size) W vs y := by
      intro i hi
      have h1 := hel i hi
      rw [List.getElem?_eq_getElem (by omega)] at h1
      obtain ⟨cs', hcs, hx⟩ := Option.bind_eq_some_iff.1 h1
      obtain ⟨_, hcl, hcc⟩ := World.cells?_some hcs
      obtain ⟨xs, m, hnm, _, _, hxl, hfs⟩ := DataW.trod_struct Tryz.underlying85 hx
      match cs', hcl with
      | [c0, c1, c2], _ =>
        have f0 := hfs 0 _ rfl
        have f1 := hfs 1 _ rfl
        have f2 := hfs 2 _ rfl
        change DataW.trod enc Tryz.prog W 0 (fun _ => true) true m 9 (([c0, c1, c2].drop 0).take (Tryz.prog.cellsOf 9)) = xs[0]? at f0
        change DataW.trod enc Tryz.prog W 0 (fun _ => true) true m 66 (([c0, c1, c2].drop 1).take (Tryz.prog.cellsOf 66)) = xs[1]? at f1
        change DataW.trod enc Tryz.prog W 0 (fun _ => true) true m 22 (([c0, c1, c2].drop 2).take (Tryz.prog.cellsOf 22)) = xs[2]? at f2
        rw [cells9] at f0
        rw [cells66] at f1
        rw [cells22'] at f2
        have g0 : DataW.trod enc Tryz.prog W 0 (fun _ => true) true m 9 [c0] = xs[0]? := f0
        have g1 : DataW.trod enc Tryz.prog W 0 (fun _ => true) true m 66 [c1] = xs[1]? := f1
        have g2 : DataW.trod enc Tryz.prog W 0 (fun _ => true) true m 22 [c2] = xs[2]? := f2
        have hx3 : xs.length = 3 := hxl
        rw [List.getElem?_eq_getElem (by omega)] at g0 g1 g2
        obtain ⟨s, hs, _⟩ := DataW.trod_string Tryz.underlying9 g0
        obtain rfl : c0 = .string s := by simpa using hs
        obtain ⟨l, hI⟩ := read_ints g1
        obtain ⟨y, hF⟩ := ih m (by omega) c2 _ g2
        have e0 := hcc 0 (by omega)
        have e1 := hcc 1 (by omega)
        have e2 := hcc 2 (by omega)
        exact ⟨s, l, y, c1, c2, e0, e1, e2, hI, hF⟩
    have all : ∀ k, k ≤ len → ∃ y ds, y.len = k ∧ ds.length = k * 3 ∧ FCs (fun b => b < W.heap.size) W y ds ∧ ∀ j u, ds[j]? = some u → W.cell? ⟨a.block, a.off + j, none⟩ = some u := by
      intro k
      induction k with
      | zero => intro _; exact ⟨.nil, [], rfl, rfl, rfl, fun j u hj => by simp at hj⟩
      | succ k ihk =>
        intro hk
        obtain ⟨y, ds, h1, h2, h3, h4⟩ := ihk (by omega)
        obtain ⟨s, l, z, vn, vs, c0, c1, c2, hI, hF⟩ := each k (by omega)
        have hsp : a.spot = none := by
          obtain ⟨s0, _, _, _, _, d0, _⟩ := each 0 (by omega)
          exact (cell_plain d0).1
        rw [add_plain a hsp, add_plain _ rfl] at c1 c2
        rw [add_plain a hsp] at c0
        obtain ⟨an, cn, rfl, _⟩ := SlC.shape hI
        obtain ⟨ab, cb, rfl, _, _, _⟩ := hF.at
        refine ⟨y.app (.cons s.data.toList l z .nil), ds ++ [.string (bs s.data.toList), .slice an l.length cn, .slice ab z.len cb], by rw [Fo.len_app, h1]; rfl, by simp [h2]; omega, h3.app (FCs.one hI hF), fun j u hj => ?_⟩
        by_cases hjl : j < ds.length
        · rw [List.getElem?_append_left hjl] at hj
          exact h4 j u hj
        · rw [List.getElem?_append_right (by omega)] at hj
          rw [bs_of] at hj
          have hj3 : j - ds.length < 3 := by have := (List.getElem?_eq_some_iff.1 hj).1; simpa using this
          obtain h | h | h : j = k * 3 ∨ j = k * 3 + 1 ∨ j = k * 3 + 2 := by omega
          · subst h
            rw [show k * 3 - ds.length = 0 by omega] at hj
            simp only [List.getElem?_cons_zero, Option.some.injEq] at hj
            rw [← hj]; exact c0
          · subst h
            rw [show k * 3 + 1 - ds.length = 1 by omega] at hj
            simp only [List.getElem?_cons_succ, List.getElem?_cons_zero, Option.some.injEq] at hj
            rw [← hj, ← Nat.add_assoc]; exact c1
          · subst h
            rw [show k * 3 + 2 - ds.length = 2 by omega] at hj
            simp only [List.getElem?_cons_succ, List.getElem?_cons_zero, Option.some.injEq] at hj
            rw [← hj, ← Nat.add_assoc]; exact c2
    obtain ⟨y, ds, h1, h2, h3, h4⟩ := all len (Nat.le_refl _)
    refine ⟨y, ds, ?_, h3⟩
    rw [h1]
    refine ⟨h2, some a, cap, rfl, hl, hm, (fun h => by cases h), ?_⟩
    by_cases h0 : len = 0
    · exact .inl h0
    · obtain ⟨s0, _, _, _, _, d0, _⟩ := each 0 (by omega)
      have hs := cell_plain d0
      exact .inr ⟨a.block, a.off, by cases a; have := hs.1; simp only [Addr.add] at this; simp at this; rw [this], hs.2, h4⟩
end
end Go.Proofs.LF
namespace Go.Proofs.LF
open Go.RowKit Go.Sort
set_option maxHeartbeats 4000000
set_option maxRecDepth 100000
attribute [local go_sem] bs_toList bs_size bs_get
def Byt (S : Nat → Prop) (w : World) (v : Value) (l : List Int) : Prop := SlC S w 1 v l.length (l.map (Value.int .u8))
def HpC (b : Nat) (a : Option Addr) (l : List Int) (c : Nat) (nx rd : Int) (w : World) : Prop := w.heap[b]? = some (.cells #[.slice a l.length c, .int .i64 nx, .int .u32 rd] 203 (0, 0))
def Hp (b : Nat) (S : Nat → Prop) (w : World) : Prop := ∃ (a : Option Addr) (l : List Int) (c : Nat) (nx rd : Int), HpC b a l c nx rd w ∧ 0 ≤ nx ∧ (nx = 0 ∨ nx < l.length) ∧ Byt S w (.slice a l.length c) l ∧ ∀ q, S q → q ≠ b
theorem and_low (X : Int) : 0 ≤ bits .and .u32 X 32767 ∧ bits .and .u32 X 32767 ≤ 32767 := by
  have h : (BitVec.ofInt 32 X &&& BitVec.ofInt 32 32767).toNat ≤ 32767 := by
    rw [BitVec.toNat_and]
    exact Nat.le_trans Nat.and_le_right (by decide)
  have h2 : bits .and .u32 X 32767 = IntKind.u32.wrap (((BitVec.ofInt 32 X &&& BitVec.ofInt 32 32767).toNat : Nat) : Int) := rfl
  rw [h2]
  generalize (BitVec.ofInt 32 X &&& BitVec.ofInt 32 32767).toNat = N at h
  have h3 : IntKind.u32.wrap (N : Int) = N := by
    unfold IntKind.wrap
    have : (N : Int) % 2 ^ IntKind.u32.bits = N := Int.emod_eq_of_lt (by omega) (by show (N : Int) < 2 ^ 32; omega)
    simp only [this]
    rfl
  rw [h3]; omega
theorem low_wrap {X : Int} : 0 ≤ wrap64 (bits .and .u32 X 32767) ∧ wrap64 (bits .and .u32 X 32767) ≤ 32767 := by
  have := and_low X
  unfold wrap64; omega
theorem HpC.keep {b : Nat} {S : Nat → Prop} {a : Option Addr} {l : List Int} {c : Nat} {nx' rd' : Int} {w w' : World} (hS : ∀ q, S q → q ≠ b) (hl : Byt S w (.slice a l.length c) l) (h0 : 0 ≤ nx') (h1 : nx' = 0 ∨ nx' < l.length)
    (hb : HpC b a l c nx' rd' w') (ho : w'.os = w.os) (ht : w'.tape = w.tape) (hu : w'.output = w.output) (hz : w'.heap.size = w.heap.size) (hh : ∀ q, q ≠ b → w'.heap[q]? = w.heap[q]?) : Hp b S w' ∧ Keep (· = b) w w' :=
  ⟨⟨a, l, c, nx', rd', hb, h0, h1, SlC.agree hl fun q hq => hh q (hS q hq), hS⟩, ⟨ho, ht, hu, by omega, fun q _ hq => hh q hq⟩⟩
theorem pick_any (b : Nat) (S : Nat → Prop) (w : World) (h : Hp b S w) : Calls Tryz.prog 239 #[.pointer (some ⟨b, 0, none⟩)] w fun e w' => ∃ r : Int, e = .returned (.int .i64 r) ∧ 0 ≤ r ∧ r ≤ 32767 ∧ Hp b S w' ∧ Keep (· = b) w w' := by
  obtain ⟨a, l, c, nx, rd, hb, h0, h1, hl, hS⟩ := h
  have k0 := cells_get hb (k := 0) rfl
  have k1 := cells_get hb (k := 1) rfl
  have k2 := cells_get hb (k := 2) rfl
  have f1 := cells_frz hb (k := 1)
  have f2 := cells_frz hb (k := 2)
  obtain ⟨hc1, hc2, _⟩ := SlC.caps hl
  by_cases hlt : nx < l.length
  · obtain ⟨g, o, rfl, hg, _, _, hcell⟩ := SlC.cells hl (by omega)
    obtain ⟨n, rfl⟩ : ∃ n : Nat, nx = n := ⟨nx.toNat, by omega⟩
    have hn : n < l.length := by omega
    have e0 := hcell n (.int .u8 l[n]) (by simp [hn])
    clear hcell
    have i1 : (0 : Int) ≤ (n : Int) := by omega
    go_enter Tryz.func239, Tryz.ntmps239
    go_wp2_with fail
    go_quiet (fail)
    go_wp2_with fail
    go_quiet (fail)
    go_wp2_with fail
    by_cases hge : (n : Int) + 1 < (l.length : Int)
    · go_quiet (fail)
      go_wp2_with fail
      go_ret
      refine ⟨_, rfl, low_wrap.1, low_wrap.2, HpC.keep hS hl (nx' := (n : Int) + 1) (rd' := rd) (by omega) (.inr hge) ?_ rfl rfl rfl (by simp [World.setCell]) (fun q hq => Below.heap_setCell _ _ _ _ hq)⟩
      have hb' := hb
      unfold HpC at hb' ⊢
      simp [World.setCell, World.drewN, Array.getElem?_modify, hb']
    · have hge' : (n : Int) + 1 ≥ (l.length : Int) := by omega
      go_quiet (fail)
      go_wp2_with fail
      go_ret
      refine ⟨_, rfl, low_wrap.1, low_wrap.2, HpC.keep hS hl (nx' := 0) (rd' := (rd + 1) % 4294967296) (by omega) (.inl rfl) ?_ rfl rfl rfl (by simp [World.setCell]) (fun q hq => (Below.heap_setCell _ _ _ _ hq).trans ((Below.heap_setCell _ _ _ _ hq).trans (Below.heap_setCell _ _ _ _ hq)))⟩
      have hb' := hb
      unfold HpC at hb' ⊢
      simp [World.setCell, World.drewN, Array.getElem?_modify, hb']
  · obtain rfl : nx = 0 := by omega
    have hl0 : l.length = 0 := by omega
    obtain rfl : l = [] := List.eq_nil_of_length_eq_zero hl0
    go_enter Tryz.func239, Tryz.ntmps239
    go_wp2_with fail
    go_quiet (fail)
    go_wp2_with fail
    go_quiet (fail)
    go_wp2_with fail
    go_ret
    refine ⟨_, rfl, low_wrap.1, low_wrap.2, HpC.keep hS hl (nx' := 0) (rd' := (rd + 1) % 4294967296) (by omega) (.inl rfl) ?_ rfl rfl rfl (by simp [World.setCell]) (fun q hq => (Below.heap_setCell _ _ _ _ hq).trans ((Below.heap_setCell _ _ _ _ hq).trans (Below.heap_setCell _ _ _ _ hq)))⟩
    have hb' := hb
    unfold HpC at hb' ⊢
    simp [World.setCell, World.drewN, Array.getElem?_modify, hb']
theorem Upto_any (b : Nat) (S : Nat → Prop) (w : World) (n : Nat) (hn : n ≤ 1000) (h : Hp b S w) : Calls Tryz.prog 200 #[.pointer (some ⟨b, 0, none⟩), .int .i64 n] w fun e w' => ∃ r : Nat, e = .returned (.int .i64 r) ∧ r ≤ n ∧ Hp b S w' ∧ Keep (· = b) w w' := by
  have PK := hid (pick_any b S w h)
  clear h
  have w1 : IntKind.i64.wrap ((n : Int) + 1) = (n : Int) + 1 := IntWalk.i64_in _ (by omega)
  go_enter Tryz.func200, Tryz.ntmps200
  go_wp2_with fail
  refine PK.out.mono ?_
  rintro e w1 ⟨r, rfl, h0, h1, h2, h3⟩
  have h2 := hid h2
  have h3 := hid h3
  obtain ⟨r, rfl⟩ : ∃ q : Nat, r = q := ⟨r.toNat, by omega⟩
  go_wp2_with fail
  go_ret
  have hm : max 1 ((n : Int) + 1) = ((n + 1 : Nat) : Int) := by omega
  refine ⟨r % (n + 1), ret_int (by rw [hm]; omega), by have := Nat.mod_lt r (show 0 < n + 1 by omega); omega, h2.out, h3.out⟩
theorem Once_any (b : Nat) (S : Nat → Prop) (w : World) (n : Nat) (hn : n ≤ 1000) (h : Hp b S w) : Calls Tryz.prog 201 #[.pointer (some ⟨b, 0, none⟩), .int .i64 ((n + 1 : Nat) : Int)] w fun e w' => ∃ q : Bool, e = .returned (.bool q) ∧ Hp b S w' ∧ Keep (· = b) w w' := by
  have UP := hid (Upto_any b S w n hn h)
  clear h
  have w1 : IntKind.i64.wrap (((n + 1 : Nat) : Int) - 1) = (n : Int) := by rw [show ((n + 1 : Nat) : Int) - 1 = n by omega]; exact IntWalk.i64_in _ (by omega)
  obtain ⟨N, hN⟩ : ∃ N : Int, ((n + 1 : Nat) : Int) = N := ⟨_, rfl⟩
  rw [hN] at w1 ⊢
  clear hN
  go_enter Tryz.func201, Tryz.ntmps201
  go_wp2_with fail
  refine UP.out.mono ?_
  rintro e w1 ⟨r, rfl, h0, h2, h3⟩
  have h2 := hid h2
  have h3 := hid h3
  go_wp2_with fail
  go_ret
  exact ⟨_, rfl, h2.out, h3.out⟩
theorem Pile_any (a : Option Addr) (l : List Int) (c : Nat) (S : Nat → Prop) (w : World) (hl : Byt S w (.slice a l.length c) l) (hS : ∀ q, S q → q < w.heap.size) :
    Calls Tryz.prog 38 #[.slice a l.length c] w fun e w' => e = .returned (.pointer (some ⟨w.heap.size, 0, none⟩)) ∧ Hp w.heap.size S w' ∧ w'.heap.size = w.heap.size + 1 ∧ Below w.heap.size w w' := by
  have hb := heap_alloc_new w (.cells #[.slice a l.length c, .int .i64 0, .int .u32 0] 203)
  have hB : Below w.heap.size w (w.alloc (.cells #[.slice a l.length c, .int .i64 0, .int .u32 0] 203)) := (Below.refl _ _).alloc (Nat.le_refl _) _
  have hH : Hp w.heap.size S (w.alloc (.cells #[.slice a l.length c, .int .i64 0, .int .u32 0] 203)) := ⟨a, l, c, 0, 0, hb, by omega, .inl rfl, SlC.agree hl (Agree.of_below hB hS), fun q hq e => by have := hS q hq; omega⟩
  have HH := hid hH
  have HB := hid hB
  clear hb hB hH hl hS
  go_enter Tryz.func38, Tryz.ntmps38
  go_wp2_with fail
  go_ret
  exact ⟨rfl, HH.out, by simp, HB.out⟩
end Go.Proofs.LF
namespace Go.Proofs.LF
open Go.RowKit Go.Sort
set_option maxHeartbeats 4000000
set_option maxRecDepth 100000
attribute [local go_sem] bs_toList bs_size bs_get
theorem okF_cntG : ∀ (y : Fo) (d : Nat) (n : Int), OkF d y → 0 ≤ n → n + y.cnt ≤ 80 → cntG (d : Int) n y = n + y.cnt
  | .nil, _, _, _, _, _ => by simp [cntG, Fo.cnt]
  | .cons nm l s r, d, n, ⟨h1, h2, h3, _, h5, _, h7⟩, h0, h => by
    simp only [Fo.cnt] at h ⊢
    have hn := (nmz_ok nm h2).2
    have e1 : cntG ((d : Int) + 1) 0 s = s.cnt := by
      have := okF_cntG s (d + 1) 0 h5 (by omega) (by omega)
      rw [show ((d + 1 : Nat) : Int) = (d : Int) + 1 by omega] at this
      omega
    rw [cntG, if_neg (by omega), e1, okF_cntG r d _ h7 (by omega) (by omega)]
    omega
theorem okF_many {y : Fo} (h : OkF 0 y) : decide (60 < cntG 0 0 y) = decide (60 < y.cnt) := by
  by_cases hc : y.cnt ≤ 80
  · have := okF_cntG y 0 0 h (by omega) (by omega)
    rw [show ((0 : Nat) : Int) = 0 from rfl] at this
    rw [this]; congr 1; apply propext; omega
  · rw [decide_eq_true (show 60 < y.cnt by omega)]
    apply decide_eq_true
    rcases Int.lt_or_le 80 (cntG 0 0 y) with h1 | h1
    · omega
    · have := (cntG_small y 0 0 (by omega) h1).1
      omega
theorem fewY_any (y : Fo) (a : Option Addr) (c : Nat) (S : Nat → Prop) (w : World) (hok : OkF 0 y) (hc : y.cnt ≤ 800) (hy : FSl S w (.slice a y.len c) y) (hS : ∀ q, S q → q < w.heap.size) :
    Calls Tryz.prog 40 #[.slice a y.len c] w fun e w' => e = .returned (.bool (decide (60 < y.cnt))) ∧ Below w.heap.size w w' := by
  have CN := hid (count_any (y.cnt + 1) y 0 a c S w (Nat.lt_succ_self _) (by omega) (by omega) hy hS)
  have hln := len_cnt y
  have hsm := okF_sm y 0 hok (by omega)
  have CK : ∀ w1, Below w.heap.size w w1 → Calls Tryz.prog 23 #[.slice a y.len c] w1 fun e w' => e = .returned (.int .i64 (chkY y)) ∧ Below w1.heap.size w1 w' := fun w1 h => Check_any y a c S w1 (hy.agree (Agree.of_below h hS)) (fun q hq => by have := hS q hq; have := h.size; omega) (by omega) hsm (by omega)
  have hch := okF_chk hok
  have hmy := okF_many hok
  obtain ⟨N, hN⟩ : ∃ N, cntG 0 0 y = N := ⟨_, rfl⟩
  rw [hN] at CN hmy
  by_cases h60 : 60 < y.cnt
  · rw [if_neg (by omega)] at hch
    rw [decide_eq_true h60] at hmy ⊢
    have hN60 : (60 : Int) < N := by simpa using hmy
    rw [hch] at CK
    have CK := hid CK
    clear hy hS hok hsm hch hmy hN h60
    go_enter Tryz.func40, Tryz.ntmps40
    go_wp2_with fail
    refine CN.out.mono ?_
    rintro e w1 ⟨rfl, hb1⟩
    have HB := hid hb1
    have CK1 := hid (CK.out w1 hb1)
    clear hb1
    go_wp2_with fail
    refine CK1.out.mono ?_
    rintro e w2 ⟨rfl, hb2⟩
    go_wp2_with fail
    go_ret
    exact ⟨rfl, HB.out.trans (hb2.mono HB.out.size)⟩
  · rw [decide_eq_false h60] at hmy ⊢
    have hN60 : ¬ (60 : Int) < N := by simpa using hmy
    clear hy hS hok hsm hch hmy hN h60 CK
    go_enter Tryz.func40, Tryz.ntmps40
    go_wp2_with fail
    refine CN.out.mono ?_
    rintro e w1 ⟨rfl, hb1⟩
    go_wp2_with fail
    go_ret
    exact ⟨rfl, hb1⟩
end Go.Proofs.LF
