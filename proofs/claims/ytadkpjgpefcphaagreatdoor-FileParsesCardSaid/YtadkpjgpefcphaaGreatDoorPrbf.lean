/- Parts of the proof of a law of layer 11 (file): LfW28, LfW21, LfRefL, LfPrsB. The conditions stand in each theorem. -/
import Derived.BigQuiet
import Derived.Deep.AppendLies
import Derived.Deep.QuietTactic
import Derived.Deep.RegionHeld3
import Derived.Laws.ResultCell
import Derived.Outline
import Derived.Test.YtadkpjgpefcphaaGreatDoorProg
import Derived.WalkKit
import Derived.WalkLawsBesides
import Derived.WalkSpells
import Derived.Test.YtadkpjgpefcphaaGreatDoorPrah
import Derived.Test.YtadkpjgpefcphaaGreatDoorPraj
import Derived.Test.YtadkpjgpefcphaaGreatDoorPrar
import Derived.Test.YtadkpjgpefcphaaGreatDoorPraw
import Derived.Test.YtadkpjgpefcphaaGreatDoorPrba
import Derived.Test.YtadkpjgpefcphaaGreatDoorPrbb
set_option linter.all false
set_option linter.unusedVariables false
set_option linter.unusedSimpArgs false
namespace Go.Proofs.LF
open Go.RowKit Go.Sort
set_option maxHeartbeats 4000000
set_option maxRecDepth 100000
attribute [local go_sem] bs_toList bs_size bs_get
theorem cmpFl_any (p q : List Ky) (ap aq al : Option Addr) (cp cq nl cl : Nat) (S : Nat → Prop) (w : World) (hp : Pth S w (.slice ap p.length cp) p) (hq : Pth S w (.slice aq q.length cq) q) (hS : ∀ b, S b → b < w.heap.size) (lp : p.length ≤ 1000) (lq : q.length ≤ 1000) :
    Calls Tryz.prog 197 #[.agg #[.slice ap p.length cp, .slice al nl cl], .slice aq q.length cq] w fun e w' => e = .returned (.int .i64 (cmpP p q)) ∧ Below w.heap.size w w' := by
  have hb : Below w.heap.size w (w.alloc (.cells #[.slice ap p.length cp, .slice al nl cl] 171)) := (Below.refl _ _).alloc (Nat.le_refl _) _
  have ha := Agree.of_below hb hS
  have H := hid (byPath_any p q ap aq cp cq S _ (hp.agree ha) (hq.agree ha) (fun b h => by have := hS b h; simp; omega) lp lq)
  have HB := hid hb
  clear hb ha hp hq
  go_enter Tryz.func197, Tryz.ntmps197
  go_wp2_with fail
  refine H.out.mono ?_
  rintro e w1 ⟨rfl, hb1⟩
  have HB1 := hid (HB.out.trans (hb1.mono HB.out.size))
  go_wp2_with fail
  go_ret
  exact ⟨rfl, HB1.out⟩
theorem bsearch_any (l : List Fl) (p : List Ky) (al ap : Option Addr) (cl cp : Nat) (S T : Nat → Prop) (w : World) (hv : FlSl S w (.slice al l.length cl) l) (hS : ∀ b, S b → b < w.heap.size) (hp : Pth T w (.slice ap p.length cp) p) (hT : ∀ b, T b → b < w.heap.size)
    (hl : l.length ≤ 1000) (hsm : SmF l) (lp : p.length ≤ 1000) :
    Calls Tryz.prog 196 #[.slice al l.length cl, .slice ap p.length cp, .func (.func 197) #[] #[]] w fun e w' => e = .returned (.tuple #[.int .i64 (fndI l p), .bool (decide (fndI l p < l.length) && decide (cmpP (l.getD (fndI l p) fl0).p p = 0))]) ∧ Below w.heap.size w w' := by
  obtain ⟨a', c', he, hc, hcm, hat⟩ := hv.at
  obtain ⟨rfl, rfl⟩ : al = a' ∧ cl = c' := by cases he; exact ⟨rfl, rfl⟩
  have HAT := hid hat
  have HS := hid hS
  have HT := hid hT
  have HP := hid hp
  have HSM := hid hsm
  clear hat hS hT hp hsm he hv
  unfold maxLen at hcm
  have hcall : ∀ (i : Nat) (hi : i < l.length) (W : World), Below w.heap.size w W → ∃ g o ap2 cp2 an cn, al = some ⟨g, o, none⟩ ∧ W.cell? ⟨g, o + i * 2, none⟩ = some (.slice ap2 l[i].p.length cp2) ∧ W.cell? ⟨g, o + i * 2 + 1, none⟩ = some (.slice an l[i].l.length cn) ∧
      Hid (Calls Tryz.prog 197 #[.agg #[.slice ap2 l[i].p.length cp2, .slice an l[i].l.length cn], .slice ap p.length cp] W fun e w' => e = .returned (.int .i64 (cmpP l[i].p p)) ∧ Below W.heap.size W w') := by
    intro i hi W hB
    obtain ⟨g, o, cs1, rfl, hg, ⟨ap2, cp2, an, cn, rfl, hP, hI⟩, hcell⟩ := HAT.out i hi
    have ha : Agree S w W := Agree.of_below hB HS.out
    have c0 := ha.cell hg (hcell 0 _ rfl)
    have c1 := ha.cell hg (hcell 1 _ rfl)
    rw [Nat.add_zero] at c0
    rw [← Nat.add_assoc] at c1
    exact ⟨g, o, ap2, cp2, an, cn, rfl, c0, c1, cmpFl_any l[i].p p ap2 ap an cp2 cp _ cn (fun b => S b ∨ T b) W ((hP.agree ha).wide fun b hb => .inl hb) ((HP.out.agree (Agree.of_below hB HT.out)).wide fun b hb => .inr hb)
      (fun b hb => by have := hB.size; rcases hb with hb | hb; have := HS.out b hb; omega; have := HT.out b hb; omega) (HSM.out _ (List.getElem_mem hi)).1 lp⟩
  have HC := hid hcall
  clear hcall
  go_enter Tryz.func196, Tryz.ntmps196
  go_wp2_with fail
  go_loopw [9, 10] (fun vi vj wr => ∃ i j : Nat, vi = .int .i64 i ∧ vj = .int .i64 j ∧ i ≤ j ∧ j ≤ l.length ∧ Hid (fndI l p = bsF (fun h => decide (cmpP (l.getD h fl0).p p < 0)) i j) ∧ Below w.heap.size w wr) (fun vi vj _ => (intOf vj).toNat - (intOf vi).toNat)
  case atStart => exact ⟨0, l.length, rfl, rfl, Nat.zero_le _, Nat.le_refl _, rfl, Below.refl _ _⟩
  case round =>
    obtain ⟨i, j, rfl, rfl, hij, hjl, hF, hB⟩ := hrel
    have hsz := hB.size
    by_cases hlt : i < j
    · have hlt' : (i : Int) < (j : Int) := by omega
      obtain ⟨h, hh⟩ : ∃ h, (i + j) / 2 = h := ⟨_, rfl⟩
      have hhi : ((i : Int) + (j : Int)) / 2 = (h : Int) := by omega
      have hhl : h < l.length := by omega
      have hb1 : i ≤ h := by omega
      have hb2 : h < j := by omega
      have hhl' : (h : Int) < (l.length : Int) := by omega
      have hh0 : (0 : Int) ≤ (h : Int) := by omega
      obtain ⟨g, o, ap2, cp2, an, cn, rfl, c0, c1, H⟩ := HC.out h hhl wr hB
      have hF2 := hF.out
      rw [bsF_go hlt, hh] at hF2
      have hg : l.getD h fl0 = l[h] := by simp [List.getD_eq_getElem?_getD, hhl]
      simp only [hg, decide_eq_true_eq] at hF2
      have HF := hid hF2
      clear hF2 hg hh
      go_wp2_with fail
      refine H.out.mono ?_
      rintro e w2 ⟨rfl, hb3⟩
      have HB := hid (hB.trans (hb3.mono hsz))
      clear hb3
      by_cases hneg : cmpP l[h].p p < 0
      · have hF3 := HF.out
        rw [if_pos hneg] at hF3
        have HF3 := hid hF3
        clear hF3
        go_wp2_with fail
        go_roundw
        case rel => exact ⟨h + 1, j, by go_num, rfl, by omega, hjl, HF3.out, HB.out⟩
        case measure => simp [intOf]; omega
      · have hF3 := HF.out
        rw [if_neg hneg] at hF3
        have HF3 := hid hF3
        clear hF3
        go_wp2_with fail
        go_roundw
        case rel => exact ⟨i, h, rfl, rfl, hb1, by omega, HF3.out, HB.out⟩
        case measure => simp [intOf]; omega
    · obtain rfl : i = j := by omega
      have hlt' : ¬ (i : Int) < (i : Int) := by omega
      by_cases hil : i < l.length
      · have hil' : (i : Int) < (l.length : Int) := by omega
        obtain ⟨g, o, ap2, cp2, an, cn, rfl, c0, c1, H⟩ := HC.out i hil wr hB
        have hF2 := hF.out
        rw [bsF_stop (by omega)] at hF2
        have HF := hid hF2
        clear hF2
        go_wp2_with fail
        refine H.out.mono ?_
        rintro e w2 ⟨rfl, hb3⟩
        have HB := hid (hB.trans (hb3.mono hsz))
        clear hb3
        have hfin : (decide (fndI l p < l.length) && decide (cmpP (l.getD (fndI l p) fl0).p p = 0)) = decide (cmpP l[i].p p = 0) := by
          rw [HF.out]; simp [hil, List.getD_eq_getElem?_getD]
        have HFI := hid hfin
        clear hfin
        by_cases hz : cmpP l[i].p p = 0
        · have hz' : (cmpP l[i].p p == 0) = true := by simp [hz]
          have hzd : decide (cmpP l[i].p p = 0) = true := by simp [hz]
          have HZ := hid hzd
          clear hz hzd
          go_wp2_with fail
          go_ret2
          exact ⟨by rw [HFI.out, HZ.out, HF.out]; simp, HB.out⟩
        · have hz' : (cmpP l[i].p p == 0) = false := by simp [hz]
          have hzd : decide (cmpP l[i].p p = 0) = false := by simp [hz]
          have HZ := hid hzd
          clear hz hzd
          go_wp2_with fail
          go_ret2
          exact ⟨by rw [HFI.out, HZ.out, HF.out]; simp, HB.out⟩
      · have hil' : ¬ (i : Int) < (l.length : Int) := by omega
        have hF2 := hF.out
        rw [bsF_stop (by omega)] at hF2
        have HF := hid hF2
        clear hF2
        have hfin : (decide (fndI l p < l.length) && decide (cmpP (l.getD (fndI l p) fl0).p p = 0)) = false := by
          rw [HF.out]; simp [hil]
        have HFI := hid hfin
        clear hfin
        go_wp2_with fail
        go_ret2
        exact ⟨by have h1 := HF.out; have h2 := HFI.out; rw [h1] at h2 ⊢; simp [hil], hB⟩
end Go.Proofs.LF
namespace Go.Proofs.LF
open Go.RowKit Go.Sort
set_option maxHeartbeats 4000000
set_option maxRecDepth 100000
attribute [local go_sem] bs_toList bs_size bs_get
def RunR (p : UInt8 → Bool) (R : Nat) (t : List UInt8) (i most : Nat) (vs : List Value) (w : World) (e : Ending) (w' : World) : Prop :=
  ∃ s : List UInt8, e = .returned (.string (bs s)) ∧ Hid (s = (t.drop i).take (runN p most (t.drop i))) ∧ Hid (s.length = runN p most (t.drop i)) ∧ Hid (s.length ≤ most ∧ i + s.length ≤ t.length) ∧ Hid (Rdr R t (i + s.length) vs w') ∧ Hid (Keep (· = R) w w')
theorem RunR.of {p : UInt8 → Bool} {R : Nat} {t : List UInt8} {i most : Nat} {vs : List Value} {w : World} {e : Ending} {w' : World} (hi : i ≤ t.length)
    (h : e = .returned (.string (bs ((t.drop i).take (runN p most (t.drop i))))) ∧ Rdr R t (i + runN p most (t.drop i)) vs w' ∧ Keep (· = R) w w') : RunR p R t i most vs w e w' := by
  have hl := runN_le (p := p) (m := most) (l := t.drop i)
  have hs : ((t.drop i).take (runN p most (t.drop i))).length = runN p most (t.drop i) := by rw [List.length_take]; omega
  rw [List.length_drop] at hl
  exact ⟨_, h.1, rfl, hs, by rw [Hid, hs]; omega, by rw [Hid, hs]; exact h.2.1, h.2.2⟩
theorem blank_runs (R : Nat) (t : List UInt8) (i most : Nat) (vs : List Value) (w : World) (hr : Rdr R t i vs w) (ht : t.length ≤ 100000) (hi : i ≤ t.length) (hm : most ≤ 1000) :
    Calls Tryz.prog 184 #[.pointer (some ⟨R, 0, none⟩), .func (.func 225) #[] #[], .int .i64 most] w (RunR blankB R t i most vs w) :=
  (runA_any 225 enters225 blankB R t i most vs w hr ht hi hm fun c W => isBlank_any c W).mono fun _ _ h => RunR.of hi h
theorem small_runs (R : Nat) (t : List UInt8) (i most : Nat) (vs : List Value) (w : World) (hr : Rdr R t i vs w) (ht : t.length ≤ 100000) (hi : i ≤ t.length) (hm : most ≤ 1000) :
    Calls Tryz.prog 184 #[.pointer (some ⟨R, 0, none⟩), .func (.func 187) #[.agg #[.int .u8 97, .int .u8 122]] #[], .int .i64 most] w (RunR smallB R t i most vs w) :=
  (runB_any 97 122 smallB R t i most vs w hr ht hi hm fun c W => has_any 97 122 c.toNat W).mono fun _ _ h => RunR.of hi h
theorem digit_runs (R : Nat) (t : List UInt8) (i most : Nat) (vs : List Value) (w : World) (hr : Rdr R t i vs w) (ht : t.length ≤ 100000) (hi : i ≤ t.length) (hm : most ≤ 1000) :
    Calls Tryz.prog 184 #[.pointer (some ⟨R, 0, none⟩), .func (.func 187) #[.agg #[.int .u8 48, .int .u8 57]] #[], .int .i64 most] w (RunR digitB R t i most vs w) :=
  (runB_any 48 57 digitB R t i most vs w hr ht hi hm fun c W => has_any 48 57 c.toNat W).mono fun _ _ h => RunR.of hi h
end Go.Proofs.LF
namespace Go.Proofs.LF
theorem kS_pre (dp : Nat) : ∀ (s : List UInt8) (st : CS) (j : Nat), j ≤ kS dp st s → ∃ st', csRun dp st (s.take j) = some st'
  | [], st, j, _ => ⟨st, by simp [csRun]⟩
  | c :: r, st, 0, _ => ⟨st, rfl⟩
  | c :: r, st, j + 1, h => by
    simp only [kS] at h
    simp only [List.take_succ_cons, csRun]
    cases hs : csStep dp st c with
    | none => rw [hs] at h; simp at h
    | some st2 => rw [hs] at h; exact kS_pre dp r st2 j (by simpa using h)
theorem kS_end (dp : Nat) : ∀ (s : List UInt8) (st : CS), kS dp st s < s.length → csRun dp st (s.take (kS dp st s + 1)) = none
  | [], st, h => by simp at h
  | c :: r, st, h => by
    simp only [kS] at h ⊢
    cases hs : csStep dp st c with
    | none => simp [csRun, hs]
    | some st2 =>
      rw [hs] at h
      simp only [List.length_cons] at h
      simp only [List.take_succ_cons, csRun, hs]
      exact kS_end dp r st2 (by omega)
theorem wStep_ten {f : Bool} {m : Nat} {w : List UInt8} {st : CS} (h : wStep f m w 10 = some st) : st = .done := by
  unfold wStep at h
  rw [if_pos (.inr rfl)] at h
  split at h
  · cases h
  · simp at h; exact h.symm
theorem csStep_ten {dp : Nat} {st st' : CS} (h : csStep dp st 10 = some st') : st' = .done := by
  cases st with
  | lead n => simp only [csStep] at h; rw [if_neg (by decide)] at h; exact wStep_ten h
  | word f m w => exact wStep_ten h
  | done => cases h
theorem csRun_snoc {dp : Nat} {st st' : CS} {x : List UInt8} {c : UInt8} (h : csRun dp st (x ++ [c]) = some st') : ∃ st1, csRun dp st x = some st1 ∧ csStep dp st1 c = some st' := by
  cases hx : csRun dp st x with
  | none =>
    exfalso
    have key : ∀ (x : List UInt8) (st : CS), csRun dp st x = none → csRun dp st (x ++ [c]) = none := by
      intro x
      induction x with
      | nil => intro st h; cases h
      | cons d r ih =>
        intro st h
        simp only [csRun] at h
        simp only [List.cons_append, csRun]
        cases hs : csStep dp st d with
        | none => rfl
        | some st2 => rw [hs] at h; exact ih st2 h
    rw [key x st hx] at h; cases h
  | some st1 =>
    refine ⟨st1, rfl, ?_⟩
    rw [csRun_app hx] at h
    simp only [csRun] at h
    cases hs : csStep dp st1 c with
    | none => rw [hs] at h; cases h
    | some st2 => rw [hs] at h; simpa using h
theorem ref_loop (dp : Nat) (s : List UInt8) : (∀ j, j < kS dp (.lead 0) s → canF (s.take (j + 1)) dp = true ∧ (0 < j → s.getD (j - 1) 0 ≠ 10)) ∧ (kS dp (.lead 0) s < s.length → canF (s.take (kS dp (.lead 0) s + 1)) dp = false) ∧ kS dp (.lead 0) s ≤ s.length := by
  have hle : ∀ (s : List UInt8) (st : CS), kS dp st s ≤ s.length := by
    intro s
    induction s with
    | nil => intro st; simp [kS]
    | cons c r ih =>
      intro st
      simp only [kS]
      cases csStep dp st c with
      | none => simp
      | some st2 => simp only [List.length_cons]; have := ih st2; omega
  refine ⟨fun j hj => ⟨?_, fun h0 e => ?_⟩, fun h => ?_, hle s _⟩
  · obtain ⟨st', h⟩ := kS_pre dp s (.lead 0) (j + 1) hj
    rw [canF_eq, h]; rfl
  · obtain ⟨st2, h2⟩ := kS_pre dp s (.lead 0) (j + 1) hj
    have hl := hle s (.lead 0)
    have hjl : j < s.length := by omega
    have e1 : s.take (j + 1) = s.take j ++ [s[j]] := List.take_succ_eq_append_getElem hjl
    have e2 : s.take j = s.take (j - 1) ++ [s[j - 1]] := by
      have := List.take_succ_eq_append_getElem (show j - 1 < s.length by omega)
      rwa [show j - 1 + 1 = j by omega] at this
    rw [e1] at h2
    obtain ⟨st1, h1, h3⟩ := csRun_snoc h2
    rw [e2] at h1
    obtain ⟨st0, _, h4⟩ := csRun_snoc h1
    have e3 : s[j - 1] = 10 := by
      rw [List.getD_eq_getElem?_getD, List.getElem?_eq_getElem (by omega)] at e
      simpa using e
    rw [e3] at h4
    rw [csStep_ten h4] at h3
    cases h3
  · rw [canF_eq, kS_end dp s _ h]; rfl
theorem ref_line (t : List UInt8) (dp i : Nat) (hi : i ≤ t.length) (h : ¬ (kS dp (.lead 0) (t.drop i) = 0 ∨ t.getD (i + kS dp (.lead 0) (t.drop i) - 1) 0 ≠ 10)) :
    ∃ W0 ws, spl [] (((t.drop i).take (kS dp (.lead 0) (t.drop i) - 1)).drop (blanksF ((t.drop i).take (kS dp (.lead 0) (t.drop i) - 1)))) = W0 :: ws ∧ (∀ v ∈ ws, DigW v) ∧ ws.length ≤ 4 ∧ W0.length ≤ 8 ∧
      refRd ((t.drop i).take (kS dp (.lead 0) (t.drop i) - 1)) = (blanksF ((t.drop i).take (kS dp (.lead 0) (t.drop i) - 1)), W0, ws.map (fun l => ((decN l : Nat) : Int))) ∧
      blanksF ((t.drop i).take (kS dp (.lead 0) (t.drop i) - 1)) ≤ dp := by
  obtain ⟨k1, k2, k3⟩ := kS_line dp (t.drop i)
  have hle := rdLine_le dp (t.drop i)
  rw [k1] at h ⊢
  have hok : (rdLine dp (t.drop i)).2.2.2.2 = true := by
    cases hq : (rdLine dp (t.drop i)).2.2.2.2 with
    | true => rfl
    | false =>
      exfalso
      apply h
      rw [hq]
      simp only [Bool.false_eq_true, if_false, Nat.add_zero]
      by_cases h0 : (rdLine dp (t.drop i)).2.2.2.1 = 0
      · exact .inl h0
      · refine .inr (fun e => ?_)
        have hlt : (rdLine dp (t.drop i)).2.2.2.1 - 1 < (t.drop i).length := by omega
        refine k2 ((t.drop i)[(rdLine dp (t.drop i)).2.2.2.1 - 1]) ?_ ?_
        · rw [List.mem_take_iff_getElem]
          exact ⟨(rdLine dp (t.drop i)).2.2.2.1 - 1, by omega, rfl⟩
        · rw [List.getElem_drop]
          rw [List.length_drop] at hlt
          rw [List.getD_eq_getElem?_getD, List.getElem?_eq_getElem (by omega)] at e
          simp only [Option.getD_some] at e
          rw [← e]; congr 1; omega
  rw [if_pos hok, Nat.add_sub_cancel]
  obtain ⟨hb, ws, hw, hm, hd⟩ := rd_line dp (t.drop i) hok
  rw [hb]
  have h4 : ws.length = (rdLine dp (t.drop i)).2.2.1.length := by rw [← hm, List.length_map]
  refine ⟨_, ws, hw, hd, by omega, by omega, by simp only [refRd, hb, hw, List.tail_cons]; rfl, by omega⟩
end Go.Proofs.LF
namespace Go.Proofs.LF
def SmFl (x : Fl) : Prop := x.p.length ≤ 4 ∧ (∀ k ∈ x.p, k.n.length ≤ 8) ∧ x.l.length ≤ 4
theorem prsG_bd (t : List UInt8) : ∀ (f i ln dp : Nat) (ks : List Ky) (fs : List Fl), ks.length = 4 → (∀ k ∈ ks, k.n.length ≤ 8) → fs.length = ln → ln ≤ 60 → (∀ x ∈ fs, SmFl x) →
    (prsG t f i ln dp ks fs).1.length ≤ 60 ∧ ∀ x ∈ (prsG t f i ln dp ks fs).1, SmFl x
  | 0, _, _, _, _, _, _, _, _, _, _ => by simp [prsG]
  | f + 1, i, ln, dp, ks, fs, h1, h2, h3, h4, h5 => by
    simp only [prsG]
    split
    · split
      · simp
      · split
        · simp
        · split
          · simp
          · rename_i h60 _ _
            obtain ⟨_, _, r3, r4, _⟩ := rdLine_le dp (t.drop i)
            have hk : ∀ k ∈ ks.set (rdLine dp (t.drop i)).1 (kyOf (rdLine dp (t.drop i)).2.1 (rdLine dp (t.drop i)).2.2.1), k.n.length ≤ 8 := fun k hk => by
              rcases List.mem_or_eq_of_mem_set hk with h | h
              · exact h2 k h
              · rw [h, kyOf_n]; exact r4
            refine prsG_bd t f _ _ _ _ _ (by rw [List.length_set]; exact h1) hk (by rw [List.length_append, h3]; rfl) (by omega) fun x hx => ?_
            rcases List.mem_append.1 hx with h | h
            · exact h5 x h
            · rw [List.mem_singleton] at h
              rw [h]
              refine ⟨?_, fun k hk' => hk k (List.mem_of_mem_take hk'), r3⟩
              show (List.take _ _).length ≤ 4
              rw [List.length_take, List.length_set, h1]; exact Nat.min_le_right _ _
    · exact ⟨by rw [h3]; exact h4, h5⟩
theorem prs_bd (t : List UInt8) : (prs t).1.length ≤ 60 ∧ ∀ x ∈ (prs t).1, SmFl x := prsG_bd t 62 0 0 0 _ [] rfl (by simp [ky0]) rfl (by omega) (by simp)
theorem treF_sm : ∀ (m d : Nat) (l : List Fl), l.length ≤ m → l.length ≤ 1000 → (∀ x ∈ l, (∀ k ∈ x.p, k.n.length ≤ 1000) ∧ x.l.length ≤ 1000) → (treF d l).1.Sm ∧ (treF d l).1.len ≤ l.length
  | _, d, [], _, _, _ => by rw [treF_nil]; exact ⟨trivial, Nat.zero_le _⟩
  | 0, _, _ :: _, h, _, _ => by simp at h
  | m + 1, d, x :: l, h, h2, h3 => by
    by_cases hx : x.p.length = d + 1
    · rw [treF_yes hx]
      simp only [List.length_cons] at h h2
      obtain ⟨a1, a2⟩ := treF_sm m (d + 1) l (by omega) (by omega) fun y hy => h3 y (by simp [hy])
      obtain ⟨b1, b2⟩ := treF_sm m d (l.drop (treF (d + 1) l).2) (by rw [List.length_drop]; omega) (by rw [List.length_drop]; omega) fun y hy => h3 y (by simp [List.mem_of_mem_drop hy])
      have h4 := h3 x (by simp)
      rw [List.length_drop] at b2
      refine ⟨⟨h4.1 _ (List.getElem_mem _), h4.2, by omega, a1, b1⟩, ?_⟩
      simp only [Fo.len, List.length_cons]
      omega
    · rw [treF_no hx]; exact ⟨trivial, Nat.zero_le _⟩
theorem treF_sm' {l : List Fl} (h : l.length ≤ 60) (h2 : ∀ x ∈ l, SmFl x) : (treF 0 l).1.Sm ∧ (treF 0 l).1.len ≤ 60 := by
  obtain ⟨a, b⟩ := treF_sm l.length 0 l (Nat.le_refl _) (by omega) fun x hx => ⟨fun k hk => by have := (h2 x hx).2.1 k hk; omega, by have := (h2 x hx).2.2; omega⟩
  exact ⟨a, by omega⟩
theorem toFo_app (g : Fl → Fo) (d : Nat) : ∀ (l m : List Fl), toFo g d (l ++ m) = (toFo g d l).app (toFo g d m)
  | [], _ => rfl
  | x :: l, m => by simp only [List.cons_append, toFo, Fo.app, toFo_app g d l m]
theorem toFo_len (g : Fl → Fo) (d : Nat) : ∀ (l : List Fl), (toFo g d l).len = l.length
  | [] => rfl
  | x :: l => by simp only [toFo, Fo.len, toFo_len g d l, List.length_cons]
theorem ch_take_yes {L : List Fl} {u : List Ky} {k : Nat} {x : Fl} (hk : k < L.length) (hx : L[k] = x) (h : isCh u x = true) : (L.take (k + 1)).filter (isCh u) = (L.take k).filter (isCh u) ++ [x] := by
  rw [List.take_succ_eq_append_getElem hk, hx, List.filter_append]; simp [h]
theorem ch_take_no {L : List Fl} {u : List Ky} {k : Nat} {x : Fl} (hk : k < L.length) (hx : L[k] = x) (h : isCh u x = false) : (L.take (k + 1)).filter (isCh u) = (L.take k).filter (isCh u) := by
  rw [List.take_succ_eq_append_getElem hk, hx, List.filter_append]; simp [h]
theorem treR_zero {L : List Fl} {u : List Ky} (h : ∀ x ∈ L, x.p.length ≤ u.length) : toFo (fun x => treR 0 L x.p) u.length (L.filter (isCh u)) = .nil := by
  rw [filter_no fun x hx => ?_]
  · rfl
  · have := h x hx
    unfold isCh
    rw [decide_eq_false (by omega)]; rfl
end Go.Proofs.LF
