/- Parts of the proof of a law of layer 11 (file): LfCan. The conditions stand in each theorem. -/
import Derived.Test.YtadkpjgpefcphaaGreatDoorProg
import Derived.Test.YtadkpjgpefcphaaGreatDoorPraw
set_option linter.all false
set_option linter.unusedVariables false
set_option linter.unusedSimpArgs false
namespace Go.Proofs.LF
def badWd (w : List UInt8) : Bool := w.any (fun c => decide ((c.toNat : Int) < 48) || decide (57 < (c.toNat : Int))) || decide (4 < w.length) || (decide (1 < w.length) && decide (w.head? = some 48))
def canG : Bool → Nat → List UInt8 → List UInt8 → Bool
  | _, _, _, [] => true
  | f, m, w, c :: r =>
    if c = 32 ∨ c = 10 then
      if w = [] ∨ (c = 10 ∧ r ≠ []) ∨ (c = 32 ∧ m = 4) then false else canG false (if c = 32 then m + 1 else m) [] r
    else if (f && badNm (w ++ [c])) || (!f && badWd (w ++ [c])) then false else canG f m (w ++ [c]) r
def blanksF (s : List UInt8) : Nat := (s.takeWhile (fun c => c == 32)).length
def canF (s : List UInt8) (dp : Nat) : Bool := if dp < blanksF s then false else canG true 0 [] (s.drop (blanksF s))
inductive CS where
  | lead (n : Nat)
  | word (f : Bool) (m : Nat) (w : List UInt8)
  | done
def wStep (f : Bool) (m : Nat) (w : List UInt8) (c : UInt8) : Option CS :=
  if c = 32 ∨ c = 10 then (if w = [] ∨ (c = 32 ∧ m = 4) then none else if c = 10 then some .done else some (.word false (m + 1) []))
  else if (f && badNm (w ++ [c])) || (!f && badWd (w ++ [c])) then none else some (.word f m (w ++ [c]))
def csStep (dp : Nat) : CS → UInt8 → Option CS
  | .lead n, c => if c = 32 then (if n + 1 ≤ dp then some (.lead (n + 1)) else none) else wStep true 0 [] c
  | .word f m w, c => wStep f m w c
  | .done, _ => none
def csRun (dp : Nat) : CS → List UInt8 → Option CS
  | st, [] => some st
  | st, c :: r => match csStep dp st c with | none => none | some st' => csRun dp st' r
def kS (dp : Nat) : CS → List UInt8 → Nat
  | _, [] => 0
  | st, c :: r => match csStep dp st c with | none => 0 | some st' => kS dp st' r + 1
theorem kS_app {dp : Nat} : ∀ {st st' : CS} {x y : List UInt8}, csRun dp st x = some st' → kS dp st (x ++ y) = x.length + kS dp st' y
  | st, st', [], y, h => by simp only [csRun, Option.some.injEq] at h; subst h; simp
  | st, st', c :: r, y, h => by
    simp only [csRun] at h
    simp only [List.cons_append, kS]
    cases hs : csStep dp st c with
    | none => rw [hs] at h; cases h
    | some st2 => rw [hs] at h; simp only at h ⊢; rw [kS_app h]; simp; omega
theorem csRun_app {dp : Nat} : ∀ {st st' : CS} {x y : List UInt8}, csRun dp st x = some st' → csRun dp st (x ++ y) = csRun dp st' y
  | st, st', [], y, h => by simp only [csRun, Option.some.injEq] at h; subst h; rfl
  | st, st', c :: r, y, h => by
    simp only [csRun] at h
    simp only [List.cons_append, csRun]
    cases hs : csStep dp st c with
    | none => rw [hs] at h; cases h
    | some st2 => rw [hs] at h; simp only at h ⊢; rw [csRun_app h]
theorem canG_run (dp : Nat) : ∀ (s : List UInt8) (f : Bool) (m : Nat) (w : List UInt8), canG f m w s = (csRun dp (.word f m w) s).isSome
  | [], _, _, _ => rfl
  | c :: r, f, m, w => by
    simp only [canG, csRun, csStep, wStep]
    by_cases hc : c = 32 ∨ c = 10
    · simp only [hc, if_true]
      by_cases hw : w = [] ∨ (c = 32 ∧ m = 4)
      · rw [if_pos (by rcases hw with h | h; exact .inl h; exact .inr (.inr h)), if_pos hw]; rfl
      · rw [if_neg hw]
        by_cases h10 : c = 10
        · subst h10
          cases r with
          | nil => rw [if_neg (by simp; simpa using hw)]; simp [canG, csRun]
          | cons x r => rw [if_pos (by simp)]; simp [csRun, csStep]
        · have h32 : c = 32 := by rcases hc with h | h; exact h; exact absurd h h10
          rw [if_neg (by intro h; rcases h with h | h | h; exact hw (.inl h); exact h10 h.1; exact hw (.inr h)), if_neg h10]
          simp only [h32, if_true]
          exact canG_run dp r _ _ _
    · simp only [hc, if_false]
      split
      · rfl
      · exact canG_run dp r _ _ _
theorem blanksF_cons (c : UInt8) (r : List UInt8) : blanksF (c :: r) = if c = 32 then blanksF r + 1 else 0 := by
  unfold blanksF
  by_cases h : c = 32 <;> simp [List.takeWhile_cons, h]
theorem lead_run (dp : Nat) : ∀ (s : List UInt8) (n : Nat), n ≤ dp → (csRun dp (.lead n) s).isSome = if dp < n + blanksF s then false else (csRun dp (.word true 0 []) (s.drop (blanksF s))).isSome
  | [], n, h => by simp [blanksF, csRun]; omega
  | c :: r, n, h => by
    rw [blanksF_cons]
    by_cases hc : c = 32
    · simp only [csRun, csStep, hc, if_true, List.drop_succ_cons]
      by_cases hn : n + 1 ≤ dp
      · rw [if_pos hn]
        simp only
        rw [lead_run dp r (n + 1) hn, show n + 1 + blanksF r = n + (blanksF r + 1) by omega]
      · rw [if_neg hn, if_pos (by omega)]; rfl
    · simp only [csRun, csStep, hc, if_false, List.drop_zero]
      rw [if_neg (by omega)]
theorem canF_eq (s : List UInt8) (dp : Nat) : canF s dp = (csRun dp (.lead 0) s).isSome := by
  rw [lead_run dp s 0 (Nat.zero_le _), canF, Nat.zero_add]
  split
  · rfl
  · exact canG_run dp _ _ _ _
theorem lead_blanks (dp : Nat) : ∀ (m : Nat) (s : List UInt8) (n : Nat), n + m ≤ dp → csRun dp (.lead n) (s.take (runN blankB m s)) = some (.lead (n + runN blankB m s))
  | 0, s, n, _ => by simp [runN, csRun]
  | _ + 1, [], n, _ => by simp [runN, csRun]
  | m + 1, c :: r, n, h => by
    simp only [runN, blankB, beq_iff_eq]
    split
    · rename_i hc
      simp only [List.take_succ_cons, csRun, csStep, hc, if_true]
      rw [if_pos (by omega)]
      simp only
      rw [lead_blanks dp m r (n + 1) (by omega)]
      congr 2; omega
    · simp [csRun]
theorem word_run (dp : Nat) (f : Bool) (m : Nat) : ∀ (x w : List UInt8), (∀ c ∈ x, c ≠ 32 ∧ c ≠ 10) → (∀ j, j < x.length → ((f && badNm (w ++ x.take (j + 1))) || (!f && badWd (w ++ x.take (j + 1)))) = false) → csRun dp (.word f m w) x = some (.word f m (w ++ x))
  | [], w, _, _ => by simp [csRun]
  | c :: r, w, h, hb => by
    have hc := h c (by simp)
    have h0 := hb 0 (by simp)
    simp only [Nat.zero_add, List.take_succ_cons, List.take_zero] at h0
    simp only [csRun, csStep, wStep]
    rw [if_neg (by intro e; rcases e with e | e; exact hc.1 e; exact hc.2 e), if_neg (by rw [h0]; simp)]
    simp only
    rw [word_run dp f m r (w ++ [c]) (fun d hd => h d (by simp [hd])) (fun j hj => by
      have := hb (j + 1) (by simpa using hj)
      simpa [List.take_succ_cons] using this)]
    simp
theorem runN_all {p : UInt8 → Bool} : ∀ {m : Nat} {s : List UInt8}, ∀ c ∈ s.take (runN p m s), p c = true
  | 0, s, c, h => by simp [runN] at h
  | _ + 1, [], c, h => by simp [runN] at h
  | m + 1, d :: r, c, h => by
    simp only [runN] at h
    split at h
    · rename_i hd
      rw [List.take_succ_cons] at h
      rcases List.mem_cons.1 h with rfl | h
      · exact hd
      · exact runN_all c h
    · simp at h
theorem runN_next {p : UInt8 → Bool} : ∀ {m : Nat} {s r : List UInt8} {c : UInt8}, s.drop (runN p m s) = c :: r → runN p m s < m → p c = false
  | 0, s, r, c, h, hl => by omega
  | _ + 1, [], r, c, h, hl => by simp at h
  | m + 1, d :: t, r, c, h, hl => by
    simp only [runN] at h hl
    split at h
    · rename_i hd
      rw [if_pos hd] at hl
      rw [List.drop_succ_cons] at h
      exact runN_next h (by omega)
    · rename_i hd
      simp at h
      rw [← h.1]
      simpa using hd
theorem smallB_iff {c : UInt8} : smallB c = true ↔ 97 ≤ c.toNat ∧ c.toNat ≤ 122 := by
  simp only [smallB, inB, Bool.and_eq_true, decide_eq_true_eq]; omega
theorem digitB_iff {c : UInt8} : digitB c = true ↔ 48 ≤ c.toNat ∧ c.toNat ≤ 57 := by
  simp only [digitB, inB, Bool.and_eq_true, decide_eq_true_eq]; omega
theorem badNm_ok {w : List UInt8} (h : ∀ c ∈ w, smallB c = true) (h1 : 1 ≤ w.length) (h8 : w.length ≤ 8) : badNm w = false := by
  simp only [badNm, Bool.or_eq_false_iff, decide_eq_false_iff_not, List.any_eq_false, Bool.or_eq_true, decide_eq_true_eq]
  refine ⟨⟨fun c hc => ?_, by omega⟩, by omega⟩
  have := smallB_iff.1 (h c hc); omega
theorem badNm_byte {w : List UInt8} {c : UInt8} (h : smallB c = false) : badNm (w ++ [c]) = true := by
  have h' : ¬ (97 ≤ c.toNat ∧ c.toNat ≤ 122) := fun e => by rw [smallB_iff.2 e] at h; cases h
  simp only [badNm, Bool.or_eq_true, List.any_eq_true, decide_eq_true_eq]
  exact .inl (.inl ⟨c, by simp, by omega⟩)
theorem badNm_long {w : List UInt8} {c : UInt8} (h : 8 ≤ w.length) : badNm (w ++ [c]) = true := by
  simp only [badNm, Bool.or_eq_true, List.length_append, List.length_singleton, decide_eq_true_eq]
  exact .inr (by omega)
theorem badWd_ok {w : List UInt8} (h : ∀ c ∈ w, digitB c = true) (h4 : w.length ≤ 4) (h0 : 1 < w.length → w.head? ≠ some 48) : badWd w = false := by
  simp only [badWd, Bool.or_eq_false_iff, decide_eq_false_iff_not, List.any_eq_false, Bool.or_eq_true, decide_eq_true_eq, Bool.and_eq_false_iff]
  refine ⟨⟨fun c hc => ?_, by omega⟩, ?_⟩
  · have := digitB_iff.1 (h c hc); omega
  · by_cases h1 : 1 < w.length
    · exact .inr (h0 h1)
    · exact .inl h1
theorem badWd_byte {w : List UInt8} {c : UInt8} (h : digitB c = false) : badWd (w ++ [c]) = true := by
  have h' : ¬ (48 ≤ c.toNat ∧ c.toNat ≤ 57) := fun e => by rw [digitB_iff.2 e] at h; cases h
  simp only [badWd, Bool.or_eq_true, List.any_eq_true, decide_eq_true_eq]
  exact .inl (.inl ⟨c, by simp, by omega⟩)
theorem badWd_long {w : List UInt8} {c : UInt8} (h : 4 ≤ w.length) : badWd (w ++ [c]) = true := by
  simp only [badWd, Bool.or_eq_true, List.length_append, List.length_singleton, decide_eq_true_eq]
  exact .inl (.inr (by omega))
theorem badWd_zero {w : List UInt8} {c : UInt8} (h : w.head? = some 48) : badWd (w ++ [c]) = true := by
  cases w with
  | nil => cases h
  | cons d w =>
    simp only [List.head?_cons, Option.some.injEq] at h
    simp [badWd, h]
def Full (f : Bool) (w s : List UInt8) : Prop := ∀ c r, s = c :: r → c ≠ 32 → c ≠ 10 → ((f && badNm (w ++ [c])) || (!f && badWd (w ++ [c]))) = true
theorem kS_done (dp : Nat) (s : List UInt8) : kS dp .done s = 0 := by cases s <;> rfl
theorem kS_full {dp : Nat} {f : Bool} {m : Nat} {w s : List UInt8} (hw : w ≠ []) (hf : Full f w s) (h : s.head? ≠ some 32 ∨ m = 4) : kS dp (.word f m w) s = if s.head? = some 10 then 1 else 0 := by
  cases s with
  | nil => rfl
  | cons c r =>
    simp only [kS, csStep, wStep, List.head?_cons, Option.some.injEq] at h ⊢
    by_cases hc : c = 32
    · subst hc
      have hm : m = 4 := by rcases h with h | h; exact absurd rfl h; exact h
      simp [hm]
    · by_cases h10 : c = 10
      · subst h10
        simp [hw, kS_done]
      · have := hf c r rfl hc h10
        rw [if_neg (by intro e; rcases e with e | e; exact hc e; exact h10 e), this]
        simp [h10]
theorem runN_blank1 (s : List UInt8) : runN blankB 1 s = if s.head? = some 32 then 1 else 0 := by
  cases s with
  | nil => rfl
  | cons c r => simp only [runN, blankB, beq_iff_eq, List.head?_cons, Option.some.injEq]
theorem kS_nums (dp : Nat) : ∀ (m' m : Nat) (f : Bool) (w s : List UInt8), w ≠ [] → Full f w s → m + m' = 4 →
    kS dp (.word f m w) s = (rdNums m' s).2.1 + (if (rdNums m' s).2.2 = true ∧ (s.drop (rdNums m' s).2.1).head? = some 10 then 1 else 0) ∧ (∀ c ∈ s.take (rdNums m' s).2.1, c ≠ 10)
  | 0, m, f, w, s, hw, hf, hm => by
    rw [kS_full hw hf (.inr (by omega))]
    simp [rdNums]
  | m' + 1, m, f, w, s, hw, hf, hm => by
    by_cases hb : s.head? = some 32
    · obtain ⟨s1, rfl⟩ : ∃ s1, s = 32 :: s1 := by cases s with | nil => cases hb | cons c r => simp at hb; exact ⟨r, by rw [hb]⟩
      have hst : csStep dp (.word f m w) 32 = some (.word false (m + 1) []) := by
        simp only [csStep, wStep]
        simp only [true_or, if_true]
        rw [if_neg (by intro e; rcases e with e | e; exact hw e; omega), if_neg (by decide)]
      have hk : kS dp (.word f m w) (32 :: s1) = kS dp (.word false (m + 1) []) s1 + 1 := by simp only [kS, hst]
      have hr : runN blankB 1 (32 :: s1) = 1 := by rw [runN_blank1]; rfl
      have hmost : 1 ≤ mostD s1 := by unfold mostD; split <;> omega
      simp only [rdNums, hr, Nat.one_ne_zero, if_false, List.drop_succ_cons, List.drop_zero]
      by_cases hn : runN digitB (mostD s1) s1 = 0
      · simp only [hn, if_true]
        have : kS dp (.word false (m + 1) []) s1 = 0 := by
          cases s1 with
          | nil => rfl
          | cons c r =>
            have hd : digitB c = false := runN_next (m := mostD (c :: r)) (by rw [hn]; rfl) (by omega)
            simp only [kS, csStep, wStep]
            by_cases hc : c = 32 ∨ c = 10
            · simp [hc]
            · have h2 := badWd_byte (w := []) hd
              simp only [List.nil_append] at h2
              simp [hc, h2]
        rw [hk, this]
        simp
      · simp only [hn, if_false]
        have hall := runN_all (p := digitB) (m := mostD s1) (s := s1)
        have hle := runN_le (p := digitB) (m := mostD s1) (l := s1)
        have hm4 : mostD s1 ≤ 4 := by unfold mostD; split <;> omega
        generalize hN : runN digitB (mostD s1) s1 = n at *
        have hlen : (s1.take n).length = n := by rw [List.length_take]; omega
        have hne : s1.take n ≠ [] := fun e => by rw [e] at hlen; simp at hlen; omega
        have hrun : csRun dp (.word false (m + 1) []) (s1.take n) = some (.word false (m + 1) (s1.take n)) := by
          have := word_run dp false (m + 1) (s1.take n) [] (fun c hc => by
            have := digitB_iff.1 (hall c hc)
            exact ⟨fun e => by subst e; simp at this, fun e => by subst e; simp at this⟩) (fun j hj => by
            rw [hlen] at hj
            simp only [Bool.false_and, Bool.false_or, Bool.not_false, Bool.true_and, List.nil_append, List.take_take, Nat.min_eq_left (show j + 1 ≤ n by omega)]
            refine badWd_ok (fun c hc => hall c ?_) (by rw [List.length_take]; omega) (fun h1 e => ?_)
            · exact List.mem_of_mem_take (i := j + 1) (by rw [List.take_take, Nat.min_eq_left (show j + 1 ≤ n by omega)]; exact hc)
            · have h48 : s1.head? = some 48 := by
                cases s1 with
                | nil => simp at e
                | cons d t => simpa using e
              have : mostD s1 = 1 := by simp [mostD, h48]
              rw [List.length_take] at h1
              omega)
          simpa using this
        have hfull : Full false (s1.take n) (s1.drop n) := by
          intro c r hcr hc hc'
          simp only [Bool.false_and, Bool.false_or, Bool.not_false, Bool.true_and]
          by_cases hlt : n < mostD s1
          · exact badWd_byte (runN_next (m := mostD s1) (by rw [hN]; exact hcr) (by omega))
          · by_cases h48 : s1.head? = some 48
            · have hm1 : mostD s1 = 1 := by simp [mostD, h48]
              refine badWd_zero ?_
              cases s1 with
              | nil => cases h48
              | cons d t => rw [show n = 1 by omega]; simpa using h48
            · have hm4' : mostD s1 = 4 := by simp [mostD, h48]
              exact badWd_long (by omega)
        obtain ⟨ih1, ih2⟩ := kS_nums dp m' (m + 1) false (s1.take n) (s1.drop n) hne hfull (by omega)
        have hk2 : kS dp (.word false (m + 1) []) s1 = n + kS dp (.word false (m + 1) (s1.take n)) (s1.drop n) := by
          conv => lhs; rw [← List.take_append_drop n s1]
          rw [kS_app hrun, hlen]
        rw [hk, hk2, ih1]
        have e1 : 1 + n + (rdNums m' (s1.drop n)).2.1 = (n + (rdNums m' (s1.drop n)).2.1) + 1 := by omega
        refine ⟨?_, ?_⟩
        · rw [e1, List.drop_succ_cons, ← List.drop_drop]
          omega
        · rw [e1, List.take_succ_cons]
          intro c hc
          rcases List.mem_cons.1 hc with rfl | hc
          · decide
          · rw [List.take_add] at hc
            rcases List.mem_append.1 hc with hc | hc
            · have := digitB_iff.1 (hall c hc)
              intro e; subst e; simp at this
            · exact ih2 c hc
    · have hr : runN blankB 1 s = 0 := by rw [runN_blank1, if_neg hb]
      rw [kS_full hw hf (.inl hb)]
      simp only [rdNums, hr, if_true]
      simp
theorem kS_line (dp : Nat) (s : List UInt8) : kS dp (.lead 0) s = (rdLine dp s).2.2.2.1 + (if (rdLine dp s).2.2.2.2 = true then 1 else 0) ∧ (∀ c ∈ s.take (rdLine dp s).2.2.2.1, c ≠ 10) ∧ ((rdLine dp s).2.2.2.2 = true → (s.drop (rdLine dp s).2.2.2.1).head? = some 10) := by
  have hlead := lead_blanks dp dp s 0 (by omega)
  rw [Nat.zero_add] at hlead
  have hblank := runN_all (p := blankB) (m := dp) (s := s)
  have hd := runN_le (p := blankB) (m := dp) (l := s)
  have hk : kS dp (.lead 0) s = runN blankB dp s + kS dp (.lead (runN blankB dp s)) (s.drop (runN blankB dp s)) := by
    conv => lhs; rw [← List.take_append_drop (runN blankB dp s) s]
    rw [kS_app hlead, List.length_take]; omega
  have hnext : ∀ c r, s.drop (runN blankB dp s) = c :: r → c ≠ 32 ∨ runN blankB dp s = dp := fun c r h => by
    by_cases hlt : runN blankB dp s < dp
    · have := runN_next h hlt
      exact .inl (by simpa [blankB] using this)
    · exact .inr (by omega)
  simp only [rdLine]
  generalize hD : runN blankB dp s = d at *
  have hb10 : ∀ c ∈ s.take d, c ≠ 10 := fun c hc e => by have := hblank c hc; subst e; simp [blankB] at this
  generalize hs1 : s.drop d = s1 at *
  have hall := runN_all (p := smallB) (m := 8) (s := s1)
  have hle := runN_le (p := smallB) (m := 8) (l := s1)
  have hn8 : ∀ c r, s1.drop (runN smallB 8 s1) = c :: r → smallB c = false ∨ runN smallB 8 s1 = 8 := fun c r h => by
    by_cases hlt : runN smallB 8 s1 < 8
    · exact .inl (runN_next h hlt)
    · exact .inr (by omega)
  generalize hK : runN smallB 8 s1 = k at *
  by_cases h0 : k = 0
  · subst h0
    simp only [if_true]
    refine ⟨?_, hb10, by simp⟩
    rw [hk]
    have : kS dp (.lead d) s1 = 0 := by
      cases s1 with
      | nil => rfl
      | cons c r =>
        simp only [kS, csStep]
        by_cases hc : c = 32
        · subst hc
          have := hnext 32 r rfl
          simp at this
          rw [if_pos rfl, if_neg (by omega)]
        · have h2 : smallB c = false := by rcases hn8 c r rfl with h | h; exact h; omega
          simp only [hc, if_false, wStep]
          by_cases h10 : c = 10
          · simp [h10]
          · have h3 := badNm_byte (w := []) h2
            simp only [List.nil_append] at h3
            simp [hc, h10, h3]
    rw [this]; simp
  · simp only [h0, if_false]
    have hlen : (s1.take k).length = k := by rw [List.length_take]; omega
    have hne : s1.take k ≠ [] := fun e => by rw [e] at hlen; simp at hlen; omega
    have hword : csRun dp (.word true 0 []) (s1.take k) = some (.word true 0 (s1.take k)) := by
      have := word_run dp true 0 (s1.take k) [] (fun c hc => by
        have := smallB_iff.1 (hall c hc)
        exact ⟨fun e => by subst e; simp at this, fun e => by subst e; simp at this⟩) (fun j hj => by
        rw [hlen] at hj
        simp only [Bool.true_and, Bool.not_true, Bool.false_and, Bool.or_false, List.nil_append, List.take_take, Nat.min_eq_left (show j + 1 ≤ k by omega)]
        refine badNm_ok (fun c hc => hall c ?_) (by rw [List.length_take]; omega) (by rw [List.length_take]; omega)
        exact List.mem_of_mem_take (i := j + 1) (by rw [List.take_take, Nat.min_eq_left (show j + 1 ≤ k by omega)]; exact hc))
      simpa using this
    have hlw : ∀ y : List UInt8, kS dp (.lead d) (s1.take k ++ y) = kS dp (.word true 0 []) (s1.take k ++ y) := fun y => by
      cases hq : s1.take k with
      | nil => exact absurd hq hne
      | cons c r =>
        have hc : c ≠ 32 := fun e => by
          have := smallB_iff.1 (hall c (by rw [hq]; simp))
          subst e; simp at this
        simp only [List.cons_append, kS, csStep, hc, if_false]
    have hfull : Full true (s1.take k) (s1.drop k) := by
      intro c r hcr hc hc'
      simp only [Bool.true_and, Bool.not_true, Bool.false_and, Bool.or_false]
      rcases hn8 c r hcr with h | h
      · exact badNm_byte h
      · exact badNm_long (by omega)
    obtain ⟨i1, i2⟩ := kS_nums dp 4 0 true (s1.take k) (s1.drop k) hne hfull rfl
    have hk2 : kS dp (.lead d) s1 = k + kS dp (.word true 0 (s1.take k)) (s1.drop k) := by
      conv => lhs; rw [← List.take_append_drop k s1]
      rw [hlw, kS_app hword, hlen]
    rw [List.drop_drop] at i1
    refine ⟨?_, ?_, ?_⟩
    · rw [hk, hk2, i1]
      simp only [Bool.and_eq_true, beq_iff_eq]
      omega
    · rw [show d + k + (rdNums 4 (s1.drop k)).2.1 = d + (k + (rdNums 4 (s1.drop k)).2.1) by omega, List.take_add]
      intro c hc
      rcases List.mem_append.1 hc with hc | hc
      · exact hb10 c hc
      · rw [hs1, List.take_add] at hc
        rcases List.mem_append.1 hc with hc | hc
        · have := smallB_iff.1 (hall c hc)
          intro e; subst e; simp at this
        · exact i2 c hc
    · simp only [Bool.and_eq_true, beq_iff_eq]
      rintro ⟨_, h⟩
      rw [← h, ← hs1]
      simp only [List.drop_drop, Nat.add_assoc]
end Go.Proofs.LF
