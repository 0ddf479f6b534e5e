/- Parts of the proof of a law of layer 11 (file): LfMd2. The conditions stand in each theorem. -/
import Derived.Test.YtadkpjgpefcphaaGreatDoorProg
import Derived.Test.YtadkpjgpefcphaaGreatDoorMdbu
import Derived.Test.YtadkpjgpefcphaaGreatDoorMdbv
set_option linter.all false
set_option linter.unusedVariables false
set_option linter.unusedSimpArgs false
namespace Go.Proofs.LF
def skB (y x : Fo) (n i : Nat) (r : List Ky) : Bool := (decide (n ≤ i) && isAt y r) || ((isAt y r == isAt x r) && decide (nsAt y r = nsAt x r))
def cntR (y x : Fo) (n : Nat) : Nat → List (List Ky) → Nat
  | _, [] => 0
  | i, r :: rs => (if skB y x n i r then 0 else 1) + cntR y x n (i + 1) rs
theorem eqR_B {y x : Fo} {r : List Ky} : eqR (flsL [] y) (flsL [] x) r = ((isAt y r == isAt x r) && decide (nsAt y r = nsAt x r)) := by
  unfold eqR isAt nsAt
  cases rfd (flsL [] y) r <;> cases rfd (flsL [] x) r <;> simp
theorem cntR_hi {y x : Fo} {n : Nat} : ∀ (B : List (List Ky)) (i : Nat), n ≤ i → cntR y x n i B = (B.filter fun r => !isAt y r && !eqR (flsL [] y) (flsL [] x) r).length
  | [], _, _ => rfl
  | r :: B, i, h => by
    rw [cntR, cntR_hi B (i + 1) (by omega), skB, decide_eq_true h, Bool.true_and, ← eqR_B, List.filter_cons]
    cases isAt y r <;> cases eqR (flsL [] y) (flsL [] x) r <;> simp [Nat.add_comm]
theorem cntR_lo {y x : Fo} {n : Nat} (B : List (List Ky)) : ∀ (A : List (List Ky)) (i : Nat), i + A.length = n → cntR y x n i (A ++ B) = (A.filter fun r => !eqR (flsL [] y) (flsL [] x) r).length + (B.filter fun r => !isAt y r && !eqR (flsL [] y) (flsL [] x) r).length
  | [], i, h => by rw [List.nil_append, cntR_hi B i (by simp at h; omega)]; simp
  | r :: A, i, h => by
    simp only [List.length_cons] at h
    rw [List.cons_append, cntR, cntR_lo B A (i + 1) (by omega), skB, show decide (n ≤ i) = false by simp; omega, Bool.false_and, Bool.false_or, ← eqR_B, List.filter_cons]
    cases eqR (flsL [] y) (flsL [] x) r <;> simp <;> omega
theorem cntR_all {y x : Fo} (hy : chkY y = 0) (hx : chkY x = 0) : cntR y x y.cnt 0 (evP [] y ++ evP [] x) = (difL y x).length := by
  rw [cntR_lo _ _ 0 (by rw [evP_length]; omega), ← List.length_append]
  have hny : (evP [] y).Nodup := (fls_srt hy).nodup
  have hnx : (evP [] x).Nodup := (fls_srt hx).nodup
  have hnd : ((difL y x).map Ch.p).Nodup := by
    have h : SrtP ((difL y x).map Ch.p) := by unfold SrtP; rw [List.pairwise_map]; exact dif_srt hy hx
    exact h.nodup
  rw [show (difL y x).length = ((difL y x).map Ch.p).length by rw [List.length_map]]
  refine List.Perm.length_eq ((List.perm_ext_iff_of_nodup ?_ hnd).2 fun r => ?_)
  · rw [List.nodup_append]
    refine ⟨List.Nodup.sublist List.filter_sublist hny, List.Nodup.sublist List.filter_sublist hnx, ?_⟩
    intro a ha b hb e
    subst e
    have h1 := (List.mem_filter.1 ha).1
    have h2 := (List.mem_filter.1 hb).2
    rw [show isAt y a = true from rfd_iff.2 h1] at h2
    cases h2
  · simp only [List.mem_append, List.mem_filter, List.mem_map]
    constructor
    · rintro (⟨h1, h2⟩ | ⟨h1, h2⟩)
      · exact ⟨chR (flsL [] y) (flsL [] x) r, (dif_mem hy hx).2 ⟨.inl h1, by simpa [chR] using h2, rfl⟩, rfl⟩
      · exact ⟨chR (flsL [] y) (flsL [] x) r, (dif_mem hy hx).2 ⟨.inr h1, by simp at h2; simpa [chR] using h2.2, rfl⟩, rfl⟩
    · rintro ⟨c, hc, rfl⟩
      obtain ⟨h1, h2, _⟩ := (dif_mem hy hx).1 hc
      by_cases h : c.p ∈ (flsL [] y).map Fl.p
      · exact .inl ⟨h, by simp [h2]⟩
      · right
        refine ⟨h1.resolve_left h, ?_⟩
        have : isAt y c.p = false := by unfold isAt; rw [rfd_no h]; rfl
        simp [this, h2]
theorem dif_idx {y x : Fo} (hy : chkY y = 0) (hx : chkY x = 0) {r : List Ky} {i : Nat} (hr : r ∈ evP [] y ++ evP [] x) (hs : skB y x y.cnt i r = false) :
    ∃ (k : Nat) (hk : k < (difL y x).length), idxN (fun i => decide (((difL y x).map (·.p)).getD i [] = r)) (difL y x).length = k ∧ (difL y x)[k] = ⟨r, isAt y r, isAt x r, nsAt y r, nsAt x r⟩ := by
  have he : eqR (flsL [] y) (flsL [] x) r = false := by
    rw [eqR_B]
    unfold skB at hs
    simp only [Bool.or_eq_false_iff] at hs
    exact hs.2
  have hm : chR (flsL [] y) (flsL [] x) r ∈ difL y x := (dif_mem hy hx).2 ⟨by rcases List.mem_append.1 hr with h | h; exact .inl h; exact .inr h, he, rfl⟩
  have hc : chR (flsL [] y) (flsL [] x) r = ⟨r, isAt y r, isAt x r, nsAt y r, nsAt x r⟩ := by
    unfold chR isAt nsAt
    cases rfd (flsL [] y) r <;> cases rfd (flsL [] x) r <;> simp [fl0]
  obtain ⟨k, hk, e⟩ := List.getElem_of_mem hm
  have hs := dif_srt hy hx
  refine ⟨k, hk, idxN_found (fun j hj => ?_) hk ?_, by rw [e, hc]⟩
  · have hj' : j < (difL y x).length := by omega
    have := List.pairwise_iff_getElem.1 hs j k hj' hk hj
    rw [e] at this
    simp only [List.getD_eq_getElem?_getD, List.getElem?_map, List.getElem?_eq_getElem hj', Option.map_some, Option.getD_some, decide_eq_false_iff_not]
    intro e2
    rw [e2] at this
    simp only [chR] at this
    rw [cmpP_ord.refl] at this; omega
  · simp only [List.getD_eq_getElem?_getD, List.getElem?_map, List.getElem?_eq_getElem hk, Option.map_some, Option.getD_some, decide_eq_true_eq]
    rw [e]; rfl
end Go.Proofs.LF
