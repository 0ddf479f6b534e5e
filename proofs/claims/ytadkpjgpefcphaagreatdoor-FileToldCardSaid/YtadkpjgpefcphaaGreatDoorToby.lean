/- Parts of the proof of a law of layer 11 (file): LfJoA, LfSy. The conditions stand in each theorem. -/
import Derived.Test.YtadkpjgpefcphaaGreatDoorProg
import Derived.Test.YtadkpjgpefcphaaGreatDoorTobl
import Derived.Test.YtadkpjgpefcphaaGreatDoorTobm
import Derived.Test.YtadkpjgpefcphaaGreatDoorTobw
set_option linter.all false
set_option linter.unusedVariables false
set_option linter.unusedSimpArgs false
namespace Go.Proofs.LF
open Go.RowKit Go.Sort
theorem alike_self {y a : Fo} (ky : chkY y = 0) (ka : chkY a = 0) : cpE [y, a, a] = 0 ∧ difE y a = 0 ∧ alP y a a = (difL y a).map Ch.p := by
  have hcp : cpE [y, a, a] = 0 := by simp [cpE, ky, ka]
  have hde : difE y a = 0 := by simp [difE, ky, ka]
  refine ⟨hcp, hde, ?_⟩
  have hg : ∀ l ∈ [flsL [] y, flsL [] a, flsL [] a], ∀ q ∈ l, GoodP q.p := fun l hl q hq => by
    simp only [List.mem_cons, List.not_mem_nil, or_false] at hl
    rcases hl with rfl | rfl | rfl
    · exact fls_good ky q hq
    · exact fls_good ka q hq
    · exact fls_good ka q hq
  have hg2 : ∀ l ∈ [flsL [] y, flsL [] a], ∀ q ∈ l, GoodP q.p := fun l hl q hq => hg l (by simp only [List.mem_cons, List.not_mem_nil, or_false] at hl ⊢; rcases hl with h | h <;> simp [h]) q hq
  obtain ⟨h5, h6⟩ := pths_spec hg
  obtain ⟨g5, g6⟩ := pths_spec hg2
  have hps : pthsF [flsL [] y, flsL [] a, flsL [] a] = pthsF [flsL [] y, flsL [] a] := srtP_ext h5 g5 fun p => by
    rw [h6 p, g6 p]
    simp
  rw [alP, if_pos hcp, difL, if_pos hde, dfF, hps]
  have sy := fls_srt ky
  have sa := fls_srt ka
  generalize pthsF [flsL [] y, flsL [] a] = ps
  induction ps with
  | nil => rfl
  | cons p ps ih =>
    have e1 : alF (flsL [] y) (flsL [] a) (flsL [] a) p = !(smF (flsL [] y) (flsL [] a) p) := by
      simp [alF, smF_eqR sy sa, smF_eqR sa sa, eqR_self]
    rw [List.filter_cons, List.filterMap_cons, e1, chD]
    cases hs : smF (flsL [] y) (flsL [] a) p with
    | true => simpa using ih
    | false => simp [ih]
end Go.Proofs.LF
namespace Go.Proofs.LF
def FlOk (x : Fl) : Prop := x.p.length ≤ 4 ∧ (∃ v n, x.p = v ++ [kyOf n x.l] ∧ badNm n = false) ∧ x.l.length ≤ 4 ∧ badNs x.l = false
theorem fls_flok : ∀ (y : Fo) (u : List Ky), OkG u.length y → ∀ x ∈ flsL u y, FlOk x
  | .nil, u, _, x, h => by cases h
  | .cons n l s r, u, ⟨⟨h1, h2, h3, h4⟩, h5, _, h7⟩, x, h => by
    rw [flsL_cons] at h
    rcases List.mem_cons.1 h with rfl | h
    · exact ⟨by simp; omega, ⟨u, n, rfl, h2⟩, h3, h4⟩
    · rcases List.mem_append.1 h with h | h
      · exact fls_flok s _ (by simpa using h5) x h
      · exact fls_flok r u h7 x h
theorem tops_fls : ∀ (r : Fo) (u : List Ky), ∀ k ∈ tops r, ∃ x ∈ flsL u r, x.p = u ++ [k]
  | .nil, _, k, h => by cases h
  | .cons n l s r, u, k, h => by
    rw [flsL_cons]
    rcases List.mem_cons.1 h with rfl | h
    · exact ⟨_, List.mem_cons_self .., rfl⟩
    · obtain ⟨x, hx, hp⟩ := tops_fls r u k h
      exact ⟨x, by simp [hx], hp⟩
theorem okG_fls : ∀ (y : Fo) (u : List Ky), Srt (flsL u y) → (∀ x ∈ flsL u y, FlOk x) → OkG u.length y
  | .nil, _, _, _ => trivial
  | .cons n l s r, u, hs, hf => by
    rw [flsL_cons] at hs hf
    obtain ⟨s1, s2⟩ := List.pairwise_cons.1 hs
    obtain ⟨s3, s4, _⟩ := List.pairwise_append.1 s2
    obtain ⟨f1, ⟨v, n', f2, f3⟩, f4, f5⟩ := hf _ (List.mem_cons_self ..)
    simp only [List.length_append, List.length_singleton] at f1
    have hk := List.append_inj_right' f2 rfl
    simp only [List.cons.injEq, and_true] at hk
    have hn : n = n' := by have := congrArg Ky.n hk; rwa [kyOf_n, kyOf_n] at this
    subst hn
    refine ⟨⟨by omega, f3, f4, f5⟩, ?_, fun k hk' => ?_, okG_fls r u s4 fun x hx => hf x (by simp [hx])⟩
    · have := okG_fls s (u ++ [kyOf n l]) s3 fun x hx => hf x (by simp [hx])
      simpa using this
    · obtain ⟨x, hx, hxp⟩ := tops_fls r u k hk'
      have := s1 x (by simp [hx])
      rw [hxp, cmpP_same] at this
      simp only [cmpP] at this
      rcases Int.lt_trichotomy (byK (kyOf n l) k) 0 with h | h | h
      · exact h
      · simp [h] at this
      · rw [if_pos (by omega)] at this; omega
theorem okG_chk0 {y : Fo} (h : OkG 0 y) (hc : y.cnt ≤ 60) : chkY y = 0 := by rw [okG_chk h, if_pos hc]
theorem joined_chk {y a b : Fo} (ky : chkY y = 0) (ka : chkY a = 0) (kb : chkY b = 0) (h : joE y a b = 0) : chkY (joY y a b) = 0 := by
  have hg : ∀ l ∈ [flsL [] y, flsL [] a, flsL [] b], ∀ q ∈ l, GoodP q.p ∧ q.p ≠ [] := fun l hl q hq => by
    simp only [List.mem_cons, List.not_mem_nil, or_false] at hl
    rcases hl with rfl | rfl | rfl
    · exact ⟨fls_good ky q hq, flsL_ne q hq⟩
    · exact ⟨fls_good ka q hq, flsL_ne q hq⟩
    · exact ⟨fls_good kb q hq, flsL_ne q hq⟩
  obtain ⟨_, j2, j3, j4⟩ := join_eq (fls_srt ky) (fls_srt ka) (fls_srt kb) hg
  have hK : KOk (joF y a b).1 := fun q hq => by
    rcases j4 q hq with h | h | h
    · exact fls_kok y [] q h
    · exact fls_kok a [] q h
    · exact fls_kok b [] q h
  have hfl : flsL [] (joY y a b) = (joF y a b).1 := by
    rw [joY, if_pos h]
    exact fls_of j2 j3 hK
  refine okG_chk0 (okG_fls (joY y a b) [] (by rw [hfl]; exact j2) fun x hx => ?_) ((joined_two ky ka kb h).1)
  rw [hfl] at hx
  rcases j4 x hx with h | h | h
  · exact fls_flok y [] (chk_okG ky) x h
  · exact fls_flok a [] (chk_okG ka) x h
  · exact fls_flok b [] (chk_okG kb) x h
theorem clR_symm (o a b : List Fl) (p : List Ky) : clB o a b p = clB o b a p := by
  rw [clB, clB, eqR_symm a b, Bool.and_assoc, Bool.and_assoc, Bool.and_comm (!eqR o a p)]
theorem frR_symm (o a b : List Fl) (p : List Ky) : frR o a b p = frR o b a p := by
  rw [frR, frR, clR_symm o a b]
  by_cases hc : clB o b a p = true
  · rw [if_pos hc, if_pos hc]
  · rw [if_neg hc, if_neg hc]
    by_cases h1 : eqR o a p = true
    · rw [if_pos h1]
      by_cases h2 : eqR o b p = true
      · rw [if_pos h2]
        exact (rfd_same h2).symm.trans (rfd_same h1)
      · rw [if_neg h2]
    · rw [if_neg h1]
      by_cases h2 : eqR o b p = true
      · rw [if_pos h2]
      · rw [if_neg h2]
        have h3 : eqR b a p = true := by
          simp only [clB, h1, h2] at hc
          simpa using hc
        exact (rfd_same h3).symm
theorem jnR_symm (o a b : List Fl) : ∀ (ps : List (List Ky)) (kept : List Fl) (named : List (List Ky)), jnR o a b ps kept named = jnR o b a ps kept named
  | [], _, _ => rfl
  | p :: ps, kept, named => by
    rw [jnR, jnR, frR_symm o a b, clR_symm o a b]
    cases frR o b a p with
    | none => simp only [jnR_symm o a b ps]
    | some x => simp only [jnR_symm o a b ps]
theorem pths_swap {o a b : List Fl} (hg : ∀ l ∈ [o, a, b], ∀ x ∈ l, GoodP x.p) : pthsF [o, a, b] = pthsF [o, b, a] := by
  obtain ⟨h1, h2⟩ := pths_spec hg
  obtain ⟨g1, g2⟩ := pths_spec (ls := [o, b, a]) (fun l hl x hx => hg l (by simp only [List.mem_cons, List.not_mem_nil, or_false] at hl ⊢; rcases hl with h | h | h <;> simp [h]) x hx)
  refine srtP_ext h1 g1 fun p => ?_
  rw [h2 p, g2 p]
  simp only [List.mem_cons, List.not_mem_nil, or_false, exists_eq_or_imp, exists_eq_left]
  constructor
  · rintro (h | h | h)
    · exact .inl h
    · exact .inr (.inr h)
    · exact .inr (.inl h)
  · rintro (h | h | h)
    · exact .inl h
    · exact .inr (.inr h)
    · exact .inr (.inl h)
theorem goods {y a b : Fo} (ky : chkY y = 0) (ka : chkY a = 0) (kb : chkY b = 0) : ∀ l ∈ [flsL [] y, flsL [] a, flsL [] b], ∀ q ∈ l, GoodP q.p ∧ q.p ≠ [] := fun l hl q hq => by
  simp only [List.mem_cons, List.not_mem_nil, or_false] at hl
  rcases hl with rfl | rfl | rfl
  · exact ⟨fls_good ky q hq, flsL_ne q hq⟩
  · exact ⟨fls_good ka q hq, flsL_ne q hq⟩
  · exact ⟨fls_good kb q hq, flsL_ne q hq⟩
theorem joF_symm {y a b : Fo} (ky : chkY y = 0) (ka : chkY a = 0) (kb : chkY b = 0) : joF y a b = joF y b a := by
  obtain ⟨j1, _⟩ := join_eq (fls_srt ky) (fls_srt ka) (fls_srt kb) (goods ky ka kb)
  obtain ⟨g1, _⟩ := join_eq (fls_srt ky) (fls_srt kb) (fls_srt ka) (goods ky kb ka)
  have e1 : joF y a b = jnR (flsL [] y) (flsL [] a) (flsL [] b) (pthsF [flsL [] y, flsL [] a, flsL [] b]) [] [] := j1.symm
  have e2 : joF y b a = jnR (flsL [] y) (flsL [] b) (flsL [] a) (pthsF [flsL [] y, flsL [] b, flsL [] a]) [] [] := g1.symm
  rw [e1, e2, jnR_symm, pths_swap fun l hl x hx => (goods ky ka kb l hl x hx).1]
theorem join_symm {y a b : Fo} (ky : chkY y = 0) (ka : chkY a = 0) (kb : chkY b = 0) : joE y b a = joE y a b ∧ joY y b a = joY y a b ∧ joP y b a = joP y a b := by
  have hE : joE y b a = joE y a b := by
    simp [joE, cpE, ky, ka, kb, joF_symm ky ka kb]
  refine ⟨hE, ?_, ?_⟩
  · unfold joY; rw [hE, joF_symm ky ka kb]
  · unfold joP; rw [hE, joF_symm ky ka kb]
theorem alike_symm {y a b : Fo} (ky : chkY y = 0) (ka : chkY a = 0) (kb : chkY b = 0) : alP y b a = alP y a b := by
  rw [alP, alP, if_pos (by simp [cpE, ky, ka, kb]), if_pos (by simp [cpE, ky, ka, kb])]
  rw [pths_swap fun l hl x hx => (goods ky ka kb l hl x hx).1]
  refine List.filter_congr fun p _ => ?_
  rw [alF, alF, smF_eqR (fls_srt kb) (fls_srt ka), smF_eqR (fls_srt ka) (fls_srt kb), smF_eqR (fls_srt ky) (fls_srt kb), smF_eqR (fls_srt ky) (fls_srt ka), eqR_symm (flsL [] b)]
  cases h : eqR (flsL [] a) (flsL [] b) p with
  | false => rfl
  | true =>
    have : eqR (flsL [] y) (flsL [] b) p = eqR (flsL [] y) (flsL [] a) p := by
      rw [Bool.eq_iff_iff]
      constructor
      · intro h'; exact eqR_trans h' (by rw [eqR_symm]; exact h)
      · intro h'; exact eqR_trans h' h
    rw [this]
end Go.Proofs.LF
