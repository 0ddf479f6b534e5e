/- Parts of the proof of a law of layer 11 (file): LfJs. The conditions stand in each theorem. -/
import Derived.Test.YtadkpjgpefcphaaGreatDoorProg
import Derived.Test.YtadkpjgpefcphaaGreatDoorGrbt
set_option linter.all false
set_option linter.unusedVariables false
set_option linter.unusedSimpArgs false
namespace Go.Proofs.LF
def kpR (o a b J : List Fl) (r : List Ky) : Option Fl :=
  match frR o a b r with
  | none => none
  | some x => if 1 < r.length ∧ (rfd J r.dropLast).isNone = true then none else some x
def nmR (o a b J : List Fl) (r : List Ky) : Prop := clB o a b r = true ∨ ∃ x, frR o a b r = some x ∧ 1 < r.length ∧ (rfd J r.dropLast).isNone = true
theorem rfd_snoc {l : List Fl} {x : Fl} {r : List Ky} (h : x.p ≠ r) : rfd (l ++ [x]) r = rfd l r := by
  rw [rfd, List.find?_append]
  simp only [List.find?_cons, List.find?_nil, h, decide_false]
  rw [rfd]
  cases l.find? (fun x => decide (x.p = r)) <;> rfl
theorem jnR_spec {o a b : List Fl} : ∀ (ps : List (List Ky)) (kept : List Fl) (named : List (List Ky)), SrtP ps → (∀ p ∈ ps, p ≠ []) → (∀ x ∈ kept, ∀ p ∈ ps, cmpP x.p p < 0) → (∀ q ∈ named, ∀ p ∈ ps, q ≠ p) →
    ∀ r ∈ ps, rfd (jnR o a b ps kept named).1 r = kpR o a b (jnR o a b ps kept named).1 r ∧ (r ∈ (jnR o a b ps kept named).2 ↔ nmR o a b (jnR o a b ps kept named).1 r)
  | [], _, _, _, _, _, _, r, h => by cases h
  | p :: ps, kept, named, hs, hne, hk, hn, r, hr => by
    obtain ⟨s1, s2⟩ := List.pairwise_cons.1 hs
    have hk' : ∀ x ∈ kept, ∀ q ∈ ps, cmpP x.p q < 0 := fun x hx q hq => hk x hx q (by simp [hq])
    have hpn : p ∉ ps := fun h => cmpP_ne (s1 p h) rfl
    have hnp : p ∉ named := fun h => hn p h p (by simp) rfl
    have hkp : rfd kept p = none := rfd_none_of fun x hx => cmpP_ne (hk x hx p (by simp))
    have hn1 : ∀ q ∈ named ++ [p], ∀ p' ∈ ps, q ≠ p' := fun q hq p' hp' => by
      rcases List.mem_append.1 hq with h | h
      · exact hn q h p' (by simp [hp'])
      · simp only [List.mem_singleton] at h; rw [h]; exact fun e => hpn (e ▸ hp')
    have hn2 : ∀ q ∈ (if clB o a b p then named ++ [p] else named), ∀ p' ∈ ps, q ≠ p' := fun q hq p' hp' => by
      split at hq
      · exact hn1 q hq p' hp'
      · exact hn q hq p' (by simp [hp'])
    have hmem : (p ∈ (if clB o a b p then named ++ [p] else named)) ↔ clB o a b p = true := by
      split
      · rename_i h; simp [h]
      · rename_i h; simp [h, hnp]
    have hp0 : p ≠ [] := hne p (by simp)
    have hd : p.dropLast ∉ ps := fun h => by
      have h1 := cmpP_dropLast hp0
      have h2 := s1 _ h
      have := cmpP_ord.trans h1 h2
      rw [cmpP_ord.refl] at this; omega
    have hdp : p ≠ p.dropLast := fun e => by
      have := cmpP_dropLast hp0
      rw [← e, cmpP_ord.refl] at this; omega
    have hne' : ∀ q ∈ ps, q ≠ [] := fun q hq => hne q (by simp [hq])
    rw [jnR]
    cases hf : frR o a b p with
    | none =>
      simp only
      rcases List.mem_cons.1 hr with rfl | hr
      · have ht := (jnR_at (o := o) (a := a) (b := b) ps kept (if clB o a b r then named ++ [r] else named) s2 hk' hn2 r).2.2 hpn
        rw [ht.1, ht.2, hkp, kpR, hf, hmem, nmR, hf]
        exact ⟨rfl, ⟨fun h => .inl h, fun h => h.resolve_right (fun ⟨x, hx, _⟩ => by cases hx)⟩⟩
      · exact jnR_spec ps kept _ s2 hne' hk' hn2 r hr
    | some x =>
      simp only
      have hxp := (frR_p hf).1
      split
      · rename_i hc
        rcases List.mem_cons.1 hr with rfl | hr
        · have hat := jnR_at (o := o) (a := a) (b := b) ps kept (named ++ [r]) s2 hk' hn1
          have ht := (hat r).2.2 hpn
          have ht2 := (hat r.dropLast).2.2 hd
          rw [ht.1, ht.2, hkp, kpR, hf, nmR, hf, ht2.1]
          exact ⟨by simp only; rw [if_pos hc], ⟨fun _ => .inr ⟨x, rfl, hc⟩, fun _ => by simp⟩⟩
        · exact jnR_spec ps kept _ s2 hne' hk' hn1 r hr
      · rename_i hc
        have hk2 : ∀ z ∈ kept ++ [x], ∀ q ∈ ps, cmpP z.p q < 0 := fun z hz q hq => by
          rcases List.mem_append.1 hz with h | h
          · exact hk' z h q hq
          · simp only [List.mem_singleton] at h; rw [h, hxp]; exact s1 q hq
        rcases List.mem_cons.1 hr with rfl | hr
        · have hat := jnR_at (o := o) (a := a) (b := b) ps (kept ++ [x]) (if clB o a b r then named ++ [r] else named) s2 hk2 hn2
          have ht := (hat r).2.2 hpn
          have ht2 := (hat r.dropLast).2.2 hd
          have e3 : rfd (kept ++ [x]) r = some x := by
            rw [rfd, List.find?_append]
            rw [show (kept.find? fun x => decide (x.p = r)) = none from hkp]
            simp [hxp]
          have e4 : rfd (kept ++ [x]) r.dropLast = rfd kept r.dropLast := rfd_snoc (by rw [hxp]; exact hdp)
          rw [ht.1, ht.2, e3, kpR, hf, nmR, hf, ht2.1, e4, hmem]
          refine ⟨by simp only; rw [if_neg hc], ⟨fun h => .inl h, fun h => h.resolve_right (fun ⟨z, _, h1, h2⟩ => hc ⟨h1, h2⟩)⟩⟩
        · exact jnR_spec ps _ _ s2 hne' hk2 hn2 r hr
theorem join_spec {y a b : Fo} (ky : chkY y = 0) (ka : chkY a = 0) (kb : chkY b = 0) :
    Srt (joF y a b).1 ∧ Clo (joF y a b).1 ∧ KOk (joF y a b).1 ∧ SrtP (joF y a b).2 ∧
    (∀ r, (r ∈ evP [] y ∨ r ∈ evP [] a ∨ r ∈ evP [] b) → rfd (joF y a b).1 r = kpR (flsL [] y) (flsL [] a) (flsL [] b) (joF y a b).1 r ∧ (r ∈ (joF y a b).2 ↔ nmR (flsL [] y) (flsL [] a) (flsL [] b) (joF y a b).1 r)) ∧
    (∀ r, ¬ (r ∈ evP [] y ∨ r ∈ evP [] a ∨ r ∈ evP [] b) → rfd (joF y a b).1 r = none ∧ r ∉ (joF y a b).2) := by
  have hg : ∀ l ∈ [flsL [] y, flsL [] a, flsL [] b], ∀ q ∈ l, GoodP q.p ∧ q.p ≠ [] := fun l hl q hq => by
    simp only [List.mem_cons, List.not_mem_nil, or_false] at hl
    rcases hl with rfl | rfl | rfl
    · exact ⟨fls_good ky q hq, flsL_ne q hq⟩
    · exact ⟨fls_good ka q hq, flsL_ne q hq⟩
    · exact ⟨fls_good kb q hq, flsL_ne q hq⟩
  obtain ⟨h5, h6⟩ := pths_spec (fun l hl x hx => (hg l hl x hx).1)
  have hne : ∀ p ∈ pthsF [flsL [] y, flsL [] a, flsL [] b], p ≠ [] := fun p hp => by
    obtain ⟨l, hl, hp⟩ := (h6 p).1 hp
    obtain ⟨x, hx, rfl⟩ := List.mem_map.1 hp
    exact (hg l hl x hx).2
  obtain ⟨j1, j2, j3, j4⟩ := join_eq (fls_srt ky) (fls_srt ka) (fls_srt kb) hg
  have hjo : joF y a b = jnR (flsL [] y) (flsL [] a) (flsL [] b) (pthsF [flsL [] y, flsL [] a, flsL [] b]) [] [] := j1.symm
  obtain ⟨_, _, _, _, nm, oo, i5, _, i7, _, _⟩ := jn_ls (o := flsL [] y) (a := flsL [] a) (b := flsL [] b) (pthsF [flsL [] y, flsL [] a, flsL [] b]) [] [] [] h5 hne List.Pairwise.nil (fun x hx => by cases hx) (fun x hx => by cases hx)
  have hmem : ∀ r, r ∈ pthsF [flsL [] y, flsL [] a, flsL [] b] ↔ (r ∈ evP [] y ∨ r ∈ evP [] a ∨ r ∈ evP [] b) := fun r => by
    rw [h6 r]
    simp [evP]
  have K : KOk (joF y a b).1 := fun q hq => by
    rcases j4 q hq with h | h | h
    · exact fls_kok y [] q h
    · exact fls_kok a [] q h
    · exact fls_kok b [] q h
  refine ⟨j2, j3, K, ?_, fun r hr => ?_, fun r hr => ?_⟩
  · rw [hjo, i5, List.nil_append]
    exact h5.sublist i7
  · rw [hjo]
    exact jnR_spec _ _ _ h5 hne (fun x hx => by cases hx) (fun x hx => by cases hx) r ((hmem r).2 hr)
  · rw [hjo]
    have := (jnR_at (o := flsL [] y) (a := flsL [] a) (b := flsL [] b) _ [] [] h5 (fun x hx => by cases hx) (fun x hx => by cases hx) r).2.2 (fun h => hr ((hmem r).1 h))
    exact ⟨this.1, fun h => by have := this.2.1 h; cases this⟩
end Go.Proofs.LF
