/- Parts of the proof of a law of layer 11 (file): LfYear, LfDr. The conditions stand in each theorem. -/
import Derived.Test.YtadkpjgpefcphaaGreatDoorProg
import Derived.Test.YtadkpjgpefcphaaGreatDoorCkad
import Derived.Test.YtadkpjgpefcphaaGreatDoorCkae
set_option linter.all false
set_option linter.unusedVariables false
set_option linter.unusedSimpArgs false
namespace Go.Proofs.LF
theorem cntG_over : ∀ (y : Fo) (d n : Int), 80 < n → 80 < cntG d n y
 | .nil, d, n, h => by simpa [cntG] using h
 | .cons _ _ _ _, d, n, h => by simp only [cntG]; rw [if_pos (.inr (.inl h))]; omega
theorem cntG_small : ∀ (y : Fo) (d n : Int), 0 ≤ n → cntG d n y ≤ 80 → cntG d n y = n + y.cnt ∧ y.Sm
 | .nil, d, n, _, _ => by simp [cntG, Fo.cnt, Fo.Sm]
 | .cons nm l s r, d, n, hn, h => by
   simp only [cntG] at h ⊢
   by_cases hc : 8 < d ∨ 80 < n ∨ 8 < (l.length : Int) ∨ 20 < (nm.length : Int)
   · rw [if_pos hc] at h; omega
   · rw [if_neg hc] at h ⊢
     have hv : n + (1 + cntG (d + 1) 0 s) ≤ 80 := by
      rcases Int.lt_or_le 80 (n + (1 + cntG (d + 1) 0 s)) with h' | h'
      · have := cntG_over r d _ h'; omega
      · exact h'
     have h1 := cntG_small s (d + 1) 0 (Int.le_refl _) (by omega)
     have h2 := cntG_small r d (n + (1 + cntG (d + 1) 0 s)) (by omega) h
     have hl : ∀ z : Fo, z.len ≤ z.cnt := by
      intro z
      induction z with
      | nil => exact nl_ _
      | cons _ _ _ _ _ ih => simp only [Fo.len, Fo.cnt]; omega
     have := hl s
     refine ⟨by rw [h2.1, h1.1]; simp only [Fo.cnt]; omega, by omega, by omega, by omega, h1.2, h2.2⟩
theorem len_cnt : ∀ z : Fo, z.len ≤ z.cnt
 | .nil => nl_ _
 | .cons _ _ _ r => by have := len_cnt r; simp only [Fo.len, Fo.cnt]; omega
theorem ordG_cons {bad : Ky → Ky → Bool} {n : List UInt8} {l : List Int} {s r : Fo} {d : Int} {p : Option Ky} (h : ordG bad d p (.cons n l s r) = 0) : d ≤ 3 ∧ (∀ q, p = some q → bad q (kyOf n l) = false) ∧ ordG bad (d + 1) none s = 0 ∧ ordG bad d (some (kyOf n l)) r = 0 := by
 simp only [ordG] at h
 by_cases h1 : 3 < d
 · rw [if_pos h1] at h; omega
 rw [if_neg h1] at h
 by_cases h2 : badNm n = true
 · rw [if_pos h2] at h; omega
 rw [if_neg h2] at h
 by_cases h3 : 4 < (l.length : Int)
 · rw [if_pos h3] at h; omega
 rw [if_neg h3] at h
 by_cases h4 : badNs l = true
 · rw [if_pos h4] at h; omega
 rw [if_neg h4] at h
 have h0 : (∀ q, p = some q → bad q (kyOf n l) = false) ∧ (if ordG bad (d + 1) none s ≠ 0 then ordG bad (d + 1) none s else ordG bad d (some (kyOf n l)) r) = 0 := by
  cases p with
  | none => dsimp only at h; rw [if_neg (by simp)] at h; exact ⟨(fun q e => by cases e), h⟩
  | some q =>
    dsimp only at h
    have a5 : ¬ (bad q (kyOf n l) = true) := fun e => by rw [if_pos e] at h; omega
    rw [if_neg a5] at h
    exact ⟨(fun q' e => by cases e; simpa using a5), h⟩
 have a6 : ¬ (ordG bad (d + 1) none s ≠ 0) := fun e => by have h := h0.2; rw [if_pos e] at h; exact e h
 have h7 := h0.2
 rw [if_neg a6] at h7
 exact ⟨by omega, h0.1, by simpa using a6, h7⟩
theorem ordG_srt : ∀ (y : Fo) (d : Int) (p : Option Ky) (u : List Ky), ordG geK d p y = 0 → Srt (flsL u y) ∧ ∀ q, p = some q → ∀ x ∈ flsL u y, ∃ k t, x.p = u ++ k :: t ∧ byK q k < 0
 | .nil, _, _, u, _ => by simp [flsL_nil, Srt]
 | .cons n l s r, d, p, u, h => by
   obtain ⟨hd3, hp, h1', h⟩ := ordG_cons h
   ·
    obtain ⟨s1, _⟩ := ordG_srt s (d + 1) none (u ++ [kyOf n l]) h1'
    obtain ⟨s2, t2⟩ := ordG_srt r d (some (kyOf n l)) u h
    have t2 := t2 _ rfl
    refine ⟨?_, ?_⟩
    · rw [flsL_cons]
      unfold Srt at *
      rw [List.pairwise_cons, List.pairwise_append]
      refine ⟨fun x hx => ?_, s1, s2, fun a ha b hb => ?_⟩
      · rcases List.mem_append.1 hx with hx | hx
        · obtain ⟨k, t, hk⟩ := flsL_pre s _ x hx
          rw [hk]; exact cmpP_pre _ _ (by simp)
        · obtain ⟨k, t, hk, hb⟩ := t2 x hx
          rw [hk, cmpP_same]
          simp only [cmpP]
          rw [if_pos (by omega)]; exact hb
      · obtain ⟨k, t, hk⟩ := flsL_pre s _ a ha
        obtain ⟨k', t', hk', hb'⟩ := t2 b hb
        rw [hk, hk', List.append_assoc, cmpP_same]
        simp only [List.singleton_append, cmpP]
        rw [if_pos (by omega)]; exact hb'
    · rintro q rfl x hx
      have hq : byK q (kyOf n l) < 0 := by
       have := hp q rfl
       simp only [geK, decide_eq_false_iff_not] at this; omega
      rw [flsL_cons] at hx
      rcases List.mem_cons.1 hx with rfl | hx
      · exact ⟨_, [], rfl, hq⟩
      · rcases List.mem_append.1 hx with hx | hx
        · obtain ⟨k, t, hk⟩ := flsL_pre s _ x hx
          exact ⟨kyOf n l, k :: t, by rw [hk]; simp, hq⟩
        · obtain ⟨k, t, hk, hb⟩ := t2 x hx
          exact ⟨k, t, hk, byK_ord.trans hq hb⟩
theorem fls_clo : ∀ (y : Fo) (u : List Ky), ∀ x ∈ flsL u y, x.p.dropLast = u ∨ ∃ z ∈ flsL u y, z.p = x.p.dropLast
 | .nil, u, x, h => by simp [flsL_nil] at h
 | .cons n l s r, u, x, h => by
   rw [flsL_cons] at h ⊢
   rcases List.mem_cons.1 h with rfl | h
   · exact .inl (by simp)
   · rcases List.mem_append.1 h with h | h
     · rcases fls_clo s _ x h with h' | ⟨z, hz, h'⟩
       · exact .inr ⟨_, List.mem_cons_self .., h'.symm⟩
       · exact .inr ⟨z, by simp [hz], h'⟩
     · rcases fls_clo r u x h with h' | ⟨z, hz, h'⟩
       · exact .inl h'
       · exact .inr ⟨z, by simp [hz], h'⟩
end Go.Proofs.LF
namespace Go.Proofs.LF
def drP (q : List Ky) (l : List Fl) : List Fl := l.filter fun f => !(decide (q.length ≤ f.p.length) && decide (f.p.take q.length = q))
def dropE (y : Fo) (q : List Ky) : Int := if chkY y ≠ 0 then chkY y else if (fnd (flsL [] y) q).isSome then 0 else 1
def dropY (y : Fo) (q : List Ky) : Fo := if dropE y q = 0 then (treF 0 (drP q (flsL [] y))).1 else .nil
end Go.Proofs.LF
