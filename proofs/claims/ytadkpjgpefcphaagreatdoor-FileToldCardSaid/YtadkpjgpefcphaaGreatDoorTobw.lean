/- Parts of the proof of a law of layer 11 (file): LfJo. The conditions stand in each theorem. -/
import Derived.Test.YtadkpjgpefcphaaGreatDoorProg
import Derived.Test.YtadkpjgpefcphaaGreatDoorTobo
import Derived.Test.YtadkpjgpefcphaaGreatDoorTobv
set_option linter.all false
set_option linter.unusedVariables false
set_option linter.unusedSimpArgs false
namespace Go.Proofs.LF
open Go.RowKit Go.Sort
theorem rfd_none_of {l : List Fl} {p : List Ky} (h : ∀ x ∈ l, x.p ≠ p) : rfd l p = none := by
  rw [rfd, List.find?_eq_none]
  intro x hx
  simpa using h x hx
theorem cmpP_ne {a b : List Ky} (h : cmpP a b < 0) : a ≠ b := fun e => by rw [e, cmpP_ord.refl] at h; omega
theorem cmpP_dropLast : ∀ {p : List Ky}, p ≠ [] → cmpP p.dropLast p < 0
  | [], h => absurd rfl h
  | [a], _ => by simp [cmpP]
  | a :: b :: p, _ => by
    have h := cmpP_dropLast (p := b :: p) (by simp)
    have e : byK a a = 0 := byK_ord.refl a
    rw [List.dropLast_cons_of_ne_nil (by simp), cmpP, if_neg (by simp [e])]
    exact h
theorem jnR_at {o a b : List Fl} : ∀ (ps : List (List Ky)) (kept : List Fl) (named : List (List Ky)), SrtP ps → (∀ x ∈ kept, ∀ p ∈ ps, cmpP x.p p < 0) → (∀ q ∈ named, ∀ p ∈ ps, q ≠ p) → ∀ r,
    (r ∈ ps → r ∉ (jnR o a b ps kept named).2 → rfd (jnR o a b ps kept named).1 r = frR o a b r ∧ clB o a b r = false) ∧
    (r ∈ ps → r ∈ (jnR o a b ps kept named).2 → ∀ x, rfd (jnR o a b ps kept named).1 r = some x → clB o a b r = true ∧ frR o a b r = some x) ∧
    (r ∉ ps → rfd (jnR o a b ps kept named).1 r = rfd kept r ∧ (r ∈ (jnR o a b ps kept named).2 ↔ r ∈ named))
  | [], kept, named, _, _, _, r => ⟨(fun h => by cases h), (fun h => by cases h), fun _ => ⟨rfl, Iff.rfl⟩⟩
  | p :: ps, kept, named, hs, hk, hn, r => by
    obtain ⟨s1, s2⟩ := List.pairwise_cons.1 hs
    have hk' : ∀ x ∈ kept, ∀ q ∈ ps, cmpP x.p q < 0 := fun x hx q hq => hk x hx q (by simp [hq])
    have hpn : p ∉ ps := fun h => cmpP_ne (s1 p h) rfl
    have hnp : p ∉ named := fun h => hn p h p (by simp) rfl
    have hkp : rfd kept p = none := rfd_none_of fun x hx => cmpP_ne (hk x hx p (by simp))
    have hn1 : ∀ q ∈ named ++ [p], ∀ p' ∈ ps, q ≠ p' := fun q hq p' hp' => by
      rcases List.mem_append.1 hq with h | h
      · exact hn q h p' (by simp [hp'])
      · simp only [List.mem_singleton] at h; rw [h]; exact fun e => hpn (e ▸ hp')
    have hn2 : ∀ q ∈ (if clB o a b p then named ++ [p] else named), ∀ p' ∈ ps, q ≠ p' := fun q hq p' hp' => by
      split at hq
      · exact hn1 q hq p' hp'
      · exact hn q hq p' (by simp [hp'])
    have hmem : (p ∈ (if clB o a b p then named ++ [p] else named)) ↔ clB o a b p = true := by
      split
      · rename_i h; simp [h]
      · rename_i h; simp [h, hnp]
    have hmem2 : r ≠ p → ((r ∈ (if clB o a b p then named ++ [p] else named)) ↔ r ∈ named) := fun hr => by
      split <;> simp [hr]
    have hmem3 : r ≠ p → ((r ∈ named ++ [p]) ↔ r ∈ named) := fun hr => by simp [hr]
    rw [jnR]
    cases hf : frR o a b p with
    | none =>
      simp only
      have ih := jnR_at (o := o) (a := a) (b := b) ps kept (if clB o a b p then named ++ [p] else named) s2 hk' hn2
      by_cases hr : r = p
      · subst hr
        obtain ⟨e1, e2⟩ := (ih r).2.2 hpn
        rw [e1, e2, hmem, hkp, hf]
        exact ⟨fun _ h => ⟨rfl, by simpa using h⟩, (fun _ _ x h => by cases h), fun h => absurd (by simp) h⟩
      · refine ⟨fun h => (ih r).1 ((List.mem_cons.1 h).resolve_left hr), fun h => (ih r).2.1 ((List.mem_cons.1 h).resolve_left hr), fun h => ?_⟩
        obtain ⟨e1, e2⟩ := (ih r).2.2 (fun h' => h (by simp [h']))
        exact ⟨e1, e2.trans (hmem2 hr)⟩
    | some x =>
      simp only
      have hxp := (frR_p hf).1
      split
      · have ih := jnR_at (o := o) (a := a) (b := b) ps kept (named ++ [p]) s2 hk' hn1
        by_cases hr : r = p
        · subst hr
          obtain ⟨e1, e2⟩ := (ih r).2.2 hpn
          rw [e1, e2, hkp]
          exact ⟨fun _ h => absurd (by simp) h, (fun _ _ x h => by cases h), fun h => absurd (by simp) h⟩
        · refine ⟨fun h => (ih r).1 ((List.mem_cons.1 h).resolve_left hr), fun h => (ih r).2.1 ((List.mem_cons.1 h).resolve_left hr), fun h => ?_⟩
          obtain ⟨e1, e2⟩ := (ih r).2.2 (fun h' => h (by simp [h']))
          exact ⟨e1, e2.trans (hmem3 hr)⟩
      · have hk2 : ∀ z ∈ kept ++ [x], ∀ q ∈ ps, cmpP z.p q < 0 := fun z hz q hq => by
          rcases List.mem_append.1 hz with h | h
          · exact hk' z h q hq
          · simp only [List.mem_singleton] at h; rw [h, hxp]; exact s1 q hq
        have ih := jnR_at (o := o) (a := a) (b := b) ps (kept ++ [x]) (if clB o a b p then named ++ [p] else named) s2 hk2 hn2
        by_cases hr : r = p
        · subst hr
          obtain ⟨e1, e2⟩ := (ih r).2.2 hpn
          have e3 : rfd (kept ++ [x]) r = some x := by
            rw [rfd, List.find?_append]
            rw [show (kept.find? fun x => decide (x.p = r)) = none from hkp]
            simp [hxp]
          rw [e1, e2, hmem, e3, hf]
          exact ⟨fun _ h => ⟨rfl, by simpa using h⟩, fun _ h y hy => ⟨h, by rw [hy]⟩, fun h => absurd (by simp) h⟩
        · refine ⟨fun h => (ih r).1 ((List.mem_cons.1 h).resolve_left hr), fun h => (ih r).2.1 ((List.mem_cons.1 h).resolve_left hr), fun h => ?_⟩
          obtain ⟨e1, e2⟩ := (ih r).2.2 (fun h' => h (by simp [h']))
          refine ⟨e1.trans ?_, e2.trans (hmem2 hr)⟩
          rw [rfd, List.find?_append]
          have hx2 : ¬ x.p = r := fun e => hr (by rw [← e, hxp])
          simp only [List.find?_cons, List.find?_nil, hx2, decide_false]
          rw [rfd]
          cases kept.find? (fun x => decide (x.p = r)) <;> rfl
theorem filtM_self {a : List Fl} (ha : Srt a) : ∀ {ps : List (List Ky)}, SrtP ps → (∀ x ∈ a, x.p ∈ ps) → ps.filterMap (rfd a) = a := by
  intro ps hp hin
  have h1 : (ps.filterMap (rfd a)).map Fl.p = a.map Fl.p := by
    refine srtP_ext ?_ ha.paths fun q => ?_
    · have : (ps.filterMap (rfd a)).map Fl.p = ps.filter (fun p => (rfd a p).isSome) := by
        clear hin hp
        induction ps with
        | nil => rfl
        | cons p ps ih =>
          rw [List.filterMap_cons, List.filter_cons]
          cases hr : rfd a p with
          | none => simpa using ih
          | some x => simp [ih, (rfd_some hr).2]
      rw [this]
      exact hp.sublist List.filter_sublist
    · rw [List.mem_map, List.mem_map]
      constructor
      · rintro ⟨x, hx, rfl⟩
        obtain ⟨p, _, hp2⟩ := List.mem_filterMap.1 hx
        exact ⟨x, (rfd_some hp2).1, rfl⟩
      · rintro ⟨x, hx, rfl⟩
        have hs : (rfd a x.p).isSome = true := rfd_iff.2 (List.mem_map.2 ⟨x, hx, rfl⟩)
        obtain ⟨z, hz⟩ := Option.isSome_iff_exists.1 hs
        exact ⟨z, List.mem_filterMap.2 ⟨x.p, hin x hx, hz⟩, (rfd_some hz).2⟩
  have h2 : ∀ x ∈ ps.filterMap (rfd a), x ∈ a := fun x hx => by
    obtain ⟨p, _, hp2⟩ := List.mem_filterMap.1 hx
    exact (rfd_some hp2).1
  have hnd := ha.paths.nodup
  have key : ∀ (l : List Fl), l.map Fl.p = a.map Fl.p → (∀ x ∈ l, x ∈ a) → l = a := by
    intro l h1 h2
    have hlen : l.length = a.length := by have := congrArg List.length h1; simpa using this
    refine List.ext_getElem hlen fun i hi hj => ?_
    have e1 : l[i].p = a[i].p := by
      have : (l.map Fl.p)[i]'(by simpa using hi) = (a.map Fl.p)[i]'(by simpa using hj) := by simp only [h1]
      simpa using this
    obtain ⟨j, hj', e2⟩ := List.getElem_of_mem (h2 l[i] (List.getElem_mem hi))
    have e3 : j = i := by
      have h4 : (a.map Fl.p)[j]'(by simpa using hj') = (a.map Fl.p)[i]'(by simpa using hj) := by simp [e2, e1]
      have hp := List.pairwise_iff_getElem.1 hnd
      rcases Nat.lt_trichotomy j i with h | h | h
      · exact absurd h4 (hp j i _ _ h)
      · exact h
      · exact absurd h4.symm (hp i j _ _ h)
    subst e3
    exact e2.symm
  exact key _ h1 h2
theorem lsF_clo {a : List Fl} (ha : Srt a) (hc : Clo a) (hne : ∀ x ∈ a, x.p ≠ []) : ∀ (k r : List Fl), a = k ++ r → lsF k [] r = (a, [])
  | k, [], e => by rw [e]; simp [lsF]
  | k, f :: r, e => by
    have hk : Srt k := by rw [e] at ha; exact (List.pairwise_append.1 ha).1
    rw [lsF, if_pos, lsF_clo ha hc hne (k ++ [f]) r (by rw [e]; simp)]
    by_cases h1 : f.p.length = 1
    · exact .inr h1
    · left
      have hf : f ∈ a := by rw [e]; simp
      have hfp : f.p.dropLast ≠ [] := fun h => by
        have h2 := congrArg List.length h
        rw [List.length_dropLast] at h2
        have h3 : f.p.length ≠ 0 := fun h => hne f hf (List.eq_nil_of_length_eq_zero h)
        simp at h2
        omega
      obtain ⟨z, hz, hzp⟩ := hc f hf hfp
      have hzk : z ∈ k := by
        rw [e] at hz
        rcases List.mem_append.1 hz with h | h
        · exact h
        · exfalso
          have hlt : 0 ≤ cmpP z.p f.p := by
            rcases List.mem_cons.1 h with h | h
            · rw [h, cmpP_ord.refl]; omega
            · have h4 := ha
              rw [e] at h4
              have h5 := (List.pairwise_cons.1 (List.pairwise_append.1 h4).2.1).1 z h
              have := cmpP_ord.flip h5
              omega
          have hlt2 : cmpP z.p f.p < 0 := by
            rw [hzp]
            exact cmpP_dropLast (hne f hf)
          omega
      rw [fnd_rfd hk]
      exact rfd_iff.2 (List.mem_map.2 ⟨z, hzk, hzp⟩)
theorem clo_fls {y : Fo} : Clo (flsL [] y) := fun x hx h => by
  rcases fls_clo y [] x hx with h1 | h1
  · exact absurd h1 h
  · exact h1
theorem join_one {o a b : List Fl} (ho : Srt o) (ha : Srt a) (hb : Srt b) (hc : Clo a) (hg : ∀ l ∈ [o, a, b], ∀ x ∈ l, GoodP x.p ∧ x.p ≠ []) (hcl : ∀ p, clB o a b p = false) (hfr : ∀ p, frR o a b p = rfd a p) :
    (lsF [] [] (jnF o a b [] [] (pthsF [o, a, b])).1).1 = a ∧ srtP (cnF (jnF o a b [] [] (pthsF [o, a, b])).2 (lsF [] [] (jnF o a b [] [] (pthsF [o, a, b])).1).2) = [] := by
  obtain ⟨h5, h6⟩ := pths_spec (fun l hl x hx => (hg l hl x hx).1)
  have hJ : jnF o a b [] [] (pthsF [o, a, b]) = (a, []) := by
    rw [jnF_eq ho ha hb]
    have e1 : (pthsF [o, a, b]).filterMap (frR o a b) = a := by
      rw [show frR o a b = rfd a from funext hfr]
      exact filtM_self ha h5 fun x hx => (h6 x.p).2 ⟨a, by simp, List.mem_map.2 ⟨x, hx, rfl⟩⟩
    have e2 : (pthsF [o, a, b]).filter (clB o a b) = [] := List.filter_eq_nil_iff.2 fun p _ => by simp [hcl p]
    rw [e1, e2]
    rfl
  rw [hJ]
  simp only
  rw [lsF_clo ha hc (fun x hx => (hg a (by simp) x hx).2) [] a rfl]
  exact ⟨rfl, rfl⟩
theorem eqR_self (a : List Fl) (p : List Ky) : eqR a a p = true := by unfold eqR; cases rfd a p <;> simp
theorem joined_one {y a b : Fo} (ky : chkY y = 0) (ka : chkY a = 0) (kb : chkY b = 0) (hcl : ∀ p, clB (flsL [] y) (flsL [] a) (flsL [] b) p = false) (hfr : ∀ p, frR (flsL [] y) (flsL [] a) (flsL [] b) p = rfd (flsL [] a) p) :
    joE y a b = 0 ∧ joY y a b = a ∧ joP y a b = [] := by
  have hcp : cpE [y, a, b] = 0 := by simp [cpE, ky, ka, kb]
  have hg : ∀ l ∈ [flsL [] y, flsL [] a, flsL [] b], ∀ q ∈ l, GoodP q.p ∧ q.p ≠ [] := fun l hl q hq => by
    simp only [List.mem_cons, List.not_mem_nil, or_false] at hl
    rcases hl with rfl | rfl | rfl
    · exact ⟨fls_good ky q hq, flsL_ne q hq⟩
    · exact ⟨fls_good ka q hq, flsL_ne q hq⟩
    · exact ⟨fls_good kb q hq, flsL_ne q hq⟩
  obtain ⟨h1, h2⟩ := join_one (fls_srt ky) (fls_srt ka) (fls_srt kb) clo_fls hg hcl hfr
  have hjo : joF y a b = (flsL [] a, []) := Prod.ext h1 h2
  have hE : joE y a b = 0 := by
    rw [joE, if_neg (by simp [hcp]), hjo, if_neg]
    have := (fls_ok ka).2.2
    simp only
    omega
  refine ⟨hE, ?_, ?_⟩
  · rw [joY, if_pos hE, hjo]; exact treF_flsL a
  · rw [joP, if_pos hE, hjo]
theorem joined_base {y a : Fo} (ky : chkY y = 0) (ka : chkY a = 0) : joE y a y = 0 ∧ joY y a y = a ∧ joP y a y = [] :=
  joined_one ky ka ky (fun p => by simp [clB, eqR_self]) (fun p => by
    rw [frR, if_neg (by simp [clB, eqR_self])]
    split
    · rename_i h; exact rfd_same h
    · rfl)
theorem joined_self {y a : Fo} (ky : chkY y = 0) (ka : chkY a = 0) : joE y a a = 0 ∧ joY y a a = a ∧ joP y a a = [] :=
  joined_one ky ka ka (fun p => by simp [clB, eqR_self]) (fun p => by
    rw [frR, if_neg (by simp [clB, eqR_self])]
    split <;> rfl)
def EqA (x y : Fo) (r : List Ky) : Prop := isAt x r = isAt y r ∧ nsAt x r = nsAt y r
theorem eqA_iff {x y : Fo} {r : List Ky} : eqR (flsL [] x) (flsL [] y) r = true ↔ EqA x y r := by
  unfold eqR EqA isAt nsAt
  cases rfd (flsL [] x) r <;> cases rfd (flsL [] y) r <;> simp
theorem eqA_of {x y : Fo} {r : List Ky} (h : rfd (flsL [] x) r = rfd (flsL [] y) r) : EqA x y r := by
  unfold EqA isAt nsAt
  rw [h]
  exact ⟨rfl, rfl⟩
theorem joined_two {y a b : Fo} (ky : chkY y = 0) (ka : chkY a = 0) (kb : chkY b = 0) (h : joE y a b = 0) : (joY y a b).cnt ≤ 60 ∧ ∀ r, r ∈ evP [] a ∨ r ∈ evP [] b →
    (EqA y b r → r ∉ joP y a b → EqA (joY y a b) a r) ∧ (EqA y a r → r ∉ joP y a b → EqA (joY y a b) b r) ∧ (r ∈ joP y a b → isAt (joY y a b) r = true → isAt y r = true ∧ nsAt (joY y a b) r = nsAt y r) ∧ (¬ EqA y a r → ¬ EqA y b r → r ∉ joP y a b → EqA a b r) := by
  have hcp : cpE [y, a, b] = 0 := by simp [cpE, ky, ka, kb]
  have hg : ∀ l ∈ [flsL [] y, flsL [] a, flsL [] b], ∀ q ∈ l, GoodP q.p ∧ q.p ≠ [] := fun l hl q hq => by
    simp only [List.mem_cons, List.not_mem_nil, or_false] at hl
    rcases hl with rfl | rfl | rfl
    · exact ⟨fls_good ky q hq, flsL_ne q hq⟩
    · exact ⟨fls_good ka q hq, flsL_ne q hq⟩
    · exact ⟨fls_good kb q hq, flsL_ne q hq⟩
  obtain ⟨h5, h6⟩ := pths_spec (fun l hl x hx => (hg l hl x hx).1)
  obtain ⟨j1, j2, j3, j4⟩ := join_eq (fls_srt ky) (fls_srt ka) (fls_srt kb) hg
  have hjo : joF y a b = jnR (flsL [] y) (flsL [] a) (flsL [] b) (pthsF [flsL [] y, flsL [] a, flsL [] b]) [] [] := j1.symm
  have hK : KOk (joF y a b).1 := fun q hq => by
    rcases j4 q hq with h | h | h
    · exact fls_kok y [] q h
    · exact fls_kok a [] q h
    · exact fls_kok b [] q h
  have hfl : flsL [] (joY y a b) = (joF y a b).1 := by
    rw [joY, if_pos h]
    exact fls_of j2 j3 hK
  have hlen : (joF y a b).1.length ≤ 60 := by
    have h' := h
    rw [joE, if_neg (by simp [hcp])] at h'
    by_cases h60 : 60 < (joF y a b).1.length
    · rw [if_pos h60] at h'; omega
    · omega
  refine ⟨by rw [← flsL_length [], hfl]; exact hlen, fun r hr => ?_⟩
  have hrp : r ∈ pthsF [flsL [] y, flsL [] a, flsL [] b] := (h6 r).2 (by
    rcases hr with hr | hr
    · exact ⟨_, by simp, hr⟩
    · exact ⟨_, by simp, hr⟩)
  have hat := jnR_at (o := flsL [] y) (a := flsL [] a) (b := flsL [] b) (pthsF [flsL [] y, flsL [] a, flsL [] b]) [] [] h5 (fun x hx => by cases hx) (fun x hx => by cases hx) r
  rw [← hjo] at hat
  rw [joP, if_pos h]
  obtain ⟨A1, A2, _⟩ := hat
  rw [← hfl] at A1 A2
  refine ⟨fun e1 hn => ?_, fun e1 hn => ?_, fun hn hi => ?_, fun e1 e2 hn => ?_⟩
  · obtain ⟨k1, k2⟩ := A1 hrp hn
    refine eqA_of (k1.trans ?_)
    have e1' := eqA_iff.2 e1
    rw [frR, k2, if_neg (by simp)]
    split
    · rename_i h2; exact (rfd_same e1').symm.trans (rfd_same h2)
    · rfl
  · obtain ⟨k1, k2⟩ := A1 hrp hn
    refine eqA_of (k1.trans ?_)
    rw [frR, k2, if_neg (by simp), if_pos (eqA_iff.2 e1)]
  · obtain ⟨x, hx⟩ := Option.isSome_iff_exists.1 hi
    obtain ⟨k1, k2⟩ := A2 hrp hn x hx
    rw [frR, if_pos k1] at k2
    have := eqA_of (x := joY y a b) (y := y) (r := r) (hx.trans k2.symm)
    exact ⟨this.1.symm.trans hi, this.2⟩
  · obtain ⟨k1, k2⟩ := A1 hrp hn
    have e1' : eqR (flsL [] y) (flsL [] a) r = false := by
      rw [← Bool.not_eq_true]; exact fun h => e1 (eqA_iff.1 h)
    have e2' : eqR (flsL [] y) (flsL [] b) r = false := by
      rw [← Bool.not_eq_true]; exact fun h => e2 (eqA_iff.1 h)
    have : eqR (flsL [] a) (flsL [] b) r = true := by
      simp only [clB, e1', e2'] at k2
      simpa using k2
    exact eqA_iff.1 this
end Go.Proofs.LF
