/- Parts of the proof of a law of layer 11 (file): LfJn. The conditions stand in each theorem. -/
import Derived.Lib.ItoaMem
import Derived.Test.YtadkpjgpefcphaaGreatDoorProg
import Derived.Test.YtadkpjgpefcphaaGreatDoorMdam
import Derived.Test.YtadkpjgpefcphaaGreatDoorMdas
set_option linter.all false
set_option linter.unusedVariables false
set_option linter.unusedSimpArgs false
namespace Go.Proofs.LF
def rfd (l : List Fl) (p : List Ky) : Option Fl := l.find? fun x => decide (x.p = p)
theorem bsF_at' {lt : Nat → Bool} {m J : Nat} (h1 : ∀ k, k < m → lt k = true) (h2 : ∀ k, m ≤ k → k < J → lt k = false) : ∀ (n i j : Nat), j - i ≤ n → i ≤ m → m ≤ j → j ≤ J → bsF lt i j = m
  | 0, i, j, h, hi, hj, _ => by rw [bsF_stop (by omega)]; omega
  | n + 1, i, j, h, hi, hj, hJ => by
    by_cases hij : i < j
    · rw [bsF_go hij]
      by_cases hm : (i + j) / 2 < m
      · rw [if_pos (h1 _ hm)]; exact bsF_at' h1 h2 n _ _ (by omega) (by omega) hj hJ
      · rw [if_neg (by rw [h2 _ (by omega) (by omega)]; simp)]; exact bsF_at' h1 h2 n _ _ (by omega) hi (by omega) (by omega)
    · rw [bsF_stop hij]; omega
theorem srt_part {p : List Ky} : ∀ {l : List Fl}, Srt l → ∃ A B, l = A ++ B ∧ (∀ x ∈ A, cmpP x.p p < 0) ∧ ∀ x ∈ B, 0 ≤ cmpP x.p p
  | [], _ => ⟨[], [], rfl, by simp, by simp⟩
  | x :: l, h => by
    obtain ⟨h1, h2⟩ := List.pairwise_cons.1 h
    by_cases hx : cmpP x.p p < 0
    · obtain ⟨A, B, rfl, hA, hB⟩ := srt_part (p := p) h2
      refine ⟨x :: A, B, rfl, fun y hy => ?_, hB⟩
      rcases List.mem_cons.1 hy with rfl | hy
      · exact hx
      · exact hA y hy
    · refine ⟨[], x :: l, rfl, by simp, fun y hy => ?_⟩
      rcases List.mem_cons.1 hy with rfl | hy
      · omega
      · have := h1 y hy
        rcases Int.lt_or_le (cmpP y.p p) 0 with h' | h'
        · have := cmpP_ord.trans this h'; omega
        · exact h'
theorem fnd_rfd {l : List Fl} (h : Srt l) (p : List Ky) : fnd l p = rfd l p := by
  obtain ⟨A, B, rfl, hA, hB⟩ := srt_part (p := p) h
  have hm : fndI (A ++ B) p = A.length := by
    unfold fndI
    refine bsF_at' (J := (A ++ B).length) (fun k hk => ?_) (fun k hk hJ => ?_) _ _ _ (Nat.le_refl _) (Nat.zero_le _) (by simp) (Nat.le_refl _)
    · rw [decide_eq_true_eq, List.getD_eq_getElem?_getD, List.getElem?_append_left hk, List.getElem?_eq_getElem hk]
      exact hA _ (List.getElem_mem hk)
    · rw [List.length_append] at hJ
      rw [decide_eq_false_iff_not, List.getD_eq_getElem?_getD, List.getElem?_append_right hk, List.getElem?_eq_getElem (by omega)]
      have := hB _ (List.getElem_mem (show k - A.length < B.length by omega))
      simp only [Option.getD_some]; omega
  have hf : rfd (A ++ B) p = rfd B p := by
    unfold rfd
    rw [List.find?_append, show A.find? (fun x => decide (x.p = p)) = none from List.find?_eq_none.2 fun x hx => by
      have := hA x hx
      simp only [decide_eq_true_eq]
      intro e; rw [e, cmpP_ord.refl] at this; omega]
    rfl
  rw [hf, fnd, hm, List.getElem?_append_right (Nat.le_refl _), Nat.sub_self]
  have hsB : Srt B := (List.pairwise_append.1 h).2.1
  cases B with
  | nil => rfl
  | cons x B =>
    simp only [List.getElem?_cons_zero, rfd]
    by_cases hx : cmpP x.p p = 0
    · rw [if_pos hx, List.find?_cons_of_pos (by simpa using cmpP_ord.eq hx)]
    · have hne : x.p ≠ p := fun e => hx (by rw [e, cmpP_ord.refl])
      rw [if_neg hx, List.find?_cons_of_neg (by simpa using hne)]
      symm
      rw [List.find?_eq_none]
      intro y hy
      have h1 := (List.pairwise_cons.1 hsB).1 y hy
      have h2 := hB x (by simp)
      simp only [decide_eq_true_eq]
      intro e
      rw [e] at h1
      omega
theorem rfd_some {l : List Fl} {p : List Ky} {x : Fl} (h : rfd l p = some x) : x ∈ l ∧ x.p = p := ⟨List.mem_of_find?_eq_some h, by have := List.find?_some h; simpa using this⟩
theorem rfd_iff {l : List Fl} {p : List Ky} : (rfd l p).isSome = true ↔ p ∈ l.map Fl.p := by
  unfold rfd
  rw [List.find?_isSome]
  simp
def eqR (a b : List Fl) (p : List Ky) : Bool := match rfd a p, rfd b p with | some x, some y => decide (x.l = y.l) | none, none => true | _, _ => false
theorem smF_eqR {a b : List Fl} (ha : Srt a) (hb : Srt b) (p : List Ky) : smF a b p = eqR a b p := by
  rw [smF, eqR, fnd_rfd ha, fnd_rfd hb]
  cases rfd a p <;> cases rfd b p <;> rfl
def putR (x : Fl) : List Fl → List Fl
  | [] => [x]
  | y :: r => if cmpP x.p y.p < 0 then x :: y :: r else y :: putR x r
theorem putR_mem {x : Fl} : ∀ {l : List Fl} {z : Fl}, z ∈ putR x l ↔ z = x ∨ z ∈ l
  | [], z => by simp [putR]
  | y :: r, z => by
    simp only [putR]
    split
    · simp
    · rw [List.mem_cons, putR_mem, List.mem_cons]
      constructor
      · rintro (h | h | h) <;> simp [h]
      · rintro (h | h | h) <;> simp [h]
theorem putR_srt {x : Fl} : ∀ {l : List Fl}, Srt l → x.p ∉ l.map Fl.p → Srt (putR x l)
  | [], _, _ => by simp [putR, Srt]
  | y :: r, h, hx => by
    obtain ⟨h1, h2⟩ := List.pairwise_cons.1 h
    simp only [List.map_cons, List.mem_cons, not_or] at hx
    simp only [putR]
    split
    · rename_i hlt
      refine List.pairwise_cons.2 ⟨fun z hz => ?_, h⟩
      rcases List.mem_cons.1 hz with rfl | hz
      · exact hlt
      · exact cmpP_ord.trans hlt (h1 z hz)
    · rename_i hlt
      have hyx : cmpP y.p x.p < 0 := by
        rcases Int.lt_trichotomy (cmpP x.p y.p) 0 with h' | h' | h'
        · exact absurd h' hlt
        · exact absurd (cmpP_ord.eq h') hx.1
        · exact cmpP_ord.flop h'
      refine List.pairwise_cons.2 ⟨fun z hz => ?_, putR_srt h2 hx.2⟩
      rcases putR_mem.1 hz with rfl | hz
      · exact hyx
      · exact h1 z hz
def SrtP (l : List (List Ky)) : Prop := l.Pairwise (fun a b => cmpP a b < 0)
theorem srtP_ext : ∀ {l l' : List (List Ky)}, SrtP l → SrtP l' → (∀ p, p ∈ l ↔ p ∈ l') → l = l'
  | [], l', _, _, h => by
    cases l' with
    | nil => rfl
    | cons b t => have := (h b).2 (by simp); cases this
  | a :: t, [], _, _, h => by have := (h a).1 (by simp); cases this
  | a :: t, b :: t', h1, h2, h => by
    obtain ⟨p1, p2⟩ := List.pairwise_cons.1 h1
    obtain ⟨q1, q2⟩ := List.pairwise_cons.1 h2
    have hab : a = b := by
      rcases List.mem_cons.1 ((h a).1 (by simp)) with e | e
      · exact e
      · rcases List.mem_cons.1 ((h b).2 (by simp)) with e' | e'
        · exact e'.symm
        · have := cmpP_ord.trans (p1 b e') (q1 a e)
          rw [cmpP_ord.refl] at this; omega
    subst hab
    rw [srtP_ext p2 q2 fun p => ⟨fun hp => ?_, fun hp => ?_⟩]
    · rcases List.mem_cons.1 ((h p).1 (by simp [hp])) with rfl | e
      · have := p1 p hp; rw [cmpP_ord.refl] at this; omega
      · exact e
    · rcases List.mem_cons.1 ((h p).2 (by simp [hp])) with rfl | e
      · have := q1 p hp; rw [cmpP_ord.refl] at this; omega
      · exact e
theorem srtP_strict {l : List (List Ky)} (h : l.Nodup) : SrtP (srtP l) := by
  have h1 := srtP_sorted l
  have h2 : (srtP l).Nodup := (srtP_perm l).nodup_iff.2 h
  unfold SrtP
  refine (List.Pairwise.and h1 h2).imp fun {a b} ⟨hab, hne⟩ => ?_
  rcases Int.lt_or_eq_of_le hab with h' | h'
  · exact h'
  · exact absurd (cmpP_ord.eq h') hne
theorem srtP_mem {l : List (List Ky)} {p : List Ky} : p ∈ srtP l ↔ p ∈ l := (srtP_perm l).mem_iff
def GoodK (k : Ky) : Prop := (∀ c ∈ k.n, smallB c = true) ∧ 0 ≤ k.x ∧ (k.h = false → k.x = 0)
def GoodP (p : List Ky) : Prop := ∀ k ∈ p, GoodK k
theorem decN_app (l : List UInt8) (c : UInt8) : decN (l ++ [c]) = decN l * 10 + (c.toNat - 48) := by simp [decN, List.foldl_append]
theorem decN_dec : ∀ (m u : Nat), u < m → decN (Lib.decDigits u) = u ∧ ∀ c ∈ Lib.decDigits u, digitB c = true
  | 0, _, h => by omega
  | m + 1, u, h => by
    rw [Lib.decDigits]
    have hd : ∀ k, k < 10 → (UInt8.ofNat (48 + k)).toNat = 48 + k := fun k hk => by
      rw [UInt8.toNat_ofNat']; omega
    by_cases hu : u < 10
    · rw [dif_pos hu]
      refine ⟨?_, fun c hc => ?_⟩
      · show 0 * 10 + ((UInt8.ofNat (48 + u)).toNat - 48) = u
        rw [hd u hu]; omega
      obtain rfl := List.mem_singleton.1 hc
      rw [digitB_iff, hd u hu]; omega
    · rw [dif_neg hu]
      obtain ⟨h1, h2⟩ := decN_dec m (u / 10) (by omega)
      refine ⟨?_, fun c hc => ?_⟩
      · rw [decN_app, h1, hd _ (Nat.mod_lt _ (by omega))]; omega
      · rcases List.mem_append.1 hc with hc | hc
        · exact h2 c hc
        · obtain rfl := List.mem_singleton.1 hc
          rw [digitB_iff, hd _ (Nat.mod_lt _ (by omega))]; omega
theorem split_eq {q : UInt8 → Bool} : ∀ {x x' T T' : List UInt8}, (∀ c ∈ x, q c = true) → (∀ c ∈ x', q c = true) → (∀ c, T.head? = some c → q c = false) → (∀ c, T'.head? = some c → q c = false) → x ++ T = x' ++ T' → x = x' ∧ T = T'
  | [], [], _, _, _, _, _, _, h => ⟨rfl, h⟩
  | [], c :: x', T, T', _, h2, h3, _, h => by
    have h : T = c :: (x' ++ T') := h
    have := h3 c (by rw [h]; rfl)
    rw [h2 c (by simp)] at this; cases this
  | c :: x, [], T, T', h1, _, _, h4, h => by
    have h : c :: (x ++ T) = T' := h
    have := h4 c (by rw [← h]; rfl)
    rw [h1 c (by simp)] at this; cases this
  | c :: x, c' :: x', T, T', h1, h2, h3, h4, h => by
    simp only [List.cons_append, List.cons.injEq] at h
    obtain ⟨rfl, h⟩ := h
    obtain ⟨rfl, rfl⟩ := split_eq (fun d hd => h1 d (by simp [hd])) (fun d hd => h2 d (by simp [hd])) h3 h4 h
    exact ⟨rfl, rfl⟩
theorem sptL_cons (k : Ky) (p : List Ky) : sptL (k :: p) = sptK k ++ sptL p := by simp [sptL]
theorem sptL_head (p : List Ky) : ∀ c, (sptL p).head? = some c → c = 47 := fun c h => by
  cases p with
  | nil => simp [sptL] at h
  | cons k p => rw [sptL_cons, sptK] at h; simpa using h.symm
theorem sptL_inj : ∀ {p q : List Ky}, GoodP p → GoodP q → sptL p = sptL q → p = q
  | [], [], _, _, _ => rfl
  | [], k :: q, _, _, h => by rw [sptL_cons, sptK] at h; simp [sptL] at h
  | k :: p, [], _, _, h => by rw [sptL_cons, sptK] at h; simp [sptL] at h
  | k :: p, j :: q, hp, hq, h => by
    have gk := hp k (by simp)
    have gj := hq j (by simp)
    have hp' : GoodP p := fun x hx => hp x (by simp [hx])
    have hq' : GoodP q := fun x hx => hq x (by simp [hx])
    have e : ∀ (k : Ky), GoodK k → sptK k = 47 :: k.n ++ (if k.h then 58 :: Lib.itoa k.x else []) := fun k g => by
      rw [sptK]
      cases hh : k.h with
      | true => rfl
      | false => simp [g.2.2 hh]
    rw [sptL_cons, sptL_cons, e k gk, e j gj] at h
    simp only [List.cons_append, List.append_assoc, List.cons.injEq, true_and] at h
    have hd : ∀ (k : Ky) (p : List Ky), ∀ c, ((if k.h then 58 :: Lib.itoa k.x else []) ++ sptL p).head? = some c → smallB c = false := fun k p c hc => by
      have hc2 : c = 58 ∨ c = 47 := by
        cases hh : k.h with
        | true => rw [hh] at hc; exact .inl (by simpa using hc.symm)
        | false => rw [hh] at hc; exact .inr (sptL_head p c (by simpa using hc))
      rcases hc2 with rfl | rfl <;> decide
    obtain ⟨hn, hr⟩ := split_eq gk.1 gj.1 (hd k p) (hd j q) h
    obtain ⟨kn, kh, kx⟩ := k
    obtain ⟨jn, jh, jx⟩ := j
    simp only at hn hr gk gj
    subst hn
    cases kh with
    | true =>
      cases jh with
      | true =>
        simp only [if_true, List.cons_append, List.cons.injEq, true_and] at hr
        have ek : Lib.itoa kx = Lib.decDigits kx.toNat := by have := Lib.itoa_nonneg kx.toNat; rwa [Int.toNat_of_nonneg gk.2.1] at this
        have ej : Lib.itoa jx = Lib.decDigits jx.toNat := by have := Lib.itoa_nonneg jx.toNat; rwa [Int.toNat_of_nonneg gj.2.1] at this
        rw [ek, ej] at hr
        have dk := decN_dec (kx.toNat + 1) kx.toNat (Nat.lt_succ_self _)
        have dj := decN_dec (jx.toNat + 1) jx.toNat (Nat.lt_succ_self _)
        obtain ⟨h1, h2⟩ := split_eq (q := digitB) dk.2 dj.2 (fun c hc => by rw [sptL_head p c hc]; decide) (fun c hc => by rw [sptL_head q c hc]; decide) hr
        have hx : kx.toNat = jx.toNat := by rw [← dk.1, ← dj.1, h1]
        have h0 := gk.2.1
        have h0' := gj.2.1
        obtain rfl : kx = jx := by simp only at h0 h0'; omega
        rw [sptL_inj hp' hq' h2]
      | false =>
        have := sptL_head q 58 (by simp at hr; rw [← hr]; rfl)
        simp at this
    | false =>
      cases jh with
      | true =>
        have := sptL_head p 58 (by simp at hr; rw [hr]; rfl)
        simp at this
      | false =>
        have h0 := gk.2.2 rfl
        have h0' := gj.2.2 rfl
        simp only at h0 h0'
        subst h0 h0'
        rw [sptL_inj hp' hq' (by simpa using hr)]
theorem ddP_spec : ∀ {r acc : List (List Ky)}, (∀ p ∈ acc, GoodP p) → (∀ p ∈ r, GoodP p) → acc.Nodup → (ddP acc r).Nodup ∧ ∀ p, p ∈ ddP acc r ↔ p ∈ acc ∨ p ∈ r
  | [], acc, _, _, h => ⟨h, fun p => by simp [ddP]⟩
  | q :: r, acc, ha, hr, h => by
    simp only [ddP]
    by_cases hs : sptL q ∈ acc.map sptL
    · rw [if_pos hs]
      obtain ⟨h1, h2⟩ := ddP_spec (r := r) ha (fun p hp => hr p (by simp [hp])) h
      refine ⟨h1, fun p => ?_⟩
      rw [h2 p, List.mem_cons]
      obtain ⟨z, hz, he⟩ := List.mem_map.1 hs
      have : z = q := sptL_inj (ha z hz) (hr q (by simp)) he
      subst this
      constructor
      · rintro (h | h) <;> simp [h]
      · rintro (h | rfl | h)
        · exact .inl h
        · exact .inl hz
        · exact .inr h
    · rw [if_neg hs]
      have hnq : q ∉ acc := fun e => hs (List.mem_map.2 ⟨q, e, rfl⟩)
      obtain ⟨h1, h2⟩ := ddP_spec (r := r) (acc := acc ++ [q]) (fun p hp => by
        rcases List.mem_append.1 hp with hp | hp
        · exact ha p hp
        · obtain rfl : p = q := by simpa using hp
          exact hr p (by simp)) (fun p hp => hr p (by simp [hp])) (by
        rw [List.nodup_append]
        exact ⟨h, by simp, fun a ha b hb e => by obtain rfl : b = q := by simpa using hb
                                                 exact hnq (e ▸ ha)⟩)
      refine ⟨h1, fun p => ?_⟩
      rw [h2 p, List.mem_append, List.mem_singleton, List.mem_cons]
      constructor
      · rintro ((h | h) | h) <;> simp [h]
      · rintro (h | h | h) <;> simp [h]
theorem pths_spec {ls : List (List Fl)} (h : ∀ l ∈ ls, ∀ x ∈ l, GoodP x.p) : SrtP (pthsF ls) ∧ ∀ p, p ∈ pthsF ls ↔ ∃ l ∈ ls, p ∈ l.map Fl.p := by
  have hg : ∀ p ∈ ls.flatten.map Fl.p, GoodP p := fun p hp => by
    obtain ⟨x, hx, rfl⟩ := List.mem_map.1 hp
    obtain ⟨l, hl, hxl⟩ := List.mem_flatten.1 hx
    exact h l hl x hxl
  obtain ⟨h1, h2⟩ := ddP_spec (acc := []) (by simp) hg List.nodup_nil
  refine ⟨srtP_strict h1, fun p => ?_⟩
  rw [pthsF, srtP_mem, h2 p]
  simp only [List.not_mem_nil, false_or, List.mem_map, List.mem_flatten]
  constructor
  · rintro ⟨x, ⟨l, hl, hx⟩, rfl⟩; exact ⟨l, hl, x, hx, rfl⟩
  · rintro ⟨l, hl, x, hx, rfl⟩; exact ⟨x, ⟨l, hl, hx⟩, rfl⟩
theorem rfd_same {a b : List Fl} {p : List Ky} (h : eqR a b p = true) : rfd a p = rfd b p := by
  unfold eqR at h
  cases ha : rfd a p with
  | none => cases hb : rfd b p with
    | none => rfl
    | some y => rw [ha, hb] at h; cases h
  | some x => cases hb : rfd b p with
    | none => rw [ha, hb] at h; cases h
    | some y =>
      rw [ha, hb] at h
      have h1 := rfd_some ha
      have h2 := rfd_some hb
      have h3 : x.l = y.l := by simpa using h
      cases x; cases y; simp_all
theorem eqR_symm (a b : List Fl) (p : List Ky) : eqR a b p = eqR b a p := by
  unfold eqR
  cases rfd a p <;> cases rfd b p <;> simp [eq_comm]
theorem SrtP.nodup {l : List (List Ky)} (h : SrtP l) : l.Nodup := h.imp fun {a b} hab e => by rw [e, cmpP_ord.refl] at hab; omega
end Go.Proofs.LF
