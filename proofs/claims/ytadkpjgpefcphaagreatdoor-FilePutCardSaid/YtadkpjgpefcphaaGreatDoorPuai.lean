/- Parts of the proof of a law of layer 11 (file): LfChain. The conditions stand in each theorem. -/
import Derived.Test.YtadkpjgpefcphaaGreatDoorProg
import Derived.Test.YtadkpjgpefcphaaGreatDoorPuah
set_option linter.all false
set_option linter.unusedVariables false
set_option linter.unusedSimpArgs false
namespace Go.Proofs.LF
def ChF : List Ky → List Fl → Prop
  | _, [] => True
  | up, x :: l => (∃ d n, d ≤ up.length ∧ x.p = up.take d ++ [kyOf n x.l]) ∧ ChF x.p l
theorem treF_chain : ∀ (m : Nat) (l : List Fl) (up : List Ky) (d : Nat), l.length ≤ m → d ≤ up.length → ChF up l → (∀ x, l.head? = some x → x.p.length ≤ d + 1) →
    flsL (up.take d) (treF d l).1 = l.take (treF d l).2 ∧ Above d (l.drop (treF d l).2) ∧ ∃ up', d ≤ up'.length ∧ up'.take d = up.take d ∧ ChF up' (l.drop (treF d l).2)
  | _, [], up, d, _, hd, _, _ => by
    rw [treF_nil]
    exact ⟨rfl, (fun x hx => by cases hx), up, hd, rfl, trivial⟩
  | 0, _ :: _, _, _, h, _, _, _ => by simp at h
  | m + 1, x :: l, up, d, hm, hd, ⟨⟨e, n, he, hx⟩, hc⟩, hh => by
    have hxl : x.p.length = e + 1 := by rw [hx]; simp; omega
    have h1 := hh x rfl
    by_cases hde : e = d
    · subst hde
      have hhead : ∀ {l : List Fl}, ChF x.p l → ∀ z, l.head? = some z → z.p.length ≤ e + 1 + 1 := fun {l} hl z hz => by
        cases l with
        | nil => cases hz
        | cons y l =>
          obtain ⟨⟨d', n', hd', hy⟩, _⟩ := hl
          obtain rfl : y = z := by simpa using hz
          rw [hy]; simp; omega
      obtain ⟨f1, a1, up1, u1, u2, c1⟩ := treF_chain m l x.p (e + 1) (by simpa using hm) (by omega) hc (hhead hc)
      obtain ⟨f2, a2, up2, v1, v2, c2⟩ := treF_chain m (l.drop (treF (e + 1) l).2) up1 e (by rw [List.length_drop]; simp at hm; omega) (by omega) c1 a1
      have hxt : x.p.take (e + 1) = x.p := List.take_of_length_le (by omega)
      have hue : up1.take e = up.take e := by
        have h := congrArg (List.take e) u2
        rw [List.take_take, Nat.min_eq_left (by omega), hxt] at h
        rw [h, hx, List.take_append_of_le_length (by simp; omega), List.take_take, Nat.min_self]
      have hget : x.p[e]'(by omega) = kyOf n x.l := by
        have hle : (up.take e).length = e := by simp; omega
        have : x.p[e]? = some (kyOf n x.l) := by rw [hx, List.getElem?_append_right (by omega)]; simp [hle]
        exact (List.getElem?_eq_some_iff.1 this).2
      have hcat : up.take e ++ [kyOf n x.l] = x.p := hx.symm
      rw [treF_yes hxl]
      simp only
      rw [hxt] at f1
      rw [hue] at f2 v2
      refine ⟨?_, ?_, up2, v1, v2, ?_⟩
      · rw [flsL_cons, hget, kyOf_n, hcat, f1, f2, show 1 + (treF (e + 1) l).2 + (treF e (l.drop (treF (e + 1) l).2)).2 = ((treF (e + 1) l).2 + (treF e (l.drop (treF (e + 1) l).2)).2) + 1 by omega, List.take_succ_cons, List.take_add]
      · rw [show 1 + (treF (e + 1) l).2 + (treF e (l.drop (treF (e + 1) l).2)).2 = ((treF (e + 1) l).2 + (treF e (l.drop (treF (e + 1) l).2)).2) + 1 by omega, List.drop_succ_cons, ← List.drop_drop]
        exact a2
      · rw [show 1 + (treF (e + 1) l).2 + (treF e (l.drop (treF (e + 1) l).2)).2 = ((treF (e + 1) l).2 + (treF e (l.drop (treF (e + 1) l).2)).2) + 1 by omega, List.drop_succ_cons, ← List.drop_drop]
        exact c2
    · rw [treF_no (by omega)]
      refine ⟨rfl, (fun z hz => ?_), up, hd, rfl, ⟨e, n, he, hx⟩, hc⟩
      obtain rfl : x = z := by simpa using hz
      omega
theorem fls_chain {l : List Fl} (h : ChF [] l) : flsL [] (treF 0 l).1 = l := by
  obtain ⟨h1, h2, up', _, _, h3⟩ := treF_chain l.length l [] 0 (Nat.le_refl _) (Nat.zero_le _) h (fun x hx => by
    cases l with
    | nil => cases hx
    | cons y l =>
      obtain ⟨⟨d', n', hd', hy⟩, _⟩ := h
      obtain rfl : y = x := by simpa using hx
      rw [hy]; simp at hd' ⊢)
  have h4 : l.drop (treF 0 l).2 = [] := by
    cases hq : l.drop (treF 0 l).2 with
    | nil => rfl
    | cons y r =>
      rw [hq] at h2 h3
      obtain ⟨⟨d', n', hd', hy⟩, _⟩ := h3
      have := h2 y rfl
      rw [hy] at this
      simp at this
  have h5 := List.take_append_drop (treF 0 l).2 l
  rw [h4, List.append_nil] at h5
  rw [List.take_nil] at h1
  rw [h1, h5]
def Srt (l : List Fl) : Prop := l.Pairwise (fun a b => cmpP a.p b.p < 0)
def Clo (l : List Fl) : Prop := ∀ x ∈ l, x.p.dropLast ≠ [] → ∃ z ∈ l, z.p = x.p.dropLast
def KOk (l : List Fl) : Prop := ∀ x ∈ l, ∃ u n, x.p = u ++ [kyOf n x.l]
theorem cmpP_pre : ∀ (u t : List Ky), t ≠ [] → cmpP u (u ++ t) < 0
  | [], t, h => by cases t with | nil => exact absurd rfl h | cons _ _ => simp [cmpP]
  | a :: u, t, h => by simp only [List.cons_append, cmpP, byK_ord.refl, ne_eq, not_true, if_false]; exact cmpP_pre u t h
theorem cmpP_same (x y : List Ky) : ∀ (u : List Ky), cmpP (u ++ x) (u ++ y) = cmpP x y
  | [] => rfl
  | a :: u => by simp only [List.cons_append, cmpP, byK_ord.refl, ne_eq, not_true, if_false]; exact cmpP_same x y u
theorem pre_between : ∀ {u a r : List Ky}, cmpP u a ≤ 0 → cmpP a (u ++ r) ≤ 0 → ∃ t, a = u ++ t
  | [], a, _, _, _ => ⟨a, rfl⟩
  | c :: u, [], r, h, _ => by simp [cmpP] at h
  | c :: u, b :: a, r, h, k => by
    simp only [List.cons_append, cmpP] at h k
    by_cases hcb : byK c b = 0
    · obtain rfl := byK_ord.eq hcb
      simp only [hcb, ne_eq, not_true, if_false] at h k
      obtain ⟨t, rfl⟩ := pre_between h k
      exact ⟨t, rfl⟩
    · simp only [ne_eq, hcb, not_false_eq_true, if_true] at h
      have h1 : byK c b < 0 := by omega
      have h2 := byK_ord.flip h1
      have h3 : byK b c ≠ 0 := by omega
      simp only [ne_eq, h3, not_false_eq_true, if_true] at k
      omega
theorem chain_of {l : List Fl} (h1 : Srt l) (h2 : Clo l) (h3 : KOk l) : ChF [] l := by
  have key : ∀ (B A : List Fl), l = A ++ B → ChF ((A.getLast?.map Fl.p).getD []) B := by
    intro B
    induction B with
    | nil => intro A _; trivial
    | cons x B ih =>
      intro A hl
      have hx : x ∈ l := by rw [hl]; simp
      refine ⟨?_, ?_⟩
      · obtain ⟨u, n, hu⟩ := h3 x hx
        by_cases h0 : u = []
        · exact ⟨0, n, Nat.zero_le _, by rw [hu, h0]; rfl⟩
        · obtain ⟨z, hz, hzp⟩ := h2 x hx (by rw [hu]; simpa using h0)
          rw [hu, List.dropLast_concat] at hzp
          have hzx : cmpP z.p x.p < 0 := by rw [hzp, hu]; exact cmpP_pre _ _ (by simp)
          unfold Srt at h1
          rw [hl] at h1 hz
          rw [List.pairwise_append] at h1
          obtain ⟨p1, p2, p3⟩ := h1
          have hzA : z ∈ A := by
            rcases List.mem_append.1 hz with h | h
            · exact h
            · rcases List.mem_cons.1 h with rfl | h
              · rw [cmpP_ord.refl] at hzx; omega
              · have := (List.pairwise_cons.1 p2).1 z h
                have := cmpP_ord.flip this
                omega
          obtain ⟨A', a, rfl⟩ : ∃ A' a, A = A' ++ [a] := ⟨A.dropLast, A.getLast (by intro e; rw [e] at hzA; cases hzA), by rw [List.dropLast_concat_getLast]⟩
          have hza : cmpP u a.p ≤ 0 := by
            rcases List.mem_append.1 hzA with h | h
            · have := (List.pairwise_append.1 p1).2.2 z h a (by simp)
              rw [hzp] at this; omega
            · obtain rfl : z = a := by simpa using h
              rw [hzp, cmpP_ord.refl]; exact Int.le_refl _
          have hax : cmpP a.p (u ++ [kyOf n x.l]) ≤ 0 := by
            have := p3 a (by simp) x (by simp)
            rw [hu] at this; omega
          obtain ⟨t, ht⟩ := pre_between hza hax
          refine ⟨u.length, n, ?_, ?_⟩
          · simp [ht]
          · simp [ht, hu]
      · have := ih (A ++ [x]) (by rw [hl]; simp)
        simpa using this
  exact key l [] rfl
theorem fls_of {l : List Fl} (h1 : Srt l) (h2 : Clo l) (h3 : KOk l) : flsL [] (treF 0 l).1 = l := fls_chain (chain_of h1 h2 h3)
def isBel (u : List Ky) (x : Fl) : Bool := decide (u.length < x.p.length) && decide (x.p.take u.length = u)
def isCh (u : List Ky) (x : Fl) : Bool := decide (x.p.length = u.length + 1) && decide (x.p.take u.length = u)
def toFo (g : Fl → Fo) (d : Nat) : List Fl → Fo
  | [] => .nil
  | x :: l => .cons (x.p.getD d ⟨[], false, 0⟩).n x.l (g x) (toFo g d l)
def treR : Nat → List Fl → List Ky → Fo
  | 0, _, _ => .nil
  | f + 1, L, u => toFo (fun x => treR f L x.p) u.length (L.filter (isCh u))
def Fo.hgt : Fo → Nat
  | .nil => 0
  | .cons _ _ s r => max (s.hgt + 1) r.hgt
theorem flsL_pre : ∀ (y : Fo) (u : List Ky), ∀ x ∈ flsL u y, ∃ k t, x.p = u ++ k :: t
  | .nil, u, x, h => by simp [flsL_nil] at h
  | .cons n l s r, u, x, h => by
    rw [flsL_cons] at h
    rcases List.mem_cons.1 h with rfl | h
    · exact ⟨_, [], rfl⟩
    · rcases List.mem_append.1 h with h | h
      · obtain ⟨k, t, hp⟩ := flsL_pre s _ x h
        exact ⟨kyOf n l, k :: t, by rw [hp]; simp⟩
      · exact flsL_pre r u x h
theorem isBel_pre {u t : List Ky} {k : Ky} {x : Fl} (h : x.p = u ++ k :: t) : isBel u x = true := by
  simp [isBel, h]
theorem isCh_bel {u : List Ky} {x : Fl} (h : isCh u x = true) : isBel u x = true := by
  simp only [isCh, isBel, Bool.and_eq_true, decide_eq_true_eq] at *
  exact ⟨by omega, h.2⟩
theorem filter_all {α : Type} {p : α → Bool} {l : List α} (h : ∀ x ∈ l, p x = true) : l.filter p = l := List.filter_eq_self.2 h
theorem filter_no {α : Type} {p : α → Bool} {l : List α} (h : ∀ x ∈ l, p x = false) : l.filter p = [] := by
  rw [List.filter_eq_nil_iff]; intro x hx; rw [h x hx]; simp
theorem top_mem : ∀ (y : Fo) (u : List Ky) (x : Fl), x ∈ flsL u y → ∀ k t, x.p = u ++ k :: t → (u ++ [k]) ∈ (flsL u y).map Fl.p
  | .nil, _, _, h, _, _, _ => by simp [flsL_nil] at h
  | .cons n l s r, u, x, h, k, t, hp => by
    rw [flsL_cons] at h ⊢
    rcases List.mem_cons.1 h with rfl | h
    · have h1 : kyOf n l = k ∧ [] = t := by simpa using hp
      simp [h1.1]
    · rcases List.mem_append.1 h with h | h
      · obtain ⟨k2, t2, hp2⟩ := flsL_pre s _ x h
        rw [hp2] at hp
        have h1 : kyOf n l = k := by simp at hp; exact hp.1
        simp [h1]
      · have := top_mem r u x h k t hp
        simp only [List.map_cons, List.map_append, List.mem_cons, List.mem_append]
        exact .inr (.inr this)
theorem bel_at : ∀ (y : Fo) (u : List Ky) (i : Nat) (n : List UInt8) (l : List Int) (s r : Fo), ((flsL u y).map Fl.p).Nodup → y.drop i = .cons n l s r → (flsL u y).filter (isBel (u ++ [kyOf n l])) = flsL (u ++ [kyOf n l]) s
  | .nil, _, i, _, _, _, _, _, h => by cases i <;> simp [Fo.drop] at h
  | .cons n' l' s' r', u, 0, n, l, s, r, hnd, h => by
    simp only [Fo.drop, Fo.cons.injEq] at h
    obtain ⟨rfl, rfl, rfl, rfl⟩ := h
    rw [flsL_cons] at hnd ⊢
    have h1 : (flsL (u ++ [kyOf n' l']) s').filter (isBel (u ++ [kyOf n' l'])) = flsL (u ++ [kyOf n' l']) s' := filter_all fun x hx => by
      obtain ⟨k, t, hp⟩ := flsL_pre s' _ x hx
      exact isBel_pre hp
    have h2 : (flsL u r').filter (isBel (u ++ [kyOf n' l'])) = [] := filter_no fun x hx => by
      cases hb : isBel (u ++ [kyOf n' l']) x with
      | false => rfl
      | true =>
        obtain ⟨k, t, hp⟩ := flsL_pre r' _ x hx
        simp only [isBel, Bool.and_eq_true, decide_eq_true_eq, hp, List.length_append, List.length_cons, List.length_nil] at hb
        have hk : k = kyOf n' l' := by
          have := hb.2
          rw [show u.length + (0 + 1) = u.length + 1 by omega, List.take_length_add_append] at this
          simpa using this
        have := top_mem r' u x hx k t hp
        rw [hk] at this
        simp only [List.map_cons, List.nodup_cons, List.map_append, List.mem_append, not_or] at hnd
        exact absurd this hnd.1.2
    rw [List.filter_cons, if_neg (by simp [isBel]), List.filter_append, h1, h2, List.append_nil]
  | .cons n' l' s' r', u, i + 1, n, l, s, r, hnd, h => by
    simp only [Fo.drop] at h
    rw [flsL_cons] at hnd ⊢
    simp only [List.map_cons, List.nodup_cons, List.map_append, List.mem_append, not_or, List.nodup_append] at hnd
    have h1 : (flsL (u ++ [kyOf n' l']) s').filter (isBel (u ++ [kyOf n l])) = [] := filter_no fun x hx => by
      cases hb : isBel (u ++ [kyOf n l]) x with
      | false => rfl
      | true =>
        obtain ⟨k, t, hp⟩ := flsL_pre s' _ x hx
        simp only [isBel, Bool.and_eq_true, decide_eq_true_eq, hp, List.length_append, List.length_cons, List.length_nil] at hb
        have hk : kyOf n' l' = kyOf n l := by
          have := hb.2
          rw [List.append_assoc, show u.length + (0 + 1) = u.length + 1 by omega, List.take_length_add_append] at this
          simpa using this
        exfalso
        refine hnd.1.2 ?_
        rw [hk]
        have hm : ∀ (z : Fo) (i : Nat), z.drop i = .cons n l s r → (u ++ [kyOf n l]) ∈ (flsL u z).map Fl.p := by
          intro z
          induction z with
          | nil => intro i h; cases i <;> simp [Fo.drop] at h
          | cons a b c e _ ih =>
            intro i h
            rw [flsL_cons]
            cases i with
            | zero => simp only [Fo.drop, Fo.cons.injEq] at h; simp [h.1, h.2.1]
            | succ i => simp only [List.map_cons, List.map_append, List.mem_cons, List.mem_append]; exact .inr (.inr (ih i h))
        exact hm r' i h
    rw [List.filter_cons, if_neg (by simp [isBel]), List.filter_append, h1, List.nil_append]
    exact bel_at r' u i n l s r hnd.2.2.1 h
theorem hgt_drop : ∀ (y : Fo) (i : Nat) (n : List UInt8) (l : List Int) (s r : Fo), y.drop i = .cons n l s r → s.hgt + 1 ≤ y.hgt
  | .nil, i, _, _, _, _, h => by cases i <;> simp [Fo.drop] at h
  | .cons _ _ _ _, 0, n, l, s, r, h => by
    simp only [Fo.drop, Fo.cons.injEq] at h
    obtain ⟨rfl, rfl, rfl, rfl⟩ := h
    simp only [Fo.hgt]; omega
  | .cons _ _ _ r', i + 1, n, l, s, r, h => by
    simp only [Fo.drop] at h
    have := hgt_drop r' i n l s r h
    simp only [Fo.hgt]; omega
theorem nodup_at : ∀ (y : Fo) (u : List Ky) (i : Nat) (n : List UInt8) (l : List Int) (s r : Fo), ((flsL u y).map Fl.p).Nodup → y.drop i = .cons n l s r → ((flsL (u ++ [kyOf n l]) s).map Fl.p).Nodup
  | .nil, _, i, _, _, _, _, _, h => by cases i <;> simp [Fo.drop] at h
  | .cons n' l' s' r', u, 0, n, l, s, r, hnd, h => by
    simp only [Fo.drop, Fo.cons.injEq] at h
    obtain ⟨rfl, rfl, rfl, rfl⟩ := h
    rw [flsL_cons] at hnd
    simp only [List.map_cons, List.nodup_cons, List.map_append, List.nodup_append] at hnd
    exact hnd.2.1
  | .cons n' l' s' r', u, i + 1, n, l, s, r, hnd, h => by
    simp only [Fo.drop] at h
    rw [flsL_cons] at hnd
    simp only [List.map_cons, List.nodup_cons, List.map_append, List.nodup_append] at hnd
    exact nodup_at r' u i n l s r hnd.2.2.1 h
theorem toFo_fls (g : Fl → Fo) : ∀ (y : Fo) (u : List Ky), (∀ i n l s r, y.drop i = .cons n l s r → g ⟨u ++ [kyOf n l], l⟩ = s) → toFo g u.length ((flsL u y).filter (isCh u)) = y
  | .nil, _, _ => by simp [flsL_nil, toFo]
  | .cons n l s r, u, h => by
    have h0 := h 0 n l s r rfl
    rw [flsL_cons, List.filter_cons, if_pos (by simp [isCh]), List.filter_append, filter_no (l := flsL (u ++ [kyOf n l]) s) (fun x hx => ?_), List.nil_append, toFo, h0, toFo_fls g r u (fun i => h (i + 1))]
    · simp [kyOf_n]
    · obtain ⟨k, t, hp⟩ := flsL_pre s _ x hx
      simp [isCh, hp]
theorem treR_fls : ∀ (f : Nat) (y : Fo) (u : List Ky) (L : List Fl), y.hgt ≤ f → L.filter (isBel u) = flsL u y → ((flsL u y).map Fl.p).Nodup → treR f L u = y
  | 0, y, u, L, hf, _, _ => by
    cases y with
    | nil => rfl
    | cons n l s r => simp only [Fo.hgt] at hf; omega
  | f + 1, y, u, L, hf, hL, hnd => by
    have h1 : L.filter (isCh u) = (flsL u y).filter (isCh u) := by
      rw [← hL, List.filter_filter]
      congr 1
      funext x
      cases hc : isCh u x with
      | false => rfl
      | true => simp [isCh_bel hc]
    rw [treR, h1]
    refine toFo_fls _ y u fun i n l s r hd => ?_
    have h2 := hgt_drop y i n l s r hd
    refine treR_fls f s (u ++ [kyOf n l]) L (by omega) ?_ (nodup_at y u i n l s r hnd hd)
    rw [← bel_at y u i n l s r hnd hd, ← hL, List.filter_filter]
    congr 1
    funext x
    cases hc : isBel (u ++ [kyOf n l]) x with
    | false => rfl
    | true =>
      have : isBel u x = true := by
        simp only [isBel, Bool.and_eq_true, decide_eq_true_eq, List.length_append, List.length_singleton] at hc ⊢
        refine ⟨by omega, ?_⟩
        have := congrArg (List.take u.length) hc.2
        rwa [List.take_take, Nat.min_eq_left (by omega), List.take_left'  rfl] at this
      simp [this]
theorem hgt_le : ∀ (y : Fo) (u : List Ky) (m : Nat), (∀ x ∈ flsL u y, x.p.length ≤ u.length + m) → y.hgt ≤ m
  | .nil, _, _, _ => Nat.zero_le _
  | .cons n l s r, u, m, h => by
    rw [flsL_cons] at h
    have h0 := h ⟨u ++ [kyOf n l], l⟩ (by simp)
    simp at h0
    have h1 := hgt_le s (u ++ [kyOf n l]) (m - 1) (fun x hx => by
      have := h x (by simp [hx])
      simp; omega)
    have h2 := hgt_le r u m (fun x hx => h x (by simp [hx]))
    simp only [Fo.hgt]; omega
theorem Srt.nodup {l : List Fl} (h : Srt l) : (l.map Fl.p).Nodup := by
  unfold Srt at h
  rw [List.Nodup, List.pairwise_map]
  exact h.imp fun {a b} hab e => by rw [e, cmpP_ord.refl] at hab; omega
theorem treR_treF {l : List Fl} (h1 : Srt l) (h2 : Clo l) (h3 : KOk l) {f : Nat} (hf : ∀ x ∈ l, x.p.length ≤ f) : treR f l [] = (treF 0 l).1 := by
  have he := fls_of h1 h2 h3
  refine treR_fls f _ [] l ?_ ?_ (by rw [he]; exact h1.nodup)
  · exact hgt_le _ [] f (fun x hx => by rw [he] at hx; simpa using hf x hx)
  · rw [he]
    exact filter_all fun x hx => by
      obtain ⟨u, n, hu⟩ := h3 x hx
      simp [isBel, hu]
theorem treR_year {y : Fo} (h : Srt (flsL [] y)) {f : Nat} (hf : ∀ x ∈ flsL [] y, x.p.length ≤ f) : treR f (flsL [] y) [] = y :=
  treR_fls f y [] _ (hgt_le _ [] f (fun x hx => by simpa using hf x hx)) (filter_all fun x hx => by
    obtain ⟨k, t, hp⟩ := flsL_pre y [] x hx
    exact isBel_pre hp) h.nodup
end Go.Proofs.LF
