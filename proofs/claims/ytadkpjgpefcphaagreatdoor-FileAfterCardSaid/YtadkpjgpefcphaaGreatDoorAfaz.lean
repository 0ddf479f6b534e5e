/- Parts of the proof of a law of layer 11 (file): LfAf. The conditions stand in each theorem. -/
import Derived.Test.YtadkpjgpefcphaaGreatDoorProg
import Derived.Test.YtadkpjgpefcphaaGreatDoorAfax
set_option linter.all false
set_option linter.unusedVariables false
set_option linter.unusedSimpArgs false
namespace Go.Proofs.LF
def fdC (l : List Ch) (p : List Ky) : Option Ch := l.find? fun c => decide (c.p = p)
def mrgC (m : List Ch) (a : Ch) : Ch := match fdC m a.p with | none => a | some b => ⟨a.p, a.had, b.has, a.old, b.new⟩
def claC (m : List Ch) (a : Ch) : Bool := match fdC m a.p with | none => false | some b => !((a.has == b.had) && decide (a.new = b.old))
def remC (l m : List Ch) : List Ch := m.filter fun c => !(l.any fun a => decide (a.p = c.p))
def nopC (c : Ch) : Bool := (c.had == c.has) && decide (c.old = c.new)
def aftO (l m : List Ch) : List Ch := (l.map (mrgC m) ++ remC l m).filter fun c => !nopC c
def insCh (c : Ch) : List Ch → List Ch
 | [] => [c]
 | d :: r => if cmpP c.p d.p < 0 then c :: d :: r else d :: insCh c r
def srtCh : List Ch → List Ch
 | [] => []
 | c :: r => insCh c (srtCh r)
def aftE (l m : List Ch) : Int := if ckC l ≠ 0 then ckC l else if ckC m ≠ 0 then ckC m else if l.any (claC m) then 7 else if 120 < (aftO l m).length then 2 else 0
def aftL (l m : List Ch) : List Ch := if aftE l m = 0 then srtCh (aftO l m) else []
theorem fdC_some {l : List Ch} {p : List Ky} {c : Ch} (h : fdC l p = some c) : c ∈ l ∧ c.p = p := ⟨List.mem_of_find?_eq_some h, by have := List.find?_some h; simpa using this⟩
theorem fdC_none {l : List Ch} {p : List Ky} (h : fdC l p = none) : ∀ c ∈ l, c.p ≠ p := fun c hc => by
 unfold fdC at h
 rw [List.find?_eq_none] at h
 simpa using h c hc
abbrev SrtC (l : List Ch) : Prop := l.Pairwise (fun a b => cmpP a.p b.p < 0)
theorem SrtC.inj {l : List Ch} (h : SrtC l) {a b : Ch} (ha : a ∈ l) (hb : b ∈ l) (e : a.p = b.p) : a = b := by
 induction l with
 | nil => cases ha
 | cons x l ih =>
   obtain ⟨h1, h2⟩ := List.pairwise_cons.1 h
   rcases List.mem_cons.1 ha with rfl | ha' <;> rcases List.mem_cons.1 hb with rfl | hb'
   · rfl
   · have := h1 b hb'; rw [e, cmpP_ord.refl] at this; omega
   · have := h1 a ha'; rw [e, cmpP_ord.refl] at this; omega
   · exact ih h2 ha' hb'
theorem SrtC.nodup {l : List Ch} (h : SrtC l) : (l.map Ch.p).Nodup := by
 unfold List.Nodup
 rw [List.pairwise_map]
 exact h.imp fun {a b} hab e => by rw [e, cmpP_ord.refl] at hab; omega
theorem insCh_mem {c d : Ch} : ∀ {l : List Ch}, d ∈ insCh c l ↔ d = c ∨ d ∈ l
 | [] => by simp [insCh]
 | x :: r => by
   simp only [insCh]
   split
   · simp
   · simp only [List.mem_cons, insCh_mem (l := r)]
     constructor
     · rintro (h | h | h)
       · exact .inr (.inl h)
       · exact .inl h
       · exact .inr (.inr h)
     · rintro (h | h | h)
       · exact .inr (.inl h)
       · exact .inl h
       · exact .inr (.inr h)
theorem insCh_srt {c : Ch} : ∀ {l : List Ch}, SrtC l → c.p ∉ l.map Ch.p → SrtC (insCh c l)
 | [], _, _ => by simp [insCh, SrtC]
 | x :: r, h, hn => by
   obtain ⟨h1, h2⟩ := List.pairwise_cons.1 h
   simp only [insCh]
   split
   · rename_i hlt
     refine List.pairwise_cons.2 ⟨fun d hd => ?_, h⟩
     rcases List.mem_cons.1 hd with rfl | hd
     · exact hlt
     · exact cmpP_ord.trans hlt (h1 d hd)
   · rename_i hge
     have hx : cmpP x.p c.p < 0 := by
      rcases Int.lt_trichotomy (cmpP x.p c.p) 0 with h' | h' | h'
      · exact h'
      · exact absurd (by simp [cmpP_ord.eq h']) hn
      · exact absurd (cmpP_ord.flop h') hge
     refine List.pairwise_cons.2 ⟨fun d hd => ?_, insCh_srt h2 (fun h => hn (by simp at h ⊢; exact .inr h))⟩
     rcases insCh_mem.1 hd with rfl | hd
     · exact hx
     · exact h1 d hd
theorem srtCh_mem {d : Ch} : ∀ {l : List Ch}, d ∈ srtCh l ↔ d ∈ l
 | [] => by simp [srtCh]
 | x :: r => by simp [srtCh, insCh_mem, srtCh_mem (l := r)]
theorem srtCh_srt : ∀ {l : List Ch}, (l.map Ch.p).Nodup → SrtC (srtCh l)
 | [], _ => List.Pairwise.nil
 | x :: r, h => by
   rw [List.map_cons, List.nodup_cons] at h
   refine insCh_srt (srtCh_srt h.2) fun hm => h.1 ?_
   obtain ⟨z, hz, e⟩ := List.mem_map.1 hm
   exact List.mem_map.2 ⟨z, srtCh_mem.1 hz, e⟩
theorem srtC_ext : ∀ {l l' : List Ch}, SrtC l → SrtC l' → (∀ x, x ∈ l ↔ x ∈ l') → l = l'
 | [], [], _, _, _ => rfl
 | [], b :: s, _, _, h => by have := (h b).2 (by simp); simp at this
 | a :: r, [], _, _, h => by have := (h a).1 (by simp); simp at this
 | a :: r, b :: s, h1, h2, h => by
   obtain ⟨a1, a2⟩ := List.pairwise_cons.1 h1
   obtain ⟨b1, b2⟩ := List.pairwise_cons.1 h2
   have irr : ∀ {x y : Ch}, cmpP x.p y.p < 0 → cmpP y.p x.p < 0 → False := fun {x y} hx hy => by
    have := cmpP_ord.trans hx hy
    rw [cmpP_ord.refl] at this; omega
   have hab : a = b := by
    rcases List.mem_cons.1 ((h a).1 (by simp)) with e | ha
    · exact e
    · rcases List.mem_cons.1 ((h b).2 (by simp)) with e | hb
      · exact e.symm
      · exact (irr (a1 b hb) (b1 a ha)).elim
   subst hab
   rw [srtC_ext a2 b2 fun p => ⟨fun hp => by
    rcases List.mem_cons.1 ((h p).1 (by simp [hp])) with e | hp'
    · subst e; exact (irr (a1 p hp) (a1 p hp)).elim
    · exact hp', fun hp => by
    rcases List.mem_cons.1 ((h p).2 (by simp [hp])) with e | hp'
    · subst e; exact (irr (b1 p hp) (b1 p hp)).elim
    · exact hp'⟩]
theorem srtC_of_perm {ls ls' : List Ch} (hn : (ls.map Ch.p).Nodup) (hp : ls'.Perm ls) (hs : ls'.Pairwise (fun a b => cmpP a.p b.p ≤ 0)) : ls' = srtCh ls := by
 have hn' : (ls'.map Ch.p).Nodup := (hp.map Ch.p).nodup_iff.2 hn
 have h1 : SrtC ls' := by
  have h2 : ls'.Pairwise (fun a b => a.p ≠ b.p) := List.pairwise_map.1 hn'
  refine (hs.and h2).imp ?_
  rintro a b ⟨h3, h4⟩
  rcases Int.lt_or_eq_of_le h3 with h | h
  · exact h
  · exact absurd (cmpP_ord.eq h) h4
 exact srtC_ext h1 (srtCh_srt hn) fun x => by rw [srtCh_mem]; exact hp.mem_iff
theorem mrgC_p (m : List Ch) (a : Ch) : (mrgC m a).p = a.p := by unfold mrgC; split <;> rfl
theorem remC_mem {l m : List Ch} {c : Ch} : c ∈ remC l m ↔ c ∈ m ∧ ∀ a ∈ l, a.p ≠ c.p := by
 simp only [remC, List.mem_filter, Bool.not_eq_true', List.any_eq_false, decide_eq_true_eq]
theorem aft_nodup {l m : List Ch} (hl : SrtC l) (hm : SrtC m) : ((aftO l m).map Ch.p).Nodup := by
 have h1 : ((l.map (mrgC m) ++ remC l m).map Ch.p).Nodup := by
  rw [List.map_append, List.map_map, show Ch.p ∘ mrgC m = Ch.p from funext fun a => mrgC_p m a, List.nodup_append]
  refine ⟨hl.nodup, SrtC.nodup (List.Pairwise.sublist List.filter_sublist hm), ?_⟩
  intro p hp q hq e
  subst e
  obtain ⟨a, ha, rfl⟩ := List.mem_map.1 hp
  obtain ⟨c, hc, e⟩ := List.mem_map.1 hq
  exact (remC_mem.1 hc).2 a ha e.symm
 exact List.Nodup.sublist (List.Sublist.map _ List.filter_sublist) h1
theorem ck_good {c : Ch} (h : ckOne none c = 0) : GoodP c.p ∧ ∀ k ∈ c.p, OkK k := by
 obtain ⟨_, h2, _, h4, _, _, h7, _⟩ := ckOne_zero h
 have h8 : (c.p.all fun k => k.h || decide (k.x = 0)) = true := by
  unfold rtC at h7
  split at h7
  · cases h7
  split at h7
  · cases h7
  split at h7
  · cases h7
  · rename_i h
    cases hq : (c.p.all fun k => k.h || decide (k.x = 0)) with
    | true => rfl
    | false => rw [hq] at h; exact absurd rfl h
 simp only [okNm, okNu, List.all_eq_true, Bool.not_eq_true'] at h2 h4
 rw [List.all_eq_true] at h8
 refine ⟨fun k hk => ?_, fun k hk => ?_⟩
 · have a := h2 k hk
   have b := h4 k hk
   have c := h8 k hk
   simp only [inB, Bool.and_eq_true, decide_eq_true_eq] at b
   refine ⟨fun x hx => ?_, b.1, fun h => by simpa [h] using c⟩
   simp only [badNm, Bool.or_eq_false_iff] at a
   have a1 := a.1.1
   simp only [List.any_eq_false] at a1
   have := a1 x hx
   simp only [Bool.or_eq_true, decide_eq_true_eq, not_or] at this
   simp only [smallB, inB, Bool.and_eq_true, decide_eq_true_eq]
   omega
 · have a := badNm_len (h2 k hk)
   have b := h4 k hk
   simp only [inB, Bool.and_eq_true, decide_eq_true_eq] at b
   exact ⟨by omega, b.1, b.2⟩
theorem spt_inj {l m : List Ch} (hl : ∀ c ∈ l, ckOne none c = 0) (hm : ∀ c ∈ m, ckOne none c = 0) {a b : Ch} (ha : a ∈ l) (hb : b ∈ m) (h : sptL a.p = sptL b.p) : a.p = b.p :=
 sptL_inj (ck_good (hl a ha)).1 (ck_good (hm b hb)).1 h
end Go.Proofs.LF
