/- Parts of the proof of a law of layer 11 (file): LfHeld3. The conditions stand in each theorem. -/
import Derived.Test.YtadkpjgpefcphaaGreatDoorProg
import Derived.Test.YtadkpjgpefcphaaGreatDoorYraj
set_option linter.all false
set_option linter.unusedVariables false
set_option linter.unusedSimpArgs false
namespace Go.Proofs.LF
open Go.RowKit
section
variable {F : Fence} {n : Nat} {P : Program} {ops : Array Oper} {Q : Exit → Act → World → Prop} {md : Region.Mode} {S : Array Bool → World → Prop}
def LstC (md : Region.Mode) (ops : Array Oper) (listed : Array Bool) : Prop := ∀ j o, ops[j]? = some o → listed.getD j false = true → ∀ e ∈ o.after, Region.binds md e = true → listed.getD e.on false = true
def lstB (md : Region.Mode) (ops : Array Oper) (listed : Array Bool) : Bool := (List.range ops.size).all fun j => !listed.getD j false || match ops[j]? with | some o => o.after.all (fun e => !Region.binds md e || listed.getD e.on false) | none => true
theorem lstB_spec {listed : Array Bool} (h : lstB md ops listed = true) : LstC md ops listed := fun j o ho hl e he hb => by
  unfold lstB at h
  rw [List.all_eq_true] at h
  have hj : j < ops.size := (Array.getElem?_eq_some_iff.1 ho).1
  have h1 := h j (List.mem_range.2 hj)
  rw [hl, ho] at h1
  simp only [Bool.not_true, Bool.false_or, Array.all_eq_true] at h1
  obtain ⟨k, hk, rfl⟩ := Array.getElem_of_mem he
  have h2 := h1 k hk
  rw [hb] at h2
  simpa using h2
theorem LstC.set {listed : Array Bool} (h : LstC md ops listed) {i : Nat} (hi : i ∈ Region.ready md ops listed) : LstC md ops (listed.setIfInBounds i true) := fun j o ho hl e he hb => by
  obtain ⟨_, o', ho', hall⟩ := mem_ready.1 hi
  by_cases hji : i = j
  · subst hji
    rw [ho] at ho'
    cases ho'
    exact getD_set_true (hall e he hb)
  · rw [getD_set_ne false hji] at hl
    exact getD_set_true (h j o ho hl e he hb)
theorem waits_at {i k : Nat} {o : Oper} (hk : ops[k]? = some o) (h : waits md ops k i = true) : ∃ e ∈ o.after, Region.binds md e = true ∧ e.on = i := by
  unfold waits at h
  rw [hk] at h
  simp only [Array.any_eq_true, Bool.and_eq_true, beq_iff_eq] at h
  obtain ⟨m, hm, hb, he⟩ := h
  exact ⟨_, Array.getElem_mem hm, hb, he⟩
def Unl (listed : Array Bool) (i : Nat) : Prop := listed.getD i false = false
theorem ready_un {listed : Array Bool} {i : Nat} (hr : i ∈ Region.ready md ops listed) : Unl listed i := by
  have h0 := (mem_ready.1 hr).1
  unfold Unl
  rcases Nat.lt_or_ge i listed.size with h' | h'
  · simp [h'] at h0 ⊢; exact h0
  · simp [Array.getElem?_eq_none h']
theorem un_next {listed : Array Bool} (hc : LstC md ops listed) {i k : Nat} {ok : Oper} (hk : ops[k]? = some ok) (h : waits md ops k i = true) (hu : Unl listed i) : Unl listed k := by
  unfold Unl at *
  cases hl : listed.getD k false with
  | false => rfl
  | true =>
    obtain ⟨e, he, hb, rfl⟩ := waits_at hk h
    have := hc _ _ hk hl e he hb
    rw [hu] at this
    cases this
theorem un_set {listed : Array Bool} {i k : Nat} (h : i ≠ k) : Unl (listed.setIfInBounds i true) k ↔ Unl listed k := by unfold Unl; rw [getD_set_ne false h]
def AnyG (F : Fence) (n : Nat) (P : Program) (md : Region.Mode) (ops : Array Oper) (Q : Exit → Act → World → Prop) (S : Array Bool → World → Prop) : Nat → Array Bool → Act → World → Prop
  | 0, listed, a, w => Region.ready md ops listed = [] ∧ Q .normal a w
  | fuel + 1, listed, a, w =>
    (Region.ready md ops listed = [] → Q .normal a w) ∧
    ∀ i ∈ Region.ready md ops listed, wpOpIn F n P ops Q i (fun a' w' => S (listed.setIfInBounds i true) w' ∧ AnyG F n P md ops Q S fuel (listed.setIfInBounds i true) a' w') a w
theorem any_of_G : ∀ (fuel : Nat) (listed : Array Bool) (a : Act) (w : World), AnyG F n P md ops Q S fuel listed a w → wpAnyIn F n P md ops Q fuel listed a w
  | 0, _, _, _, h => h
  | fuel + 1, _, _, _, h => ⟨h.1, fun i hi => wpOpIn_mono (fun a' w' h' => any_of_G fuel _ a' w' h'.2) (h.2 i hi)⟩
def AtSome (md : Region.Mode) (ops : Array Oper) (S : Array Bool → World → Prop) (i : Nat) (w : World) : Prop := ∃ listed, LstC md ops listed ∧ i ∈ Region.ready md ops listed ∧ S listed w
theorem AnyG_first (hF : ∀ f, F.fn f) (hnd : ops.all notDefer = true) {i : Nat} {oi : Oper} {v : Value} (hi : ops[i]? = some oi) (hsel : ∀ (j : Nat) (o : Oper) cs b, ops[j]? = some o → o.op ≠ .select cs b)
    (hQ : ∀ c a w, Q (.panic c) (a.put oi.dst v) w → Q (.panic c) a w) (hins : ∀ listed w, S (listed.setIfInBounds i true) w ↔ S listed w) :
    ∀ (fuel : Nat) (listed : Array Bool) (a : Act) (w : World), LstC md ops listed →
      (∀ j oj, ops[j]? = some oj → j ≠ i → listed.getD j true = false → (∀ e ∈ oj.after, Region.binds md e = true → e.on ≠ i) → oi.apart ops oj = true) →
      i ∈ Region.ready md ops listed → YIf P ops (AtSome md ops S i) oi v a → S listed w →
      AnyG F n P md ops Q S fuel (listed.setIfInBounds i true) (a.put oi.dst v) w → AnyG F n P md ops Q S (fuel + 1) listed a w := by
  have hno : ∀ j o, ops[j]? = some o → notDefer o = true := fun j o h => by
    rw [Array.all_eq_true] at hnd
    obtain ⟨hj, rfl⟩ := Array.getElem?_eq_some_iff.1 h
    exact hnd j hj
  intro fuel
  induction fuel with
  | zero =>
    intro listed a w hcl _ hr hy hS H
    refine ⟨fun h => (by rw [h] at hr; cases hr), fun j hj => ?_⟩
    by_cases hji : j = i
    · subst hji; exact hy.wpOp hF hi (hno _ _ hi) ⟨listed, hcl, hr, hS⟩ ⟨(hins _ _).2 hS, H⟩
    · have := ready_mono hj hji
      rw [H.1] at this
      cases this
  | succ fuel ih =>
    intro listed a w hcl hfree hr hy hS H
    refine ⟨fun h => (by rw [h] at hr; cases hr), fun j hj => ?_⟩
    by_cases hji : j = i
    · subst hji; exact hy.wpOp hF hi (hno _ _ hi) ⟨listed, hcl, hr, hS⟩ ⟨(hins _ _).2 hS, H⟩
    · have h1 := H.2 j (ready_mono hj hji)
      obtain ⟨hjun, oj, hoj, hall⟩ := mem_ready.1 hj
      have hnot : ∀ e ∈ oj.after, Region.binds md e = true → e.on ≠ i := fun e he hb heq => by
        have h1 := hall e he hb
        have h0 := (mem_ready.1 hr).1
        rw [heq] at h1
        rcases Nat.lt_or_ge i listed.size with h' | h'
        · simp [h'] at h0 h1; rw [h0] at h1; cases h1
        · simp [Array.getElem?_eq_none h'] at h1
      have h2 := wpOpIn_putIf hoj (hno _ _ hoj) (hfree j oj hoj hji hjun hnot) (fun cs b => hsel i oi cs b hi) (fun cs b => hsel j oj cs b hoj) hQ hy h1
      have hfree' : ∀ k ok, ops[k]? = some ok → k ≠ i → (listed.setIfInBounds j true).getD k true = false →
          (∀ e ∈ ok.after, Region.binds md e = true → e.on ≠ i) → oi.apart ops ok = true := fun k ok hk hki hun hno => by
        refine hfree k ok hk hki ?_ hno
        by_cases hjk : j = k
        · subst hjk; exact hjun
        · rw [getD_set_ne true hjk] at hun; exact hun
      refine wpOpIn_mono (fun a' w' h3 => ?_) h2
      rw [Array.setIfInBounds_comm _ _ (Ne.symm hji)] at h3
      have hs' := (hins _ _).1 h3.2.1
      exact ⟨hs', ih (listed.setIfInBounds j true) a' w' (hcl.set hj) hfree' (ready_mono hr (Ne.symm hji)) h3.1 hs' h3.2.2⟩
theorem AnyG_takeD (hF : ∀ f, F.fn f) (hnd : ops.all notDefer = true) (i t : Nat) (v : Value) {oi : Oper} {fuel : Nat} {listed : Array Bool} {a : Act} {w : World} (hi : ops[i]? = some oi) (hd : oi.dst = some t)
    (hs : Region.noSelect ops = true) (hf : Region.free md ops listed i = true) (hr : (Region.ready md ops listed).contains i = true) (hc : lstB md ops listed = true) (hins : ∀ listed w, S (listed.setIfInBounds i true) w ↔ S listed w)
    (hQ : ∀ c a w, Q (.panic c) (a.put (some t) v) w → Q (.panic c) a w) (hy : YIf P ops (AtSome md ops S i) oi v a) (hS : S listed w)
    (h : AnyG F n P md ops Q S fuel (listed.setIfInBounds i true) (a.put (some t) v) w) : AnyG F n P md ops Q S (fuel + 1) listed a w :=
  AnyG_first hF hnd hi (Region.noSelect_spec hs) (by rw [hd]; exact hQ) hins fuel listed a w (lstB_spec hc) (Region.free_spec hi hf) (by simpa using hr) hy hS (by rw [hd]; exact h)
theorem AnyG_one {i : Nat} {o : Oper} {fuel : Nat} {listed : Array Bool} {a : Act} {w : World} (hr : Region.ready md ops listed = [i]) (ho : ops[i]? = some o) (hw : Region.wanted o (yielded ops a.tmps) = true)
    (h : ∀ K : Act → World → Prop, (∀ a w, S (listed.setIfInBounds i true) w ∧ AnyG F n P md ops Q S fuel (listed.setIfInBounds i true) a w → K a w) → Oper.wpIn F n P o a w K Q) : AnyG F n P md ops Q S (fuel + 1) listed a w :=
  ⟨fun h0 => (by rw [hr] at h0; cases h0), hr ▸ fun j hj => by
    obtain rfl : j = i := by simpa using hj
    unfold wpOpIn
    rw [ho]
    simp only [hw, if_true]
    exact h _ fun _ _ h => h⟩
theorem AnyG_done {fuel : Nat} {listed : Array Bool} {a : Act} {w : World} (hr : Region.ready md ops listed = []) (h : Q .normal a w) : AnyG F n P md ops Q S fuel listed a w := by
  cases fuel with
  | zero => exact ⟨hr, h⟩
  | succ f => exact ⟨fun _ => h, fun i hi => (by rw [hr] at hi; cases hi)⟩
theorem region_G {id : Nat} {a : Act} {w : World} (S : Array Bool → World → Prop) (hm : P.follows .mixedOrders = true)
    (h : AnyG F n P .any ops Q S ops.size (Array.replicate ops.size false) a w.drew) : (Code.region id ops true).wpIn F n P Q a w :=
  wpIn_region_any hm (any_of_G _ _ _ _ h)
end
end Go.Proofs.LF
