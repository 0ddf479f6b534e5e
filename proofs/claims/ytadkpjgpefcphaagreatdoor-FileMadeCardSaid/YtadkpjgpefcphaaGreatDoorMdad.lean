/- Parts of the proof of a law of layer 11 (file): LfRange. The conditions stand in each theorem. -/
import Derived.LoopIn
import Derived.LoopNIn
import Derived.OwnWalkIn
import Derived.RangeFuncBound
import Derived.RangeFuncCalls
import Derived.RangeFuncKeeps
import Derived.RangeFuncLeaves
import Derived.RangeFuncNested
import Derived.Shelf.Abstract
import Derived.TacticsInMore
import Derived.Test.YtadkpjgpefcphaaGreatDoorProg
import Derived.WalkKit
import Derived.Test.YtadkpjgpefcphaaGreatDoorMdac
set_option linter.all false
set_option linter.unusedVariables false
set_option linter.unusedSimpArgs false
namespace Go.Proofs.LF
open Go.RowKit
structure Keep (O : Nat → Prop) (A B : World) : Prop where
  os : B.os = A.os
  tape : B.tape = A.tape
  output : B.output = A.output
  size : A.heap.size ≤ B.heap.size
  block : ∀ b, b < A.heap.size → ¬ O b → B.heap[b]? = A.heap[b]?
theorem Keep.refl (O : Nat → Prop) (A : World) : Keep O A A := ⟨rfl, rfl, rfl, Nat.le_refl _, fun _ _ _ => rfl⟩
theorem Keep.trans {O : Nat → Prop} {A B C : World} (h : Keep O A B) (k : Keep O B C) : Keep O A C :=
  ⟨k.os.trans h.os, k.tape.trans h.tape, k.output.trans h.output, Nat.le_trans h.size k.size, fun b hb ho => (k.block b (Nat.lt_of_lt_of_le hb h.size) ho).trans (h.block b hb ho)⟩
theorem Keep.mono {O O' : Nat → Prop} {A B : World} (h : Keep O A B) (hs : ∀ b, b < A.heap.size → O b → O' b) : Keep O' A B :=
  ⟨h.os, h.tape, h.output, h.size, fun b hb ho => h.block b hb (fun h' => ho (hs b hb h'))⟩
theorem Keep.of_below {O : Nat → Prop} {A B : World} (h : Below A.heap.size A B) : Keep O A B := ⟨h.os, h.tape, h.output, h.size, fun b hb _ => h.block b hb⟩
theorem Keep.below {O : Nat → Prop} {n : Nat} {A B : World} (h : Keep O A B) (hn : n ≤ A.heap.size) (ho : ∀ b, b < n → ¬ O b) : Below n A B := ⟨h.os, h.tape, h.output, h.size, fun b hb => h.block b (by omega) (ho b hb)⟩
theorem Keep.agree {O S : Nat → Prop} {A B : World} (h : Keep O A B) (hs : ∀ b, S b → b < A.heap.size ∧ ¬ O b) : Agree S A B := fun b hb => h.block b (hs b hb).1 (hs b hb).2
theorem Keep.cell {O : Nat → Prop} {A B : World} (h : Keep O A B) {b o : Nat} {v : Value} (hb : b < A.heap.size) (ho : ¬ O b) (hc : A.cell? ⟨b, o, none⟩ = some v) : B.cell? ⟨b, o, none⟩ = some v := by
  rw [World.cell?_of_block (h.block b hb ho)]; exact hc
theorem Keep.putObj {O : Nat → Prop} {A : World} {l : Nat} {o : Obj} (hl : O l) : Keep O A (A.putObj l o) :=
  ⟨rfl, rfl, rfl, by simp, fun b _ ho => World.putObj_heap_other (fun e => ho (e ▸ hl))⟩
theorem Keep.setCell {O : Nat → Prop} {A : World} {p : Addr} {v : Value} (hl : O p.block) : Keep O A (A.setCell p v) :=
  ⟨rfl, rfl, rfl, by simp [World.setCell], fun b _ ho => Below.heap_setCell _ _ _ _ (fun e => ho (e ▸ hl))⟩
theorem Keep.grown {O : Nat → Prop} {A B : World} {row : Option Nat} (h : A.grownBy B row) (hr : ∀ b, row = some b → O b) : Keep O A B :=
  ⟨h.os, h.tape, h.output, h.size, fun b hb ho => h.block b hb (fun e => ho (hr b e.symm))⟩
def Dep {δ : Type} (n₀ : Nat) (I : List δ → (Nat → Prop) → World → Prop) : Prop :=
  ∀ pre O A B, I pre O A → B.os = A.os → B.tape = A.tape → B.output = A.output → A.heap.size ≤ B.heap.size → (∀ b, b < A.heap.size → (O b ∨ b < n₀) → B.heap[b]? = A.heap[b]?) → I pre O B
theorem Dep.keep {δ : Type} {n₀ : Nat} {I : List δ → (Nat → Prop) → World → Prop} (h : Dep n₀ I) {pre : List δ} {O X : Nat → Prop} {A B : World} (hi : I pre O A) (hk : Keep X A B) (hx : ∀ b, X b → ¬ O b ∧ n₀ ≤ b) : I pre O B :=
  h pre O A B hi hk.os hk.tape hk.output hk.size fun b hb ho => hk.block b hb (fun e => by have := hx b e; rcases ho with ho | ho; exact this.1 ho; omega)
variable {P : Program}
def SeqI {α δ : Type} (P : Program) (gf : Nat) (lb : Array Value) (dat : α → δ) (encs : α → Array Value) (E : (Nat → Prop) → World → α → Prop) (xs : List δ) (w : World) (T : Nat → Prop) : Prop :=
  ∀ (l : Nat) (J Jx : List δ → (Nat → Prop) → World → Prop) (O : Nat → Prop) (W : World),
    Below w.heap.size w W → (∀ b, T b → ¬ O b) → (∀ b, O b → b < W.heap.size) →
    (∀ pre O A B, J pre O A → Below A.heap.size A B → J pre O B) → (∀ pre O A B, Jx pre O A → Below A.heap.size A B → Jx pre O B) →
    (∀ m pre x O W1, J pre O W1 → pre ++ [dat x] <+: xs → E (fun b => b < W1.heap.size ∧ ¬ O b) W1 x →
      YieldAt Fence.wide m P l (encs x) W1 fun e W' =>
        (e = .returned (.bool true) ∧ ∃ O', J (pre ++ [dat x]) O' W' ∧ Keep O W1 W' ∧ (∀ b, O' b → O b ∨ W1.heap.size ≤ b) ∧ (∀ b, O' b → b < W'.heap.size)) ∨
        (e = .returned (.bool false) ∧ ∃ O', Jx (pre ++ [dat x]) O' W' ∧ Keep O W1 W')) →
    J [] O W →
    ∀ n, CallsIn Fence.wide n P gf (#[.func (.yield l) #[] #[]] ++ lb) W fun e W' => (∃ v, e = .returned v) ∧ ((∃ O', J xs O' W') ∨ (∃ pre O', pre <+: xs ∧ Jx pre O' W'))
def rgPost {δ : Type} (I : List δ → (Nat → Prop) → World → Prop) (Ix : Code → List δ → (Nat → Prop) → World → Prop) (xs : List δ) (O : Nat → Prop) (W : World) : Exit → Act → World → Prop
  | .normal, _, W' => ∃ O', I xs O' W' ∧ Keep O W W' ∧ (∀ b, O' b → O b ∨ W.heap.size ≤ b) ∧ (∀ b, O' b → b < W'.heap.size)
  | .ret, _, W' => ∃ O', Ix .ret xs O' W' ∧ Keep O W W' ∧ (∀ b, O' b → O b ∨ W.heap.size ≤ b)
  | _, _, _ => False
theorem range_law {α δ : Type} {g : Operand} {ps : Array Tmp} {assign body : Code} {Q : Exit → Act → World → Prop} {a : Act} {w : World} {n : Nat}
    {gf : Nat} {lb : Array Value} (hg : a.eval g = .func (.func gf) #[] lb) (eg : ∀ args w, (callFunc gf args).run P w = .ok (.enter gf args) w)
    {dat : α → δ} {encs : α → Array Value} {E : (Nat → Prop) → World → α → Prop} {xs : List δ} {T : Nat → Prop} (hseq : SeqI P gf lb dat encs E xs w T)
    (hE : ∀ {S w w' x}, E S w x → Agree S w w' → E S w' x) (hEw : ∀ {S S' w x}, E S w x → (∀ b, S b → S' b) → E S' w x) (hps : ∀ x, (encs x).size = ps.size)
    (I : List δ → (Nat → Prop) → World → Prop) (Ix : Code → List δ → (Nat → Prop) → World → Prop) (hI : Dep w.heap.size I) (hIx : ∀ c, Dep w.heap.size (Ix c))
    (O0 : Nat → Prop) (hO0 : ∀ b, O0 b → b < w.heap.size ∧ ¬ T b) (hT : ∀ b, T b → b < w.heap.size) (h0 : I [] O0 w)
    (A1 : α → Nat → Act → World → Prop) (hA1 : ∀ x lo a₁ A B, A1 x lo a₁ A → (∀ b, lo ≤ b → B.heap[b]? = A.heap[b]?) → A1 x lo a₁ B)
    (hassign : ∀ (l m : Nat) (x : α) (S : Nat → Prop) (W : World) (K : Act → World → Prop), E S W x → (∀ a₁ W1, Below W.heap.size W W1 → A1 x W.heap.size a₁ W1 → K a₁ W1) →
      assign.wpIn (Fence.wide.inRound l) m P (Exit.then K (fun _ _ _ => False)) { tmps := (ps.zip (encs x)).foldl (fun t (p, v) => t.setIfInBounds p v) a.tmps, defers := [] } W)
    (hbody : ∀ (l m : Nat) (pre : List δ) (x : α) (O : Nat → Prop) (lo : Nat) (a₁ : Act) (W : World), pre ++ [dat x] <+: xs → I pre O W → w.heap.size ≤ lo → lo ≤ W.heap.size → (∀ b, O b → b < lo) → E (fun b => b < lo ∧ ¬ O b) W x → A1 x lo a₁ W →
      body.wpIn (Fence.wide.inRound l) m P (rgPost I Ix (pre ++ [dat x]) O W) a₁ W)
    (hdone : ∀ (D : Nat) (O : Nat → Prop) (W : World), I xs O W → w.heap.size ≤ D → W.heap[D]? = some (.deferred (some [])) → Q .normal { a with defers := { target := .collected D, args := #[] } :: a.defers } W)
    (hstop : ∀ (D : Nat) (c : Code) (pre : List δ) (O : Nat → Prop) (W : World), pre <+: xs → Ix c pre O W → w.heap.size ≤ D → W.heap[D]? = some (.deferred (some [])) → c.wpIn Fence.wide n P Q { a with defers := { target := .collected D, args := #[] } :: a.defers } W) :
    (Code.rangeFunc g ps assign body).wpIn Fence.wide n P Q a w := by
  refine wpIn_rangeFunc ?_
  intro fn hfn
  obtain ⟨rec, hrec⟩ : ∃ rec : LoopState → Option Code → Loop, rec = fun st pe => { state := st, pending := pe, fn, tmps := a.tmps, params := ps, assign, body, defers := w.heap.size } := ⟨_, rfl⟩
  obtain ⟨W1, hW1⟩ : ∃ W1, (w.alloc (.deferred (some []))).alloc (.loop (rec .ready none)) = W1 := ⟨_, rfl⟩
  have hL1 : W1.heap[w.heap.size + 1]? = some (.loop (rec .ready none)) := by
    rw [← hW1]; have := World.alloc_heap_new (w.alloc (.deferred (some []))) (.loop (rec .ready none)); rwa [World.size_alloc] at this
  have hK1 : W1.heap[w.heap.size]? = some (.deferred (some [])) := by
    rw [← hW1]; exact (Below.heap_alloc _ _ _ (by simp)).trans (World.alloc_heap_new w _)
  have hb1 : Below w.heap.size w W1 := by
    rw [← hW1]; exact (((Below.refl _ w).alloc (Nat.le_refl _) _).alloc (by simp) _)
  have hI1 : I [] O0 W1 := hI.keep h0 (Keep.of_below (O := fun _ => False) hb1) (fun _ h => h.elim)
  refine ⟨w.heap.size + 1, [{ target := .collected w.heap.size, args := #[] }], W1, { target := .fn (.func gf) lb, args := #[.func (.yield (w.heap.size + 1)) #[] #[]] }, W1, gf,
    #[.func (.yield (w.heap.size + 1)) #[] #[]] ++ lb, W1, ?_, ?_, ?_, ?_, fun h => (by cases h), ?_⟩
  · rw [← hW1, hrec]; exact run_enterLoop_outer _ _ _ _ _
  · simp only [resolve, hg]
    simp [go_sem]
  · intro f' _; trivial
  · simp [invoke, go_sem, eg]
  · obtain ⟨Bk, hBk⟩ : ∃ Bk : Nat → Prop, Bk = fun b => b = w.heap.size ∨ b = w.heap.size + 1 := ⟨_, rfl⟩
    have hBl : Bk (w.heap.size + 1) := by rw [hBk]; exact .inr rfl
    have hBge : ∀ b, Bk b → w.heap.size ≤ b ∧ b ≤ w.heap.size + 1 := by rw [hBk]; intro b hb; rcases hb with rfl | rfl <;> omega
    refine (hseq (w.heap.size + 1)
      (fun pre O W => ∃ O1, O = (fun b => O1 b ∨ Bk b) ∧ (∀ b, O1 b → ¬ Bk b) ∧ (∀ b, O1 b → b < W.heap.size) ∧ I pre O1 W ∧ W.heap[w.heap.size + 1]? = some (.loop (rec .ready none)) ∧ W.heap[w.heap.size]? = some (.deferred (some [])))
      (fun pre O W => ∃ O1 c, O = (fun b => O1 b ∨ Bk b) ∧ (∀ b, O1 b → ¬ Bk b) ∧ Ix c pre O1 W ∧ W.heap[w.heap.size + 1]? = some (.loop (rec .done (some c))) ∧ W.heap[w.heap.size]? = some (.deferred (some [])))
      (fun b => O0 b ∨ Bk b) W1 hb1
      (fun b ht ho => by rcases ho with ho | ho; exact (hO0 b ho).2 ht; have := hBge b ho; have := hT b ht; omega)
      (fun b ho => by have := (Array.getElem?_eq_some_iff.1 hL1).1; rcases ho with ho | ho; have := (hO0 b ho).1; omega; have := hBge b ho; omega) ?_ ?_ ?_
      ⟨O0, rfl, fun b hb hk => by have := hBge b hk; have := (hO0 b hb).1; omega, fun b hb => by have := (hO0 b hb).1; have := hb1.size; omega, hI1, hL1, hK1⟩ (n - 1)).mono ?_
    · rintro pre O A B ⟨O1, rfl, h2, h3, h4, h5, h6⟩ hb
      exact ⟨O1, rfl, h2, fun b hb' => by have := h3 b hb'; have := hb.size; omega, hI.keep h4 (Keep.of_below (O := fun _ => False) hb) (fun _ h => h.elim), (hb.block _ (Array.getElem?_eq_some_iff.1 h5).1).trans h5, (hb.block _ (Array.getElem?_eq_some_iff.1 h6).1).trans h6⟩
    · rintro pre O A B ⟨O1, c, rfl, h2, h4, h5, h6⟩ hb
      exact ⟨O1, c, rfl, h2, (hIx c).keep h4 (Keep.of_below (O := fun _ => False) hb) (fun _ h => h.elim), (hb.block _ (Array.getElem?_eq_some_iff.1 h5).1).trans h5, (hb.block _ (Array.getElem?_eq_some_iff.1 h6).1).trans h6⟩
    ·
      rintro m pre x O W ⟨O1, rfl, ho, hos, hi, hl, hk⟩ hpx hx
      have hy := run_yield (P := P) (args := encs x) hl (by rw [hrec]; exact hps x)
      rw [hrec] at hy
      refine ⟨fn, _, assign, body, hy, roundIn_of_wpIn (F := Fence.wide) trivial (hassign _ m x _ W _ hx fun a₁ W2 hb2 ha1 => ?_)⟩
      have hlt : w.heap.size + 1 < W.heap.size := (Array.getElem?_eq_some_iff.1 hl).1
      have hl2 : W2.heap[w.heap.size + 1]? = some (.loop (rec .ready none)) := (hb2.block _ hlt).trans hl
      have hk2 : W2.heap[w.heap.size]? = some (.deferred (some [])) := (hb2.block _ (by omega)).trans hk
      refine ⟨_, run_beginRound hl2 (by rw [hrec]), ?_⟩
      obtain ⟨W3, hW3⟩ : ∃ W3, W2.putObj (w.heap.size + 1) (.loop { rec .ready none with state := .busy }) = W3 := ⟨_, rfl⟩
      rw [hW3]
      have hz2 := hb2.size
      have hkp : Keep Bk W2 W3 := by rw [← hW3]; exact Keep.putObj hBl
      have hl3 : W3.heap[w.heap.size + 1]? = some (.loop { rec .ready none with state := .busy }) := by rw [← hW3]; exact World.putObj_heap_same (by omega)
      have hk3 : W3.heap[w.heap.size]? = some (.deferred (some [])) := by rw [← hW3]; exact (World.putObj_heap_other (by omega)).trans hk2
      have hx' : E (fun b => b < W.heap.size ∧ ¬ (O1 b ∨ Bk b)) W3 x := hE hx fun b hb => (hkp.block b (by omega) (fun h => hb.2 (.inr h))).trans (hb2.block b hb.1)
      have hi3 : I pre O1 W3 := hI.keep (hI.keep hi (Keep.of_below (O := fun _ => False) hb2) (fun _ h => h.elim)) hkp (fun b hb => ⟨fun h => ho b h hb, (hBge b hb).1⟩)
      have hr3 : W3.heap.size = W2.heap.size := by rw [← hW3]; simp
      refine wpIn_mono (hbody _ m pre x O1 W.heap.size a₁ W3 hpx hi3 (by omega) (by omega) hos ?_ (hA1 _ _ _ _ _ ha1 fun b hb => ?_)) ?_
      · exact hEw hx' fun b hb => ⟨hb.1, fun h => hb.2 (.inl h)⟩
      · rw [← hW3]; exact World.putObj_heap_other (by omega)
      · have fin : ∀ (jump : Option Code) (O' : Nat → Prop) (W4 : World), Keep O1 W3 W4 → (∀ b, O' b → O1 b ∨ W3.heap.size ≤ b) →
            (Instr.endRound (w.heap.size + 1) jump).run P W4 = .ok (.bool jump.isNone) (W4.putObj (w.heap.size + 1) (.loop (rec (if jump.isNone then .ready else .done) jump))) ∧
            (W4.putObj (w.heap.size + 1) (.loop (rec (if jump.isNone then .ready else .done) jump))).heap[w.heap.size + 1]? = some (.loop (rec (if jump.isNone then .ready else .done) jump)) ∧
            (W4.putObj (w.heap.size + 1) (.loop (rec (if jump.isNone then .ready else .done) jump))).heap[w.heap.size]? = some (.deferred (some [])) ∧
            (∀ b, O' b → ¬ Bk b) := fun jump O' W4 hkk hoo => by
          have hz := hkk.size
          have hl4 := (hkk.block _ (by omega) (fun h => ho _ h hBl)).trans hl3
          have := run_endRound (P := P) jump hl4
          rw [hrec] at this ⊢
          refine ⟨this, World.putObj_heap_same (by omega), (World.putObj_heap_other (by omega)).trans ((hkk.block _ (by omega) (fun h => ho _ h (by rw [hBk]; exact .inl rfl))).trans hk3), fun b hb hb' => ?_⟩
          have h1 := hBge b hb'
          rcases hoo b hb with h | h
          · exact ho b h hb'
          · omega
        rintro e a3 W4 hp
        cases e with
        | normal =>
          obtain ⟨O', hi4, hkk, hoo, hoz⟩ := hp
          obtain ⟨hr, e1, e2, e3⟩ := fin none O' W4 hkk hoo
          have hkp2 : Keep Bk W4 (W4.putObj (w.heap.size + 1) (.loop (rec .ready none))) := Keep.putObj hBl
          refine ⟨_, _, hr, .inl ⟨rfl, _, ⟨O', rfl, e3, ?_, hI.keep hi4 hkp2 (fun b hb => ⟨fun h => e3 b h hb, (hBge b hb).1⟩), e1, e2⟩, ?_, ?_, ?_⟩⟩
          · intro b hb; have := hoz b hb; simpa using this
          · refine ((Keep.of_below (O := fun b => O1 b ∨ Bk b) hb2).trans (hkp.mono fun b _ h => .inr h)).trans ((hkk.mono fun b _ h => .inl h).trans (hkp2.mono fun b _ h => .inr h))
          · intro b hb
            rcases hb with hb | hb
            · rcases hoo b hb with h | h
              · exact .inl (.inl h)
              · exact .inr (by omega)
            · exact .inl (.inr hb)
          · intro b hb
            have hz := hkk.size
            rcases hb with hb | hb
            · have := hoz b hb; simpa using this
            · have := hBge b hb; simp; omega
        | ret =>
          obtain ⟨O', hi4, hkk, hoo⟩ := hp
          obtain ⟨hr, e1, e2, e3⟩ := fin (some .ret) O' W4 hkk hoo
          have hkp2 : Keep Bk W4 (W4.putObj (w.heap.size + 1) (.loop (rec .done (some .ret)))) := Keep.putObj hBl
          exact ⟨_, _, hr, .inr ⟨rfl, _, ⟨O', .ret, rfl, e3, (hIx _).keep hi4 hkp2 (fun b hb => ⟨fun h => e3 b h hb, (hBge b hb).1⟩), e1, e2⟩, ((Keep.of_below (O := fun b => O1 b ∨ Bk b) hb2).trans (hkp.mono fun b _ h => .inr h)).trans ((hkk.mono fun b _ h => .inl h).trans (hkp2.mono fun b _ h => .inr h))⟩⟩
        | exit id => exact hp.elim
        | goto t => exact hp.elim
        | panic ch => exact hp.elim
        | outgrown => exact hp.elim
    ·
      rintro e W2 ⟨⟨v, rfl⟩, (⟨O', O1, rfl, ho, hos, hi, hl, hk⟩ | ⟨pre, O', hpre, O1, c, rfl, ho, hi, hl, hk⟩)⟩
      · have hlt : w.heap.size + 1 < W2.heap.size := (Array.getElem?_eq_some_iff.1 hl).1
        have hkp2 : ∀ o, Keep Bk W2 (W2.putObj (w.heap.size + 1) o) := fun o => Keep.putObj hBl
        exact ⟨none, _, by have := run_endLoop (P := P) hl (by rw [hrec]; simp); rw [hrec] at this; exact this, hdone _ O1 _ (hI.keep hi (hkp2 _) (fun b hb => ⟨fun h => ho b h hb, (hBge b hb).1⟩)) (Nat.le_refl _) ((World.putObj_heap_other (by omega)).trans hk)⟩
      · have hkp2 : ∀ o, Keep Bk W2 (W2.putObj (w.heap.size + 1) o) := fun o => Keep.putObj hBl
        exact ⟨some c, _, by have := run_endLoop (P := P) hl (by rw [hrec]; simp); rw [hrec] at this; exact this, hstop _ c pre O1 _ hpre ((hIx c).keep hi (hkp2 _) (fun b hb => ⟨fun h => ho b h hb, (hBge b hb).1⟩)) (Nat.le_refl _) ((World.putObj_heap_other (by omega)).trans hk)⟩
end Go.Proofs.LF
