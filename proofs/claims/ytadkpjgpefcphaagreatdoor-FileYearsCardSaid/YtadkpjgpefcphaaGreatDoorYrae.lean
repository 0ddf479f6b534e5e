/- Parts of the proof of a law of layer 11 (file): LfList. The conditions stand in each theorem. -/
import Derived.Test.YtadkpjgpefcphaaGreatDoorProg
import Derived.Test.YtadkpjgpefcphaaGreatDoorYraa
import Derived.Test.YtadkpjgpefcphaaGreatDoorYrac
set_option linter.all false
set_option linter.unusedVariables false
set_option linter.unusedSimpArgs false
namespace Go.Proofs.LF
open Go.RowKit
structure Rd (α : Type) (k : Nat) where
  R : (Nat → Prop) → World → α → List Value → Prop
  len : ∀ {S w x cs}, R S w x cs → cs.length = k
  one : ∀ {S w x cs}, R S w x cs → ∀ u ∈ cs, u.oneCell' = true
  agree : ∀ {S w w' x cs}, R S w x cs → Agree S w w' → R S w' x cs
  wide : ∀ {S S' w x cs}, R S w x cs → (∀ b, S b → S' b) → R S' w x cs
variable {α : Type} {k : Nat} (r : Rd α k)
def LCs (S : Nat → Prop) (w : World) : List α → List Value → Prop
  | [], cs => cs = []
  | x :: xs, cs => ∃ c ds, cs = c ++ ds ∧ r.R S w x c ∧ LCs S w xs ds
def LSl (S : Nat → Prop) (w : World) (v : Value) (xs : List α) : Prop := ∃ cs, SlC S w k v xs.length cs ∧ LCs r S w xs cs
variable {r}
theorem LCs.agree {S : Nat → Prop} {w w' : World} (ha : Agree S w w') : ∀ {xs : List α} {cs : List Value}, LCs r S w xs cs → LCs r S w' xs cs
  | [], _, h => h
  | _ :: _, _, ⟨c, ds, h1, h2, h3⟩ => ⟨c, ds, h1, r.agree h2 ha, h3.agree ha⟩
theorem LCs.wide {S S' : Nat → Prop} {w : World} (hs : ∀ b, S b → S' b) : ∀ {xs : List α} {cs : List Value}, LCs r S w xs cs → LCs r S' w xs cs
  | [], _, h => h
  | _ :: _, _, ⟨c, ds, h1, h2, h3⟩ => ⟨c, ds, h1, r.wide h2 hs, h3.wide hs⟩
theorem LSl.agree {S : Nat → Prop} {w w' : World} {v : Value} {xs : List α} (h : LSl r S w v xs) (ha : Agree S w w') : LSl r S w' v xs := let ⟨cs, h1, h2⟩ := h; ⟨cs, h1.agree ha, h2.agree ha⟩
theorem LSl.wide {S S' : Nat → Prop} {w : World} {v : Value} {xs : List α} (h : LSl r S w v xs) (hs : ∀ b, S b → S' b) : LSl r S' w v xs := let ⟨cs, h1, h2⟩ := h; ⟨cs, h1.wide hs, h2.wide hs⟩
theorem Stable.lcs (xs : List α) (cs : List Value) : Stable (fun S w => LCs r S w xs cs) := ⟨fun h ha => h.agree ha, fun h hw => h.wide hw⟩
theorem Stable.lsl (v : Value) (xs : List α) : Stable (fun S w => LSl r S w v xs) := ⟨fun h ha => h.agree ha, fun h hw => h.wide hw⟩
theorem LCs.length {S : Nat → Prop} {w : World} : ∀ {xs : List α} {cs : List Value}, LCs r S w xs cs → cs.length = xs.length * k
  | [], _, h => by rw [show _ = [] from h]; simp
  | _ :: xs, _, ⟨c, ds, h1, h2, h3⟩ => by rw [h1, List.length_append, r.len h2, h3.length, List.length_cons, Nat.add_mul]; omega
theorem LCs.one {S : Nat → Prop} {w : World} : ∀ {xs : List α} {cs : List Value}, LCs r S w xs cs → ∀ u ∈ cs, u.oneCell' = true
  | [], _, h => by rw [show _ = [] from h]; simp
  | _ :: xs, _, ⟨c, ds, h1, h2, h3⟩ => by
    intro u hu
    rw [h1, List.mem_append] at hu
    rcases hu with hu | hu
    · exact r.one h2 u hu
    · exact h3.one u hu
theorem LCs.app {S : Nat → Prop} {w : World} : ∀ {xs ys : List α} {cs ds : List Value}, LCs r S w xs cs → LCs r S w ys ds → LCs r S w (xs ++ ys) (cs ++ ds)
  | [], _, _, _, h, h' => by rw [show _ = [] from h]; exact h'
  | _ :: _, _, _, _, ⟨c, es, h1, h2, h3⟩, h' => ⟨c, _, by rw [h1, List.append_assoc], h2, h3.app h'⟩
theorem LCs.single {S : Nat → Prop} {w : World} {x : α} {c : List Value} (h : r.R S w x c) : LCs r S w [x] c := ⟨c, [], by simp, h, rfl⟩
theorem LCs.drop {S : Nat → Prop} {w : World} : ∀ {i : Nat} {xs : List α} {cs : List Value}, LCs r S w xs cs → LCs r S w (xs.drop i) (cs.drop (i * k))
  | 0, _, _, h => by simpa using h
  | i + 1, [], _, h => by rw [show _ = [] from h]; simp [LCs]
  | i + 1, _ :: xs, _, ⟨c, ds, h1, h2, h3⟩ => by
    rw [h1, show (i + 1) * k = c.length + i * k from by rw [r.len h2, Nat.add_mul]; omega, List.drop_length_add_append]
    exact h3.drop (i := i)
theorem LCs.take {S : Nat → Prop} {w : World} : ∀ {i : Nat} {xs : List α} {cs : List Value}, LCs r S w xs cs → LCs r S w (xs.take i) (cs.take (i * k))
  | 0, _, _, h => by simp [LCs]
  | i + 1, [], _, h => by rw [show _ = [] from h]; simp [LCs]
  | i + 1, _ :: xs, _, ⟨c, ds, h1, h2, h3⟩ => by
    rw [h1, show (i + 1) * k = c.length + i * k from by rw [r.len h2, Nat.add_mul]; omega, List.take_length_add_append]
    exact ⟨c, _, rfl, h2, h3.take (i := i)⟩
theorem LSl.shape {S : Nat → Prop} {w : World} {v : Value} {xs : List α} (h : LSl r S w v xs) : ∃ a c, v = .slice a xs.length c ∧ xs.length ≤ c ∧ c ≤ maxLen := let ⟨_, h1, _⟩ := h; h1.shape
theorem LSl.at {S : Nat → Prop} {w : World} {v : Value} {xs : List α} (h : LSl r S w v xs) : ∃ a c, v = .slice a xs.length c ∧ xs.length ≤ c ∧ c ≤ maxLen ∧ ∀ i (hi : i < xs.length), ∃ g o cs, a = some ⟨g, o, none⟩ ∧ S g ∧ r.R S w xs[i] cs ∧
    ∀ j u, cs[j]? = some u → w.cell? ⟨g, o + (i * k + j), none⟩ = some u := by
  obtain ⟨ds, ⟨hl, a, c, rfl, hc, hm, _, hh⟩, hf⟩ := h
  refine ⟨a, c, rfl, hc, hm, fun i hi => ?_⟩
  rcases hh with h0 | ⟨g, o, rfl, hg1, hcell⟩
  · omega
  · have hf' := hf.drop (i := i)
    rw [List.drop_eq_getElem_cons hi] at hf'
    obtain ⟨cs, es, he, hr, _⟩ := hf'
    refine ⟨g, o, cs, rfl, hg1, hr, fun j u hj => hcell (i * k + j) u ?_⟩
    rw [← List.getElem?_drop, he, List.getElem?_append_left (List.getElem?_eq_some_iff.1 hj).1]
    exact hj
def Sx (S : Nat → Prop) (lo hi : Nat) (v : Value) (b : Nat) : Prop := S b ∨ Rx lo hi v b
theorem Step.keepS {P : (Nat → Prop) → World → Prop} (hP : Stable P) {B : Nat} {W0 W w3 : World} {v v' : Value} {gg : Nat} {S : Nat → Prop} (h : Step B W0 W w3 v gg) (hv : v'.ownBlock = some gg) (hS : ∀ b, S b → b < B) (hF : P (Sx S B W0.heap.size v) W0) : P (Sx S B w3.heap.size v') w3 := by
  refine hP.both hF (fun b hb => ?_) (fun b hb => hb.imp id ((h.past hv).1 b))
  rcases hb with hb | hb
  · have h1 := hS b hb
    have h2 := h.base
    exact (h.grown.block b (by have := h.size; omega) (fun e => by have := (h.old b e.symm).1; omega)).trans (h.below.block b (by omega))
  · exact (h.past hv).2 b hb
theorem Step.liftS {P : (Nat → Prop) → World → Prop} (hP : Stable P) {B : Nat} {W0 W w3 : World} {v v' : Value} {gg : Nat} {S : Nat → Prop} (h : Step B W0 W w3 v gg) (hv : v'.ownBlock = some gg) (hS : ∀ b, S b → b < B) {q : Nat} {w1 : World} (hq : q ≤ W.heap.size) (hb : Below q w1 W) (hw : W0.heap.size ≤ q) (hF : P (fun b => Sx S B W0.heap.size v b ∨ Rg W0.heap.size q b) w1) : P (Sx S B w3.heap.size v') w3 := by
  refine hP.both hF (fun b hb' => ?_) (fun b hb' => ?_)
  · rcases hb' with (hb' | hb') | hb'
    · have h1 := hS b hb'
      have h2 := h.base
      exact (h.grown.block b (by have := h.size; omega) (fun e => by have := (h.old b e.symm).1; omega)).trans (hb.block b (by omega))
    · exact (h.grown.block b (by have := h.size; have := hb'.2.1; omega) (fun e => hb'.2.2 e.symm)).trans (hb.block b (by have := hb'.2.1; omega))
    · exact (h.fresh hv (Nat.le_refl _) hq hb).2 b hb'
  · rcases hb' with (hb' | hb') | hb'
    · exact .inl hb'
    · exact .inr ((h.past hv).1 b hb')
    · exact .inr ((h.fresh hv (Nat.le_refl _) hq hb).1 b hb')
structure Fl where
  p : List Ky
  l : List Int
  deriving DecidableEq
def rdFl : Rd Fl 2 where
  R S w x cs := ∃ ap cp an cn, cs = [.slice ap x.p.length cp, .slice an x.l.length cn] ∧ Pth S w (.slice ap x.p.length cp) x.p ∧ Ints S w (.slice an x.l.length cn) x.l
  len := by rintro S w x cs ⟨_, _, _, _, rfl, _⟩; rfl
  one := by rintro S w x cs ⟨_, _, _, _, rfl, _⟩ u hu; simp at hu; rcases hu with rfl | rfl <;> rfl
  agree := by rintro S w w' x cs ⟨a, b, c, d, rfl, h1, h2⟩ ha; exact ⟨a, b, c, d, rfl, h1.agree ha, h2.agree ha⟩
  wide := by rintro S w w' x cs ⟨a, b, c, d, rfl, h1, h2⟩ ha; exact ⟨a, b, c, d, rfl, h1.wide ha, h2.wide ha⟩
def rdPa : Rd (List Ky) 1 where
  R S w x cs := ∃ ap cp, cs = [.slice ap x.length cp] ∧ Pth S w (.slice ap x.length cp) x
  len := by rintro S w x cs ⟨_, _, rfl, _⟩; rfl
  one := by rintro S w x cs ⟨_, _, rfl, _⟩ u hu; simp at hu; rcases hu with rfl; rfl
  agree := by rintro S w w' x cs ⟨a, b, rfl, h1⟩ ha; exact ⟨a, b, rfl, h1.agree ha⟩
  wide := by rintro S w w' x cs ⟨a, b, rfl, h1⟩ ha; exact ⟨a, b, rfl, h1.wide ha⟩
structure Ch where
  p : List Ky
  had : Bool
  has : Bool
  old : List Int
  new : List Int
  deriving DecidableEq
def rdCh : Rd Ch 5 where
  R S w x cs := ∃ ap cp ao co an cn, cs = [.slice ap x.p.length cp, .bool x.had, .bool x.has, .slice ao x.old.length co, .slice an x.new.length cn] ∧ Pth S w (.slice ap x.p.length cp) x.p ∧ Ints S w (.slice ao x.old.length co) x.old ∧ Ints S w (.slice an x.new.length cn) x.new
  len := by rintro S w x cs ⟨_, _, _, _, _, _, rfl, _⟩; rfl
  one := by rintro S w x cs ⟨_, _, _, _, _, _, rfl, _⟩ u hu; simp at hu; rcases hu with rfl | rfl | rfl | rfl | rfl <;> rfl
  agree := by rintro S w w' x cs ⟨a, b, c, d, e, f, rfl, h1, h2, h3⟩ ha; exact ⟨a, b, c, d, e, f, rfl, h1.agree ha, h2.agree ha, h3.agree ha⟩
  wide := by rintro S w w' x cs ⟨a, b, c, d, e, f, rfl, h1, h2, h3⟩ ha; exact ⟨a, b, c, d, e, f, rfl, h1.wide ha, h2.wide ha, h3.wide ha⟩
abbrev FlSl := LSl rdFl
abbrev PaSl := LSl rdPa
abbrev ChSl := LSl rdCh
def cmpP : List Ky → List Ky → Int
  | [], [] => 0
  | [], _ :: _ => -1
  | _ :: _, [] => 1
  | a :: x, b :: y => if byK a b ≠ 0 then byK a b else cmpP x y
end Go.Proofs.LF
