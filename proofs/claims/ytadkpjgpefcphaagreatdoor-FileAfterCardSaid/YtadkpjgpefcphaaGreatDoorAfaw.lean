/- Parts of the proof of a law of layer 11 (file): LfClr, LfW92. The conditions stand in each theorem. -/
import Derived.Test.YtadkpjgpefcphaaGreatDoorProg
import Derived.Test.YtadkpjgpefcphaaGreatDoorAfad
import Derived.Test.YtadkpjgpefcphaaGreatDoorAfak
import Derived.Test.YtadkpjgpefcphaaGreatDoorAfal
import Derived.Test.YtadkpjgpefcphaaGreatDoorAfau
set_option linter.all false
set_option linter.unusedVariables false
set_option linter.unusedSimpArgs false
namespace Go.Proofs.LF
open Go.RowKit
set_option maxRecDepth 100000
def SK (u u' : Value) : Prop := (∃ x y, u = .int .i64 x ∧ u' = .int .i64 y) ∨ (∃ x y, u = .string x ∧ u' = .string y) ∨ ∃ x y, u = .bool x ∧ u' = .bool y
def Ks (u u' : Value) : Prop := u' = u ∨ SK u u'
theorem SK.trans {a b c : Value} (h : SK a b) (k : SK b c) : SK a c := by
 rcases h with ⟨x, y, rfl, rfl⟩ | ⟨x, y, rfl, rfl⟩ | ⟨x, y, rfl, rfl⟩
 · rcases k with ⟨p, q, h1, rfl⟩ | ⟨p, q, h1, rfl⟩ | ⟨p, q, h1, rfl⟩
   · exact .inl ⟨x, q, rfl, rfl⟩
   · cases h1
   · cases h1
 · rcases k with ⟨p, q, h1, rfl⟩ | ⟨p, q, h1, rfl⟩ | ⟨p, q, h1, rfl⟩
   · cases h1
   · exact .inr (.inl ⟨x, q, rfl, rfl⟩)
   · cases h1
 · rcases k with ⟨p, q, h1, rfl⟩ | ⟨p, q, h1, rfl⟩ | ⟨p, q, h1, rfl⟩
   · cases h1
   · cases h1
   · exact .inr (.inr ⟨x, q, rfl, rfl⟩)
theorem SK.symm {a b : Value} (h : SK a b) : SK b a := by
 rcases h with ⟨x, y, rfl, rfl⟩ | ⟨x, y, rfl, rfl⟩ | ⟨x, y, rfl, rfl⟩
 · exact .inl ⟨y, x, rfl, rfl⟩
 · exact .inr (.inl ⟨y, x, rfl, rfl⟩)
 · exact .inr (.inr ⟨y, x, rfl, rfl⟩)
theorem Ks.trans {a b c : Value} (h : Ks a b) (k : Ks b c) : Ks a c := by
 rcases h with rfl | h
 · exact k
 · rcases k with rfl | k
   · exact .inr h
   · exact .inr (h.trans k)
theorem Ks.to {a b c : Value} (h : Ks a b) (k : SK a c) : SK b c := by
 rcases h with rfl | h
 · exact k
 · exact h.symm.trans k
def KQ (w w' : World) : Prop := ∀ (b : Nat) (cs : Array Value) (t : TypeId) (fr : Nat × Nat), w.heap[b]? = some (.cells cs t fr) → ∃ cs', w'.heap[b]? = some (.cells cs' t fr) ∧ ∀ (o : Nat) u, cs[o]? = some u → ∃ u', cs'[o]? = some u' ∧ Ks u u'
theorem KQ.refl (w : World) : KQ w w := fun _ cs _ _ h => ⟨cs, h, fun _ u hu => ⟨u, hu, .inl rfl⟩⟩
theorem KQ.trans {a b c : World} (h : KQ a b) (k : KQ b c) : KQ a c := fun q cs t fr hq => by
 obtain ⟨cs1, h1, h2⟩ := h q cs t fr hq
 obtain ⟨cs2, k1, k2⟩ := k q cs1 t fr h1
 refine ⟨cs2, k1, fun o u hu => ?_⟩
 obtain ⟨u1, e1, d1⟩ := h2 o u hu
 obtain ⟨u2, e2, d2⟩ := k2 o u1 e1
 exact ⟨u2, e2, d1.trans d2⟩
theorem KQ.of_below {w w' : World} (h : Below w.heap.size w w') : KQ w w' := fun b cs _ _ hb =>
 ⟨cs, (h.block b (Array.getElem?_eq_some_iff.1 hb).1).trans hb, fun _ u hu => ⟨u, hu, .inl rfl⟩⟩
theorem KQ.cell {w w' : World} (h : KQ w w') {b o : Nat} {u : Value} (hc : w.cell? ⟨b, o, none⟩ = some u) : ∃ u', w'.cell? ⟨b, o, none⟩ = some u' ∧ Ks u u' := by
 unfold World.cell? at hc ⊢
 simp only at hc ⊢
 cases hb : w.heap[b]? with
 | none => rw [hb] at hc; cases hc
 | some x =>
   rw [hb] at hc
   cases x with
   | cells cs t fr =>
     obtain ⟨cs', h1, h2⟩ := h b cs t fr hb
     rw [h1]
     simp only [Option.isSome_none, Bool.false_eq_true, if_false] at hc ⊢
     exact h2 o u hc
   | _ => cases hc
theorem KQ.slice {w w' : World} (h : KQ w w') {b o : Nat} {a : Option Addr} {n c : Nat} (hc : w.cell? ⟨b, o, none⟩ = some (.slice a n c)) : w'.cell? ⟨b, o, none⟩ = some (.slice a n c) := by
 obtain ⟨u', h1, h2 | ⟨x, y, h2, _⟩ | ⟨x, y, h2, _⟩ | ⟨x, y, h2, _⟩⟩ := h.cell hc
 · rw [h1, h2]
 · cases h2
 · cases h2
 · cases h2
theorem KQ.bool {w w' : World} (h : KQ w w') {b o : Nat} {q : Bool} (hc : w.cell? ⟨b, o, none⟩ = some (.bool q)) : ∃ q', w'.cell? ⟨b, o, none⟩ = some (.bool q') := by
 obtain ⟨u', h1, h2 | ⟨x, y, h2, _⟩ | ⟨x, y, h2, _⟩ | ⟨x, y, h2, h3⟩⟩ := h.cell hc
 · exact ⟨q, by rw [h1, h2]⟩
 · cases h2
 · cases h2
 · exact ⟨y, by rw [h1, h3]⟩
theorem KQ.sk {w w' : World} (h : KQ w w') {b o : Nat} {u v : Value} (hn : SK u v) (hc : w.cell? ⟨b, o, none⟩ = some u) : ∃ u', w'.cell? ⟨b, o, none⟩ = some u' ∧ SK u' v := by
 obtain ⟨u', h1, h2⟩ := h.cell hc
 exact ⟨u', h1, h2.to hn⟩
theorem KQ.uf {w w' : World} (h : KQ w w') {q : Nat} (hu : Uf w q) : Uf w' q := by
 obtain ⟨cs, t, hb⟩ := hu
 obtain ⟨cs', h1, _⟩ := h q cs t (0, 0) hb
 exact ⟨cs', t, h1⟩
theorem KQ.setCell {w : World} {b o : Nat} {u v : Value} (hc : w.cell? ⟨b, o, none⟩ = some u) (hd : Ks u v) : KQ w (w.setCell ⟨b, o, none⟩ v) := fun q cs t fr hq => by
 by_cases hqb : b = q
 · subst hqb
   refine ⟨cs.setIfInBounds o v, by simp [World.setCell, Array.getElem?_modify, hq], fun i x hx => ?_⟩
   rw [Array.getElem?_setIfInBounds]
   by_cases hi : o = i
   · subst hi
     have hlt : o < cs.size := (Array.getElem?_eq_some_iff.1 hx).1
     rw [if_pos rfl, if_pos hlt]
     unfold World.cell? at hc
     simp only [hq, Option.isSome_none, Bool.false_eq_true, if_false] at hc
     rw [hx] at hc
     cases hc
     exact ⟨v, rfl, hd⟩
   · rw [if_neg hi]
     exact ⟨x, hx, .inl rfl⟩
 · exact ⟨cs, (Below.heap_setCell _ _ _ _ (Ne.symm hqb)).trans hq, fun i x hx => ⟨x, hx, .inl rfl⟩⟩
theorem KQ.sets (b : Nat) : ∀ (vs : List Value) (o : Nat) (w : World), (∀ j (hj : j < vs.length), ∃ u, w.cell? ⟨b, o + j, none⟩ = some u ∧ SK u vs[j]) → KQ w (w.setCells b o vs)
 | [], _, w, _ => KQ.refl w
 | v :: vs, o, w, h => by
   obtain ⟨x, hx, hn⟩ := h 0 (by simp)
   rw [Nat.add_zero] at hx
   have h1 : KQ w (w.setCell ⟨b, o, none⟩ v) := KQ.setCell hx (.inr hn)
   refine h1.trans ?_
   show KQ _ ((w.setCell ⟨b, o, none⟩ v).setCells b (o + 1) vs)
   refine KQ.sets b vs (o + 1) _ fun j hj => ?_
   obtain ⟨y, hy, hm⟩ := h (j + 1) (by simp; omega)
   rw [show o + 1 + j = o + (j + 1) by omega]
   exact h1.sk hm hy
theorem clear_q {w : World} {z : Value} {g o n c e k : Nat} {t ty : TypeId} (ht : Tryz.prog.underlying t = some (.slice e)) (hv : ∀ w, (zeroValue e).run Tryz.prog w = .ok z w) (hz : z.cells.size = k) (hz1 : ∀ v ∈ z.cells.toList, v.oneCell' = true) (hk : 0 < k) (hn : 0 < n) (hu : Uf w g) (hc : ∀ j, j < n * k → ∃ u, w.cell? ⟨g, o + j, none⟩ = some u ∧ SK u (z.cells.getD (j % k) undef)) :
 ∃ w', (Builtin.clear_ #[t] ty #[.slice (some ⟨g, o, none⟩) n c]).run Tryz.prog w = .ok (.tuple #[]) w' ∧ KQ w w' ∧ ∀ B, B ≤ g → Below B w w' := by
 obtain ⟨cs, T, hb⟩ := hu
 obtain ⟨vs, hvs⟩ : ∃ vs, (Builtin.zeroCells z.cells n).toList = vs := ⟨_, rfl⟩
 have hl : vs.length = n * k := by rw [← hvs, Array.length_toList, size_zeroCells, hz]
 have hval : ∀ q (hq : q < vs.length), vs[q] = z.cells.getD (q % k) undef := by
  intro q hq
  subst hvs
  have hq' : q < (Builtin.zeroCells z.cells n).size := by simpa using hq
  have hk' : q % z.cells.size < z.cells.size := Nat.mod_lt _ (by omega)
  have : (Builtin.zeroCells z.cells n).toList[q] = z.cells[q % z.cells.size] := by
   simp [Builtin.zeroCells, hk']
  rw [this, ← hz]
  simp [Array.getD, hk']
 have hmem : ∀ v ∈ vs, v ∈ z.cells.toList := by
  intro v hv'
  obtain ⟨q, hq, rfl⟩ := List.getElem_of_mem hv'
  rw [hval q hq]
  have hk' : q % k < z.cells.size := by rw [hz]; exact Nat.mod_lt _ hk
  simp [Array.getD, hk']
 have hst := run_storeCells_cells (P := Tryz.prog) g o vs 0 w (fun j hj => by
  rw [Nat.add_zero]
  obtain ⟨u, h1, _⟩ := hc j (by omega)
  rw [h1]; rfl) (fun j hj => by
  rw [Nat.add_zero]; exact cells_frz hb) (fun v hv' => hz1 v (hmem v hv'))
 rw [Nat.add_zero] at hst
 refine ⟨w.setCells g o vs, ?_, KQ.sets g vs o w (fun j hj => ?_), fun B hB => below_setCells hB vs o w (Below.refl B w)⟩
 · obtain ⟨m, hm⟩ : ∃ m, n = m + 1 := ⟨n - 1, by omega⟩
   subst hm
   simp [Builtin.clear_, run_underlying ht, hv, hvs, hst]
 · rw [hval j hj]
   exact hc j (by omega)
theorem clear_none {w : World} {t ty : TypeId} {e c : Nat} {an : Option Addr} (ht : Tryz.prog.underlying t = some (.slice e)) : (Builtin.clear_ #[t] ty #[.slice an 0 c]).run Tryz.prog w = .ok (.tuple #[]) w := by
 cases an with
 | none => simp [Builtin.clear_, run_underlying ht]
 | some ad => simp [Builtin.clear_, run_underlying ht]
theorem Tryz.zero71q (w : World) : (zeroValue 71).run Tryz.prog w = .ok (.agg #[.string ⟨#[]⟩, .bool false, .int .i64 0]) w := by kernel_rfl
theorem clear_ints {S : Nat → Prop} {w0 w : World} {l : List Int} {an : Option Addr} {cn : Nat} (ty : TypeId) (h : IntU S w0 (.slice an l.length cn) l) (hk : KQ w0 w) : ∃ w', (Builtin.clear_ #[66] ty #[.slice an l.length cn]).run Tryz.prog w = .ok (.tuple #[]) w' ∧ KQ w w' ∧ ∀ B, (∀ b, S b → B ≤ b) → Below B w w' := by
 by_cases hn : 0 < l.length
 · obtain ⟨g, o, rfl, hg, _, _, hc⟩ := SlC.cells h hn
   obtain ⟨w', h1, h2, h3⟩ := clear_q (k := 1) (w := w) (g := g) (o := o) (n := l.length) (c := cn) (ty := ty) Tryz.underlying66 Tryz.zero3 rfl (by simp [Value.cells, Value.oneCell']) (by omega) hn (hk.uf hg.2) (fun j hj => hk.sk (.inl ⟨_, 0, rfl, by rw [Nat.mod_one]; rfl⟩) (hc j (.int .i64 (l[j]'(by omega))) (by simp [show j < l.length by omega])))
   exact ⟨w', h1, h2, fun B hB => h3 B (hB g hg.1)⟩
 · obtain rfl : l = [] := List.eq_nil_of_length_eq_zero (by omega)
   exact ⟨w, clear_none Tryz.underlying66, KQ.refl w, fun B _ => Below.refl _ _⟩
theorem clear_path {S : Nat → Prop} {w0 w : World} {p : List Ky} {an : Option Addr} {cn : Nat} (ty : TypeId) (h : PthU S w0 (.slice an p.length cn) p) (hk : KQ w0 w) : ∃ w', (Builtin.clear_ #[65] ty #[.slice an p.length cn]).run Tryz.prog w = .ok (.tuple #[]) w' ∧ KQ w w' ∧ ∀ B, (∀ b, S b → B ≤ b) → Below B w w' := by
 by_cases hn : 0 < p.length
 · obtain ⟨g, o, rfl, hg, _, _, hc⟩ := SlC.cells h hn
   obtain ⟨w', h1, h2, h3⟩ := clear_q (k := 3) (w := w) (g := g) (o := o) (n := p.length) (c := cn) (ty := ty) Tryz.underlying65 Tryz.zero71q rfl (by simp [Value.cells, Value.oneCell']) (by omega) hn (hk.uf hg.2) (fun j hj => by
    have hi : j / 3 < p.length := by omega
    obtain ⟨k0, k1, k2⟩ := key_cells hi
    obtain h | h | h : j % 3 = 0 ∨ j % 3 = 1 ∨ j % 3 = 2 := by omega
    · rw [h]
      rw [show j / 3 * 3 = j by omega] at k0
      exact hk.sk (.inr (.inl ⟨_, ⟨#[]⟩, rfl, rfl⟩)) (hc j _ k0)
    · rw [h]
      rw [show j / 3 * 3 + 1 = j by omega] at k1
      exact hk.sk (.inr (.inr ⟨_, false, rfl, rfl⟩)) (hc j _ k1)
    · rw [h]
      rw [show j / 3 * 3 + 2 = j by omega] at k2
      exact hk.sk (.inl ⟨_, 0, rfl, rfl⟩) (hc j _ k2))
   exact ⟨w', h1, h2, fun B hB => h3 B (hB g hg.1)⟩
 · obtain rfl : p = [] := List.eq_nil_of_length_eq_zero (by omega)
   exact ⟨w, clear_none Tryz.underlying65, KQ.refl w, fun B _ => Below.refl _ _⟩
end Go.Proofs.LF
namespace Go.Proofs.LF
open Go.RowKit Go.Sort
set_option maxHeartbeats 4000000
set_option maxRecDepth 100000
attribute [local go_sem] bs_toList bs_size bs_get
theorem Tryz.zeroOf68 (w : World) : (zeroValue 68).run Tryz.prog w = .ok (.agg #[.slice none 0 0, .bool false, .bool false, .slice none 0 0, .slice none 0 0]) w := by kernel_rfl
theorem set5_row' {w : World} {g o : Nat} {cur : Array Value} {t : TypeId} {x y z u v : Value} (hg : w.heap[g]? = some (.cells cur t (0, 0))) :
 (((((w.setCell ⟨g, o, none⟩ x).setCell ⟨g, o + 1, none⟩ y).setCell ⟨g, o + 2, none⟩ z).setCell ⟨g, o + 3, none⟩ u).setCell ⟨g, o + 4, none⟩ v).heap[g]? = some (.cells (((((cur.setIfInBounds (o) x).setIfInBounds (o + 1) y).setIfInBounds (o + 2) z).setIfInBounds (o + 3) u).setIfInBounds (o + 4) v) t (0, 0)) := by
 simp [World.setCell, Array.getElem?_modify, hg]
theorem set5_other' {w : World} {g o b : Nat} {x y z u v : Value} (h : b ≠ g) : (((((w.setCell ⟨g, o, none⟩ x).setCell ⟨g, o + 1, none⟩ y).setCell ⟨g, o + 2, none⟩ z).setCell ⟨g, o + 3, none⟩ u).setCell ⟨g, o + 4, none⟩ v).heap[b]? = w.heap[b]? := by
 rw [Below.heap_setCell _ _ _ _ h, Below.heap_setCell _ _ _ _ h, Below.heap_setCell _ _ _ _ h, Below.heap_setCell _ _ _ _ h, Below.heap_setCell _ _ _ _ h]
theorem set5_take {cur : Array Value} {cs : List Value} {i j : Nat} (hi : i * 5 + 5 ≤ cur.size) (hj : j * 5 + 5 ≤ cs.length) :
 (((((cur.setIfInBounds (i * 5) (cs.getD (j * 5) undef)).setIfInBounds (i * 5 + 1) (cs.getD (j * 5 + 1) undef)).setIfInBounds (i * 5 + 2) (cs.getD (j * 5 + 2) undef)).setIfInBounds (i * 5 + 3) (cs.getD (j * 5 + 3) undef)).setIfInBounds (i * 5 + 4) (cs.getD (j * 5 + 4) undef)).toList.take ((i + 1) * 5) = cur.toList.take (i * 5) ++ (cs.drop (j * 5)).take 5 := by
 apply List.ext_getElem?
 intro q
 simp only [Array.toList_setIfInBounds, List.getElem?_take, List.getElem?_set, List.getElem?_append, List.length_take, List.length_set, Array.length_toList, List.getElem?_drop]
 have hm : min (i * 5) cur.size = i * 5 := by omega
 rw [hm]
 by_cases h1 : q < i * 5
 · simp only [h1, if_true]
   rw [if_pos (by omega)]
   repeat' rw [if_neg (by omega)]
 · simp only [h1, if_false]
   by_cases h2 : q < (i + 1) * 5
   · rw [if_pos h2]
     obtain h3 | h3 | h3 | h3 | h3 : q = i * 5 ∨ q = i * 5 + 1 ∨ q = i * 5 + 2 ∨ q = i * 5 + 3 ∨ q = i * 5 + 4 := by omega
     all_goals subst h3
     · rw [if_neg (by omega)]; rw [if_neg (by omega)]; rw [if_neg (by omega)]; rw [if_neg (by omega)]; rw [if_pos rfl, if_pos (by omega)]
       rw [if_pos (by omega), ← getD_of_lt (by omega)]
       congr 1; omega
     · rw [if_neg (by omega)]; rw [if_neg (by omega)]; rw [if_neg (by omega)]; rw [if_pos rfl, if_pos (by omega)]
       rw [if_pos (by omega), ← getD_of_lt (by omega)]
       congr 1; omega
     · rw [if_neg (by omega)]; rw [if_neg (by omega)]; rw [if_pos rfl, if_pos (by omega)]
       rw [if_pos (by omega), ← getD_of_lt (by omega)]
       congr 1; omega
     · rw [if_neg (by omega)]; rw [if_pos rfl, if_pos (by omega)]
       rw [if_pos (by omega), ← getD_of_lt (by omega)]
       congr 1; omega
     · rw [if_pos rfl, if_pos (by omega)]
       rw [if_pos (by omega), ← getD_of_lt (by omega)]
       congr 1; omega
   · rw [if_neg h2, if_neg (by omega)]
theorem clear5_row {P : Program} {w : World} {z : Value} {cur : Array Value} {g i n c e : Nat} {T : TypeId} (t ty : TypeId) (ht : P.underlying t = some (.slice e)) (hv : ∀ w, (zeroValue e).run P w = .ok z w) (hg : w.heap[g]? = some (.cells cur T (0, 0))) (hin : i < n) (hnc : n ≤ c) (hs : cur.size = c * 5) (hz : z.cells.size = 5 := by rfl) (hz1 : ∀ v ∈ z.cells.toList, v.oneCell' = true := by simp [Value.cells, Value.oneCell']) :
 ∃ w' cur', (Builtin.clear_ #[t] ty #[.slice (some ⟨g, i * 5, none⟩) (n - i) (c - i)]).run P w = .ok (.tuple #[]) w' ∧ w.grownBy w' (some g) ∧ w'.heap[g]? = some (.cells cur' T (0, 0)) ∧ cur'.size = cur.size ∧ cur'.toList.take (i * 5) = cur.toList.take (i * 5) := by
 refine clear_row ht hv hg hin hnc hs hz hz1 (by omega)
theorem del_chg (g : Nat) (hE : Enters g) (p : Nat → Bool) (caps : List Value) (n B gg c : Nat) (cs : List Value) (w : World) (hown : w.ownsRow B 68 5 (.slice (some ⟨gg, 0, none⟩) n c) n cs) (hsh : ∀ j, j < n → ∃ x0 y0 z0 x1 x2 x3 y3 z3 x4 y4 z4, cs.getD (j * 5) undef = (.slice x0 y0 z0) ∧ cs.getD (j * 5 + 1) undef = (.bool x1) ∧ cs.getD (j * 5 + 2) undef = (.bool x2) ∧ cs.getD (j * 5 + 3) undef = (.slice x3 y3 z3) ∧ cs.getD (j * 5 + 4) undef = (.slice x4 y4 z4)) (hlen : n ≤ 100000)
 (hp : ∀ i, i < n → ∀ W, w.grownBy W (some gg) → Calls Tryz.prog g ([elemV 5 cs i] ++ caps).toArray W fun e w' => e = .returned (.bool (p i)) ∧ Below W.heap.size W w') :
 Calls Tryz.prog 168 #[.slice (some ⟨gg, 0, none⟩) n c, .func (.func g) #[] caps.toArray] w fun e w' => e = .returned (.slice (some ⟨gg, 0, none⟩) (kpN p n) c) ∧ w'.ownsRow B 68 5 (.slice (some ⟨gg, 0, none⟩) (kpN p n) c) (kpN p n) (kpC 5 p cs n) ∧ w.grownBy w' (some gg) := by
 have hE' : ∀ (args : Array Value) (W : World), Sem.run Tryz.prog (callFunc g args) W = .ok (.enter g args) W := hE
 have hsl := SlC.of_owns hown
 obtain ⟨h1, ⟨h0, _⟩ | ⟨g', cap, cur0, he, hbg, hg0, hnc, hcap, hcs0, htk0⟩⟩ := id hown
 · cases h0
 cases he
 unfold maxLen at hcap
 have hgl : gg < w.heap.size := (Array.getElem?_eq_some_iff.1 hg0).1
 have IDX := hid (idx_chg g hE p caps n (some ⟨gg, 0, none⟩) c cs _ w hsl (fun b hb => hb.2) hlen (fun i hi W hW => hp i hi W ⟨hW.os, hW.tape, hW.output, hW.size, fun b hb _ => hW.block b hb⟩))
 have HP := hid hp
 have HG0 := hid hg0
 have HCS0 := hid hcs0
 have HTK0 := hid htk0
 have HOWN := hid hown
 have HCS := hid h1
 have HSH := hid hsh
 clear hp hown hsl hE hg0 hcs0 htk0 h1 hsh
 go_enter Tryz.func168, Tryz.ntmps168
 go_wp2_with fail
 refine IDX.out.mono ?_
 rintro e w1 ⟨rfl, hb1⟩
 have hz1 := hb1.size
 have HB1 := hid hb1
 obtain ⟨r, hr⟩ : ∃ r, idxN p n = r := ⟨_, rfl⟩
 rw [hr]
 have HR := hid hr
 clear hr IDX hb1
 rcases Int.lt_or_le r 0 with hneg | hpos
 · have hno := idxN_neg HR.out hneg
   obtain rfl := hno.1
   have HNO := hid hno.2
   clear hno hneg HR
   go_wp2_with fail
   go_ret
   have hgr : w.grownBy w1 (some gg) := ⟨HB1.out.os, HB1.out.tape, HB1.out.output, HB1.out.size, fun b hb _ => HB1.out.block b hb⟩
   rw [kpN_all HNO.out n (nl_ _), kpC_all HNO.out HCS.out n (nl_ _), List.take_of_length_le (Nat.le_of_eq HCS.out)]
   exact ⟨rfl, ob_ HOWN.out HB1.out (nl_ _), hgr⟩
 · obtain ⟨f, hrf, hfn, hfp, hfno⟩ := idxN_pos HR.out hpos
   have HRF := hid hrf
   have HFP := hid hfp
   have HFNO := hid hfno
   have hff : ¬ r = -1 := by omega
   have hr1 : r < 100000 := by omega
   have HFN := hid hfn
   clear HR hfp hfno hrf hfn
   go_wp2_with fail
   clear hff hpos hr1
   obtain ⟨bb, hbb⟩ : ∃ bb, (r == -1) = bb := ⟨_, rfl⟩
   rw [hbb]
   clear hbb
   go_loopw [5, 6] (fun vi vj wr => ∃ (i j : Nat) (cur : Array Value), vi = .int .i64 i ∧ vj = .int .i64 j ∧ i < j ∧ j ≤ n ∧ Hid (kpN p j = i) ∧ Hid (w.grownBy wr (some gg)) ∧ Hid (wr.heap[gg]? = some (.cells cur 68 (0, 0))) ∧ Hid (cur.size = c * 5) ∧ Hid (cur.toList.take (i * 5) = kpC 5 p cs j) ∧ Hid (∀ q, j * 5 ≤ q → q < n * 5 → cur[q]? = cs[q]?)) (fun _ vj _ => n - (intOf vj).toNat)
   case atStart =>
    have hfn := HFN.out
    refine ⟨f, f + 1, cur0, by rw [HRF.out], by rw [HRF.out]; go_num, by omega, by omega, ?_, ?_, ?_, HCS0.out, ?_, ?_⟩
    · show kpN p (f + 1) = f
      rw [kpN, HFP.out, if_pos rfl, kpN_all HFNO.out f (nl_ _)]
    · exact ⟨HB1.out.os, HB1.out.tape, HB1.out.output, HB1.out.size, fun b hb _ => HB1.out.block b hb⟩
    · exact (HB1.out.block gg hgl).trans HG0.out
    · show cur0.toList.take (f * 5) = kpC 5 p cs (f + 1)
      rw [kpC, HFP.out, if_pos rfl, kpC_all HFNO.out HCS.out f (by omega), ← HTK0.out, List.take_take, Nat.min_eq_left (Nat.mul_le_mul_right 5 (Nat.le_of_lt hfn))]
    · intro q _ hq
      have h2 := HTK0.out
      rw [← h2, List.getElem?_take, if_pos hq, Array.getElem?_toList]
   case round =>
    rename_i _ _ wr
    obtain ⟨i, j, cur, rfl, rfl, hij, hjn, HK, HGR, HG, HSZ, HT, HQ⟩ := hrel
    have hzr := HGR.out.size
    by_cases hlt : j < n
    · have hlt' : (j : Int) < (n : Int) := by omega
      obtain ⟨x0, y0, z0, x1, x2, x3, y3, z3, x4, y4, z4, s0, s1, s2, s3, s4⟩ := HSH.out j hlt
      have hel : elemV 5 cs j = .agg #[.slice x0 y0 z0, .bool x1, .bool x2, .slice x3 y3 z3, .slice x4 y4 z4] := by simp [elemV, List.range_succ, s0, s1, s2, s3, s4, -List.getD_eq_getElem?_getD]
      have q0 : j * 5 + 0 < n * 5 := by omega
      have c0 : wr.cell? ⟨gg, j * 5, none⟩ = some (.slice x0 y0 z0) := cg_ HG.out (k := j * 5) ((HQ.out (j * 5) (by omega) (by omega)).trans ((getD_of_lt (by rw [HCS.out]; omega)).trans (by rw [s0])))
      have q1 : j * 5 + 1 < n * 5 := by omega
      have c1 : wr.cell? ⟨gg, j * 5 + 1, none⟩ = some (.bool x1) := cg_ HG.out (k := j * 5 + 1) ((HQ.out (j * 5 + 1) (by omega) (by omega)).trans ((getD_of_lt (by rw [HCS.out]; omega)).trans (by rw [s1])))
      have q2 : j * 5 + 2 < n * 5 := by omega
      have c2 : wr.cell? ⟨gg, j * 5 + 2, none⟩ = some (.bool x2) := cg_ HG.out (k := j * 5 + 2) ((HQ.out (j * 5 + 2) (by omega) (by omega)).trans ((getD_of_lt (by rw [HCS.out]; omega)).trans (by rw [s2])))
      have q3 : j * 5 + 3 < n * 5 := by omega
      have c3 : wr.cell? ⟨gg, j * 5 + 3, none⟩ = some (.slice x3 y3 z3) := cg_ HG.out (k := j * 5 + 3) ((HQ.out (j * 5 + 3) (by omega) (by omega)).trans ((getD_of_lt (by rw [HCS.out]; omega)).trans (by rw [s3])))
      have q4 : j * 5 + 4 < n * 5 := by omega
      have c4 : wr.cell? ⟨gg, j * 5 + 4, none⟩ = some (.slice x4 y4 z4) := cg_ HG.out (k := j * 5 + 4) ((HQ.out (j * 5 + 4) (by omega) (by omega)).trans ((getD_of_lt (by rw [HCS.out]; omega)).trans (by rw [s4])))
      have NB := hid (heap_alloc_new wr (.cells #[.slice x0 y0 z0, .bool x1, .bool x2, .slice x3 y3 z3, .slice x4 y4 z4] 68))
      have BA := hid ((Below.refl wr.heap.size wr).alloc (nl_ _) (.cells #[.slice x0 y0 z0, .bool x1, .bool x2, .slice x3 y3 z3, .slice x4 y4 z4] 68))
      have m0 := cg_ NB.out (k := 0) (v := (.slice x0 y0 z0)) rfl
      have m1 := cg_ NB.out (k := 1) (v := (.bool x1)) rfl
      have m2 := cg_ NB.out (k := 2) (v := (.bool x2)) rfl
      have m3 := cg_ NB.out (k := 3) (v := (.slice x3 y3 z3)) rfl
      have m4 := cg_ NB.out (k := 4) (v := (.slice x4 y4 z4)) rfl
      obtain ⟨wa, hwa⟩ : ∃ wa, wr.alloc (.cells #[.slice x0 y0 z0, .bool x1, .bool x2, .slice x3 y3 z3, .slice x4 y4 z4] 68) = wa := ⟨_, rfl⟩
      have hza : wr.heap.size < wa.heap.size := by rw [← hwa]; simp
      rw [hwa] at NB BA m0 m1 m2 m3 m4
      have HWA := hid hwa
      have CALL := hid (HP.out j hlt wa ⟨BA.out.os.trans HGR.out.os, BA.out.tape.trans HGR.out.tape, BA.out.output.trans HGR.out.output, by omega, fun b hb hne => (BA.out.block b (by omega)).trans (HGR.out.block b hb hne)⟩)
      rw [hel] at CALL
      have HSS := hid (And.intro s0 (And.intro s1 (And.intro s2 (And.intro s3 s4))))
      clear hwa hel s0 s1 s2 s3 s4
      go_wp2_with fail
      rw [HWA.out]
      go_wp2_with fail
      refine CALL.out.mono ?_
      rintro e w2 ⟨rfl, hb2⟩
      have hz2 := hb2.size
      have hbx : Below wr.heap.size wr w2 := BA.out.trans (hb2.mono (by omega))
      have hgr2 : w.grownBy w2 (some gg) := ⟨hbx.os.trans HGR.out.os, hbx.tape.trans HGR.out.tape, hbx.output.trans HGR.out.output, by omega, fun b hb hne => (hbx.block b (by omega)).trans (HGR.out.block b hb hne)⟩
      have hg2 : w2.heap[gg]? = some (.cells cur 68 (0, 0)) := (hbx.block gg (by omega)).trans HG.out
      replace m0 := bc_ hb2 hza m0
      replace m1 := bc_ hb2 hza m1
      replace m2 := bc_ hb2 hza m2
      replace m3 := bc_ hb2 hza m3
      replace m4 := bc_ hb2 hza m4
      have HGR2 := hid hgr2
      have HG2 := hid hg2
      clear HWA CALL hb2 hbx hgr2 hg2 BA NB c0 c1 c2 c3 c4
      cases hpj : p j with
      | true =>
        have HPJ := hid hpj
        clear hpj
        go_wp2_with fail
        go_roundw
        case rel =>
         refine ⟨i, j + 1, cur, rfl, by go_num, by omega, by omega, ?_, HGR2, HG2, HSZ, ?_, fun q h1 h2 => HQ.out q (by omega) h2⟩
         · show kpN p (j + 1) = i
           rw [kpN, HPJ.out, if_pos rfl, HK.out]
         · show cur.toList.take (i * 5) = kpC 5 p cs (j + 1)
           rw [kpC, HPJ.out, if_pos rfl, HT.out]
        case measure => simp [intOf]; omega
      | false =>
        have HPJ := hid hpj
        clear hpj
        have hin : (i : Int) < (n : Int) := by omega
        have hi0 : (0 : Int) ≤ (i : Int) := by omega
        have hsz := HSZ.out
        have f0 := cells_frz HG2.out (k := i * 5)
        have e0 := cg_ HG2.out (k := i * 5) (Array.getElem?_eq_getElem (show i * 5 < cur.size by omega))
        have f1 := cells_frz HG2.out (k := i * 5 + 1)
        have e1 := cg_ HG2.out (k := i * 5 + 1) (Array.getElem?_eq_getElem (show i * 5 + 1 < cur.size by omega))
        have f2 := cells_frz HG2.out (k := i * 5 + 2)
        have e2 := cg_ HG2.out (k := i * 5 + 2) (Array.getElem?_eq_getElem (show i * 5 + 2 < cur.size by omega))
        have f3 := cells_frz HG2.out (k := i * 5 + 3)
        have e3 := cg_ HG2.out (k := i * 5 + 3) (Array.getElem?_eq_getElem (show i * 5 + 3 < cur.size by omega))
        have f4 := cells_frz HG2.out (k := i * 5 + 4)
        have e4 := cg_ HG2.out (k := i * 5 + 4) (Array.getElem?_eq_getElem (show i * 5 + 4 < cur.size by omega))
        go_wp2_with fail
        go_roundw
        case rel =>
         refine ⟨i + 1, j + 1, (((((cur.setIfInBounds (i * 5) (.slice x0 y0 z0)).setIfInBounds (i * 5 + 1) (.bool x1)).setIfInBounds (i * 5 + 2) (.bool x2)).setIfInBounds (i * 5 + 3) (.slice x3 y3 z3)).setIfInBounds (i * 5 + 4) (.slice x4 y4 z4)), by go_num, by go_num, by omega, by omega, ?_, ?_, ?_, ?_, ?_, ?_⟩
         · show kpN p (j + 1) = i + 1
           rw [kpN, HPJ.out, if_neg (by simp), HK.out]
         · exact ⟨HGR2.out.os, HGR2.out.tape, HGR2.out.output, by simpa [World.setCell] using HGR2.out.size, fun b hb hne => (set5_other' (fun e => hne (by rw [e]))).trans (HGR2.out.block b hb hne)⟩
         · exact set5_row' HG2.out
         · show _ = _
           simpa using HSZ.out
         · show List.take _ _ = _
           rw [kpC, HPJ.out, if_neg (by simp), ← HT.out]
           have hss := HSS.out
           rw [← hss.1, ← hss.2.1, ← hss.2.2.1, ← hss.2.2.2.1, ← hss.2.2.2.2]
           exact set5_take (by have := HSZ.out; omega) (by rw [HCS.out]; omega)
         · intro q h1 h2
           rw [← HQ.out q (by omega) h2]
           simp only [Array.getElem?_setIfInBounds]
           repeat' rw [if_neg (by omega)]
        case measure => simp [intOf]; omega
    · obtain rfl : j = n := by omega
      have hlt' : ¬ (j : Int) < (j : Int) := by omega
      have hin : (i : Int) ≤ (j : Int) := by omega
      have hin' : (i : Int) ≤ (c : Int) := by omega
      obtain ⟨w3, cur3, hclr, hgr3, hg3, hs3, ht3⟩ := clear5_row 62 0 (z := .agg #[.slice none 0 0, .bool false, .bool false, .slice none 0 0, .slice none 0 0]) Tryz.underlying62 Tryz.zeroOf68 HG.out (i := i) (n := j) (c := c) hij (by omega) HSZ.out
      have HGR3 := hid hgr3
      have HG3 := hid hg3
      have HT3 := hid ht3
      have hs3' := hid hs3
      clear hgr3 hg3 ht3 hs3
      go_wp2_with fail
      go_ret
      rw [HK.out]
      refine ⟨rfl, ⟨by rw [← HT.out, List.length_take, Array.length_toList, HSZ.out]; omega, .inr ⟨gg, c, cur3, rfl, hbg, HG3.out, by omega, by unfold maxLen; omega, hs3'.out.trans HSZ.out, HT3.out.trans HT.out⟩⟩, ?_⟩
      exact ⟨HGR3.out.os.trans HGR.out.os, HGR3.out.tape.trans HGR.out.tape, HGR3.out.output.trans HGR.out.output, by have := HGR3.out.size; omega, fun b hb hne => (HGR3.out.block b (by omega) hne).trans (HGR.out.block b hb hne)⟩
end Go.Proofs.LF
