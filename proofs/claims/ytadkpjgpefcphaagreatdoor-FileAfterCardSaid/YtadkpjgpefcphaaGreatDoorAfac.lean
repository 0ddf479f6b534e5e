/- Parts of the proof of a law of layer 11 (file): LfSpec, LfApp, LfOw, LfW1, LfCopy, LfRange, LfList, LfPrint, LfMap, LfHole, LfOn. The conditions stand in each theorem. -/
import Derived.BigQuiet
import Derived.Deep.QuietTactic
import Derived.Deep.RegionHeld3
import Derived.Laws.CopyOwn
import Derived.Laws.Entries
import Derived.Laws.MakeOwn
import Derived.Laws.ResultCell
import Derived.Lib.ItoaNum
import Derived.Lib.Join
import Derived.LoopIn
import Derived.LoopNIn
import Derived.Maps.AppendAt
import Derived.Maps.OwnOps
import Derived.Maps.OwnSet
import Derived.Outline
import Derived.OwnWalk
import Derived.OwnWalkIn
import Derived.RangeFuncBound
import Derived.RangeFuncCalls
import Derived.RangeFuncKeeps
import Derived.RangeFuncLeaves
import Derived.RangeFuncNested
import Derived.Shelf.Abstract
import Derived.StringKeys
import Derived.TacticsInMore
import Derived.Test.YtadkpjgpefcphaaGreatDoorProg
import Derived.WalkLawsBesides
import Derived.WalkSpells
import Derived.Test.YtadkpjgpefcphaaGreatDoorAfaa
set_option linter.all false
set_option linter.unusedVariables false
set_option linter.unusedSimpArgs false
namespace Go.Proofs.LF
def cmpB (a b : List UInt8) : Int := if Op.bytesLess a b then -1 else if Op.bytesLess b a then 1 else 0
def cmpI (a b : Int) : Int := if a < b then -1 else if b < a then 1 else 0
def byK (a b : Ky) : Int := if a.n ≠ b.n then cmpB a.n b.n else if a.h ≠ b.h then (if b.h then -1 else 1) else cmpI a.x b.x
def kyOf (n : List UInt8) : List Int → Ky
 | [] => ⟨n, false, 0⟩
 | x :: _ => ⟨n, true, x⟩
theorem kyOf_n (n : List UInt8) (l : List Int) : (kyOf n l).n = n := by cases l <;> rfl
def befK (a b : Ky) : Bool := if a.n ≠ b.n then Op.bytesLess a.n b.n else if a.h ≠ b.h then b.h else decide (a.x < b.x)
def offB (n most : Int) : Bool := decide (n < 0) || decide (most < n)
def badNs (l : List Int) : Bool := l.any fun x => offB x 9999
def badNm (s : List UInt8) : Bool := s.any (fun c => decide ((c.toNat : Int) < 97) || decide (122 < (c.toNat : Int))) || decide ((s.length : Int) < 1) || decide (8 < (s.length : Int))
def inB (n lo hi : Int) : Bool := decide (lo ≤ n) && decide (n ≤ hi)
theorem u8_eq_iff {a b : UInt8} : a = b ↔ a.toNat = b.toNat := ⟨fun h => by rw [h], fun h => UInt8.toNat_inj.1 h⟩
theorem bl_irrefl : ∀ (a : List UInt8), Op.bytesLess a a = false
 | [] => rfl
 | a :: x => by simp [Op.bytesLess, bl_irrefl x]
theorem bl_total : ∀ {a b : List UInt8}, Op.bytesLess a b = false → Op.bytesLess b a = false → a = b
 | [], [], _, _ => rfl
 | [], _ :: _, h, _ => by simp [Op.bytesLess] at h
 | _ :: _, [], _, h => by simp [Op.bytesLess] at h
 | a :: x, b :: y, h, k => by
   simp only [Op.bytesLess, Bool.or_eq_false_iff, decide_eq_false_iff_not, Bool.and_eq_false_iff, beq_eq_false_iff_ne, ne_eq] at h k
   have e : a = b := by
    have h1 := h.1; have h2 := k.1
    rw [UInt8.lt_iff_toNat_lt] at h1 h2
    rw [u8_eq_iff]; omega
   subst e
   rw [bl_total (h.2.resolve_left (by simp)) (k.2.resolve_left (by simp))]
theorem bl_of_ne {a b : List UInt8} (h : Op.bytesLess a b = false) (hn : a ≠ b) : Op.bytesLess b a = true := by
 cases hb : Op.bytesLess b a with
 | true => rfl
 | false => exact absurd (bl_total h hb) hn
def idxN (p : Nat → Bool) (n : Nat) : Int := match (List.range n).find? p with | some i => (i : Int) | none => -1
def anyN (p : Nat → Bool) (n : Nat) : Bool := (List.range n).any p
theorem idxN_found {p : Nat → Bool} {n k : Nat} (h : ∀ i, i < k → p i = false) (hk : k < n) (hp : p k = true) : idxN p n = k := by
 have : (List.range n).find? p = some k := by
  rw [List.find?_range_eq_some]
  exact ⟨hp, by simpa using hk, fun j hj => by simp [h j hj]⟩
 simp [idxN, this]
theorem idxN_none {p : Nat → Bool} {n : Nat} (h : ∀ i, i < n → p i = false) : idxN p n = -1 := by
 have : (List.range n).find? p = none := by
  rw [List.find?_eq_none]
  intro x hx
  simp [h x (by simpa using hx)]
 simp [idxN, this]
theorem idxN_any (p : Nat → Bool) (n : Nat) : decide (0 ≤ idxN p n) = anyN p n := by
 unfold idxN anyN
 cases h : (List.range n).find? p with
 | none =>
   rw [List.find?_eq_none] at h
   symm; simp
   intro x hx
   have := h x (by simpa using hx)
   simpa using this
 | some k =>
   have := List.find?_some h
   have hm := List.mem_of_find?_eq_some h
   simp
   exact ⟨k, by simpa using hm, this⟩
theorem anyN_list {α : Type} (q : α → Bool) (p : Nat → Bool) (l : List α) (h : ∀ i (hi : i < l.length), p i = q l[i]) : anyN p l.length = l.any q := by
 rw [Bool.eq_iff_iff]
 simp only [anyN, List.any_eq_true, List.mem_range]
 constructor
 · rintro ⟨i, hi, hp⟩
   exact ⟨l[i], by simp, by rw [← h i hi]; exact hp⟩
 · rintro ⟨x, hx, hq⟩
   obtain ⟨i, hi, rfl⟩ := List.getElem_of_mem hx
   exact ⟨i, hi, by rw [h i hi]; exact hq⟩
def ordG (bad : Ky → Ky → Bool) : Int → Option Ky → Fo → Int
 | _, _, .nil => 0
 | d, p, .cons n l s r =>
   if 3 < d then 10 else if badNm n then 11 else if 4 < (l.length : Int) then 2 else if badNs l then 3
   else if (match p with | none => false | some q => bad q (kyOf n l)) then 4
   else if ordG bad (d + 1) none s ≠ 0 then ordG bad (d + 1) none s else ordG bad d (some (kyOf n l)) r
def geK (a b : Ky) : Bool := decide (0 ≤ byK a b)
def nbefK (a b : Ky) : Bool := !befK a b
def ordF : Int → Fo → Int := fun d y => ordG geK d none y
structure NdD where
 up : List Ky
 n : List UInt8
 l : List Int
 s : Fo
def nodesL : List Ky → Fo → List NdD
 | _, .nil => []
 | up, .cons n l s r => ⟨up, n, l, s⟩ :: (nodesL (up ++ [kyOf n l]) s ++ nodesL up r)
theorem nodesL_app (up : List Ky) : ∀ (y z : Fo), nodesL up (y.app z) = nodesL up y ++ nodesL up z
 | .nil, _ => rfl
 | .cons n l s r, z => by simp only [Fo.app, nodesL, nodesL_app up r z]; simp
theorem nodesL_take {up : List Ky} {k : Nat} {y r s : Fo} {n : List UInt8} {l : List Int} (h : y.drop k = .cons n l s r) : nodesL up (y.take (k + 1)) = nodesL up (y.take k) ++ (⟨up, n, l, s⟩ :: nodesL (up ++ [kyOf n l]) s) := by
 rw [Fo.take_succ h, nodesL_app]; simp [nodesL]
theorem nodesL_pre {up : List Ky} : ∀ {k : Nat} {y : Fo}, nodesL up (y.take k) <+: nodesL up y
 | 0, _ => by simp [Fo.take, nodesL]
 | _ + 1, .nil => by simp [Fo.take]
 | k + 1, .cons n l s r => by
   obtain ⟨t, ht⟩ := nodesL_pre (up := up) (k := k) (y := r)
   exact ⟨t, by simp only [Fo.take, nodesL, ← ht]; simp⟩
theorem nodesL_length (up : List Ky) : ∀ (y : Fo), (nodesL up y).length = y.cnt
 | .nil => rfl
 | .cons n l s r => by simp only [nodesL, Fo.cnt, List.length_cons, List.length_append, nodesL_length _ s, nodesL_length up r]; omega
end Go.Proofs.LF
namespace Go.Proofs.LF
open Go.RowKit
variable {P : Program} (w : World)
theorem owns_shape {w : World} {base e k n : Nat} {v : Value} {xs : List Value} (h : w.ownsRow base e k v n xs) : ∃ a c, v = .slice a n c ∧ n ≤ c ∧ c ≤ maxLen := (SlC.of_owns h).shape
theorem run_append_ao (t ty : TypeId) (base : Nat) (e : TypeId) (i : TypeInfo) (z : Value) (size bytes : Nat) (ht : P.underlying t = some (.slice e)) (hi : P.info? e = some i) (hz : i.zero = some z)
 (hsize : i.size = size) (hby : i.bytes = bytes) (hzs : z.cells.size = size) (hsz : 0 < size)
 (v : Value) (n : Nat) (xs : List Value) (hown : w.ownsRow base e size v n xs)
 (ao : Option Addr) (m c : Nat) (news : List Value) (hl : news.length = m * size) (hnone : ao = none → m = 0 ∧ c = 0) (hnews : ∀ ad, ao = some ad → ∀ (j : Nat) (u : Value), news[j]? = some u → w.cell? (ad.add j) = some u) (h1 : ∀ u ∈ news, u.oneCell' = true)
 (h63 : n + m ≤ maxLen) (hbytes : (n + m) * bytes ≤ 140737488355328) (hbase : base ≤ w.heap.size) :
 ∃ a' c' w', (Builtin.append_ #[t, t] ty #[v, .slice ao m c]).run P w = .ok (.slice a' (n + m) c') w' ∧
  w'.ownsRow base e size (.slice a' (n + m) c') (n + m) (xs ++ news) ∧ w.grownBy w' v.ownBlock ∧ (∀ g, (Value.slice a' (n + m) c').ownBlock = some g → v.ownBlock = some g ∨ g = w.heap.size) := by
 cases ao with
 | some ad =>
   obtain ⟨v', w', hr, h2, h3, _, h5⟩ := run_append_own_at (P := P) w base t ty e i z size bytes ht hi hz hsize hby hzs hsz v n xs hown ad m c news hl (hnews ad rfl) h1 h63 hbytes hbase
   obtain ⟨a', c', rfl, _, _⟩ := owns_shape h2
   refine ⟨a', c', w', hr, h2, h3, fun g hg => ?_⟩
   rcases h5 with h5 | h5
   · exact .inl (by rw [← h5]; exact hg)
   · exact .inr (by rw [hg] at h5; exact Option.some.inj h5)
 | none =>
   obtain ⟨rfl, rfl⟩ := hnone rfl
   have hn : news = [] := List.eq_nil_of_length_eq_zero (by simpa using hl)
   subst hn
   have hrun := run_append_owned_none (P := P) w base t ty e i size ht hi v n xs hown
   obtain ⟨a', c', rfl, _, _⟩ := owns_shape hown
   exact ⟨a', c', w, hrun, by simpa using hown, World.grownBy.refl _ _, fun g hg => .inl hg⟩
theorem wp_append_ao {o : Oper} {a : Act} {K : Act → World → Prop} {Q : Exit → Act → World → Prop} (s x : Operand) (t : TypeId)
 (ho : o.op = .call { callee := .builtin .append, args := #[s, x], argTypes := #[t, t] })
 (base : Nat) (e : TypeId) (i : TypeInfo) (z : Value) (size bytes : Nat) (ht : P.underlying t = some (.slice e)) (hi : P.info? e = some i) (hz : i.zero = some z)
 (hsize : i.size = size) (hby : i.bytes = bytes) (hzs : z.cells.size = size) (hsz : 0 < size)
 (v : Value) (n : Nat) (xs : List Value) (hs : a.eval s = v) (hown : w.ownsRow base e size v n xs)
 (ao : Option Addr) (m c : Nat) (news : List Value) (hx : a.eval x = .slice ao m c) (hl : news.length = m * size) (hnone : ao = none → m = 0 ∧ c = 0) (hnews : ∀ ad, ao = some ad → ∀ (j : Nat) (u : Value), news[j]? = some u → w.cell? (ad.add j) = some u) (h1 : ∀ u ∈ news, u.oneCell' = true)
 (h63 : n + m ≤ maxLen) (hbytes : (n + m) * bytes ≤ 140737488355328) (hbase : base ≤ w.heap.size)
 (h : ∀ a' c' w', w'.ownsRow base e size (.slice a' (n + m) c') (n + m) (xs ++ news) → w.grownBy w' v.ownBlock → (∀ g, (Value.slice a' (n + m) c').ownBlock = some g → v.ownBlock = some g ∨ g = w.heap.size) → K (a.put o.dst (.slice a' (n + m) c')) w') : o.wp P a w K Q := by
 obtain ⟨a', c', w', hr, h2, h3, h4⟩ := run_append_ao (P := P) w t o.type base e i z size bytes ht hi hz hsize hby hzs hsz v n xs hown ao m c news hl hnone hnews h1 h63 hbytes hbase
 unfold Oper.wp execOp
 simp only [ho, resolve, invoke, builtin, Sem.run_bind, Sem.run_pure, Result.andThen_ok, List.map_toArray, List.map_cons, List.map_nil, hs, hx, hr]
 exact h a' c' w' h2 h3 h4
theorem wpList_append_ao {ops : Array Oper} {rest : List Oper} {o : Oper} {a : Act} {Q : Exit → Act → World → Prop} (hgd : o.guard = none) (s x : Operand) (t : TypeId)
 (ho : o.op = .call { callee := .builtin .append, args := #[s, x], argTypes := #[t, t] })
 (base : Nat) (e : TypeId) (i : TypeInfo) (z : Value) (size bytes : Nat) (ht : P.underlying t = some (.slice e)) (hi : P.info? e = some i) (hz : i.zero = some z)
 (hsize : i.size = size) (hby : i.bytes = bytes) (hzs : z.cells.size = size) (hsz : 0 < size)
 (v : Value) (n : Nat) (xs : List Value) (hs : a.eval s = v) (hown : w.ownsRow base e size v n xs)
 (ao : Option Addr) (m c : Nat) (news : List Value) (hx : a.eval x = .slice ao m c) (hl : news.length = m * size) (hnone : ao = none → m = 0 ∧ c = 0) (hnews : ∀ ad, ao = some ad → ∀ (j : Nat) (u : Value), news[j]? = some u → w.cell? (ad.add j) = some u) (h1 : ∀ u ∈ news, u.oneCell' = true)
 (h63 : n + m ≤ maxLen) (hbytes : (n + m) * bytes ≤ 140737488355328) (hbase : base ≤ w.heap.size)
 (h : ∀ a' c' w', w'.ownsRow base e size (.slice a' (n + m) c') (n + m) (xs ++ news) → w.grownBy w' v.ownBlock → (∀ g, (Value.slice a' (n + m) c').ownBlock = some g → v.ownBlock = some g ∨ g = w.heap.size) → wpList P ops Q rest (a.put o.dst (.slice a' (n + m) c')) w') : wpList P ops Q (o :: rest) a w :=
 wpList_plain hgd fun _ hK => wp_append_ao w s x t ho base e i z size bytes ht hi hz hsize hby hzs hsz v n xs hs hown ao m c news hx hl hnone hnews h1 h63 hbytes hbase fun a' c' w' h2 h3 h4 => hK _ _ (h a' c' w' h2 h3 h4)
theorem step_append_ao {ops : Array Oper} {o : Oper} {a : Act} {K : Act → World → Prop} {Q : Exit → Act → World → Prop} {E : Prop} (hgd : o.guard = none) (s x : Operand) (t : TypeId)
 (ho : o.op = .call { callee := .builtin .append, args := #[s, x], argTypes := #[t, t] })
 (base : Nat) (e : TypeId) (i : TypeInfo) (z : Value) (size bytes : Nat) (ht : P.underlying t = some (.slice e)) (hi : P.info? e = some i) (hz : i.zero = some z)
 (hsize : i.size = size) (hby : i.bytes = bytes) (hzs : z.cells.size = size) (hsz : 0 < size)
 (v : Value) (n : Nat) (xs : List Value) (hs : a.eval s = v) (hown : w.ownsRow base e size v n xs)
 (ao : Option Addr) (m c : Nat) (news : List Value) (hx : a.eval x = .slice ao m c) (hl : news.length = m * size) (hnone : ao = none → m = 0 ∧ c = 0) (hnews : ∀ ad, ao = some ad → ∀ (j : Nat) (u : Value), news[j]? = some u → w.cell? (ad.add j) = some u) (h1 : ∀ u ∈ news, u.oneCell' = true)
 (h63 : n + m ≤ maxLen) (hbytes : (n + m) * bytes ≤ 140737488355328) (hbase : base ≤ w.heap.size)
 (h : ∀ a' c' w', w'.ownsRow base e size (.slice a' (n + m) c') (n + m) (xs ++ news) → w.grownBy w' v.ownBlock → (∀ g, (Value.slice a' (n + m) c').ownBlock = some g → v.ownBlock = some g ∨ g = w.heap.size) → K (a.put o.dst (.slice a' (n + m) c')) w') :
 if Region.wanted o (yielded ops a.tmps) = true then Oper.wp P o a w K Q else E := by
 have hw : Region.wanted o (yielded ops a.tmps) = true := by simp [Region.wanted, hgd]
 rw [if_pos hw]
 exact wp_append_ao w s x t ho base e i z size bytes ht hi hz hsize hby hzs hsz v n xs hs hown ao m c news hx hl hnone hnews h1 h63 hbytes hbase h
end Go.Proofs.LF
namespace Go.Proofs.LF
open Go.RowKit
def FOCs (E : TypeId) : (Nat → Prop) → World → Fo → List Value → Prop
 | _, _, .nil, cs => cs = []
 | S, w, .cons n l s r, cs => ∃ (vn vs : Value) (cs' : List Value) (S1 S2 S3 : Nat → Prop), cs = .string (bs n) :: vn :: vs :: cs' ∧
    (∀ b, S1 b ∨ S2 b ∨ S3 b → S b) ∧ (∀ b, S1 b → ¬ S2 b) ∧ (∀ b, S1 b → ¬ S3 b) ∧ (∀ b, S2 b → ¬ S3 b) ∧ Ints S1 w vn l ∧
    (∃ ds, w.ownsRow 0 E 3 vs s.len ds ∧ (∀ g, vs.ownBlock = some g → S2 g) ∧ FOCs E (fun b => S2 b ∧ vs.ownBlock ≠ some b) w s ds) ∧ FOCs E S3 w r cs'
def FOw (E : TypeId) (S : Nat → Prop) (w : World) (v : Value) (y : Fo) : Prop :=
 ∃ ds, w.ownsRow 0 E 3 v y.len ds ∧ (∀ g, v.ownBlock = some g → S g) ∧ FOCs E (fun b => S b ∧ v.ownBlock ≠ some b) w y ds
theorem owns_agree {w w' : World} {base e k n : Nat} {v : Value} {xs : List Value} (h : w.ownsRow base e k v n xs) (ha : ∀ g, v.ownBlock = some g → w'.heap[g]? = w.heap[g]?) : w'.ownsRow base e k v n xs := by
 refine ⟨h.1, ?_⟩
 rcases h.2 with hn | ⟨g, cap, cur, rfl, hb, hgg, rest⟩
 · exact .inl hn
 · exact .inr ⟨g, cap, cur, rfl, hb, (ha g rfl).trans hgg, rest⟩
theorem owns_base {w : World} {base base' e k n : Nat} {v : Value} {xs : List Value} (h : w.ownsRow base e k v n xs) (hb : ∀ g, v.ownBlock = some g → base' ≤ g) : w.ownsRow base' e k v n xs := by
 refine ⟨h.1, ?_⟩
 rcases h.2 with hn | ⟨g, cap, cur, rfl, hb', hgg, rest⟩
 · exact .inl hn
 · exact .inr ⟨g, cap, cur, rfl, hb g rfl, hgg, rest⟩
theorem FOCs.agree {E : TypeId} {w w' : World} : ∀ {y : Fo} {S : Nat → Prop} {cs : List Value}, FOCs E S w y cs → Agree S w w' → FOCs E S w' y cs
 | .nil, _, _, h, _ => h
 | .cons n l s r, S, cs, ⟨vn, vs, cs', S1, S2, S3, h1, hs, d1, d2, d3, h2, ⟨ds, h3, h4, h5⟩, h6⟩, ha =>
   ⟨vn, vs, cs', S1, S2, S3, h1, hs, d1, d2, d3, h2.agree (fun b hb => ha b (hs b (.inl hb))),
     ⟨ds, owns_agree h3 (fun g hg => ha g (hs g (.inr (.inl (h4 g hg))))), h4, h5.agree (fun b hb => ha b (hs b (.inr (.inl hb.1))))⟩, h6.agree (fun b hb => ha b (hs b (.inr (.inr hb))))⟩
theorem FOCs.wide {E : TypeId} {w : World} : ∀ {y : Fo} {S S' : Nat → Prop} {cs : List Value}, FOCs E S w y cs → (∀ b, S b → S' b) → FOCs E S' w y cs
 | .nil, _, _, _, h, _ => h
 | .cons n l s r, S, S', cs, ⟨vn, vs, cs', S1, S2, S3, h1, hs, d1, d2, d3, h2, h3, h6⟩, hw =>
   ⟨vn, vs, cs', S1, S2, S3, h1, fun b hb => hw b (hs b hb), d1, d2, d3, h2, h3, h6⟩
theorem FOCs.app {E : TypeId} {w : World} : ∀ {y z : Fo} {S S' : Nat → Prop} {cs ds : List Value}, FOCs E S w y cs → FOCs E S' w z ds → (∀ b, S b → ¬ S' b) → FOCs E (fun b => S b ∨ S' b) w (y.app z) (cs ++ ds)
 | .nil, z, _, _, _, _, h, h', _ => by rw [show _ = [] from h]; exact h'.wide (fun b hb => .inr hb)
 | .cons n l s r, z, S, S', cs, ds, ⟨vn, vs, cs', S1, S2, S3, h1, hs, d1, d2, d3, h2, h3, h6⟩, h', hd =>
   ⟨vn, vs, cs' ++ ds, S1, S2, fun b => S3 b ∨ S' b, by rw [h1]; rfl, fun b hb => by
     rcases hb with hb | hb | hb | hb
     · exact .inl (hs b (.inl hb))
     · exact .inl (hs b (.inr (.inl hb)))
     · exact .inl (hs b (.inr (.inr hb)))
     · exact .inr hb,
     d1, fun b hb h => h.elim (d2 b hb) (hd b (hs b (.inl hb))), fun b hb h => h.elim (d3 b hb) (hd b (hs b (.inr (.inl hb)))), h2, h3,
     h6.app h' (fun b hb => hd b (hs b (.inr (.inr hb))))⟩
theorem FOCs.fcs {E : TypeId} {w : World} : ∀ {y : Fo} {S : Nat → Prop} {cs : List Value}, FOCs E S w y cs → FCs S w y cs
 | .nil, _, _, h => h
 | .cons n l s r, S, cs, ⟨vn, vs, cs', S1, S2, S3, h1, hs, _, _, _, h2, ⟨ds, h3, h4, h5⟩, h6⟩ => by
   refine ⟨vn, vs, cs', h1, h2.wide (fun b hb => hs b (.inl hb)), ⟨ds, ?_, h5.fcs.wide (fun b hb => hs b (.inr (.inl hb.1)))⟩, h6.fcs.wide (fun b hb => hs b (.inr (.inr hb)))⟩
   exact owns_slc h3 (fun g hg => hs g (.inr (.inl (h4 g hg))))
 where
 owns_slc {w : World} {base e k n : Nat} {v : Value} {xs : List Value} {S : Nat → Prop} (h : w.ownsRow base e k v n xs) (hS : ∀ g, v.ownBlock = some g → S g) : SlC S w k v n xs := by
  obtain ⟨h1, h2⟩ := h
  refine ⟨h1, ?_⟩
  rcases h2 with ⟨rfl, rfl⟩ | ⟨g, cap, cur, rfl, hb, hg, hn, hc, hs, ht⟩
  · exact ⟨none, 0, rfl, by omega, by simp [maxLen], fun _ => rfl, .inl rfl⟩
  · refine ⟨_, cap, rfl, hn, hc, (fun h => by cases h), .inr ⟨g, 0, rfl, hS g rfl, fun j u hj => ?_⟩⟩
    simp only [World.cell?, hg, Nat.zero_add]
    rw [← ht, List.getElem?_take] at hj
    split at hj
    · simpa using hj
    · cases hj
theorem FOw.agree {E : TypeId} {S : Nat → Prop} {w w' : World} {v : Value} {y : Fo} (h : FOw E S w v y) (ha : Agree S w w') : FOw E S w' v y :=
 let ⟨ds, h1, h2, h3⟩ := h; ⟨ds, owns_agree h1 (fun g hg => ha g (h2 g hg)), h2, h3.agree (fun b hb => ha b hb.1)⟩
theorem FOw.wide {E : TypeId} {S S' : Nat → Prop} {w : World} {v : Value} {y : Fo} (h : FOw E S w v y) (hw : ∀ b, S b → S' b) : FOw E S' w v y :=
 let ⟨ds, h1, h2, h3⟩ := h; ⟨ds, h1, fun g hg => hw g (h2 g hg), h3.wide (fun b hb => ⟨hw b hb.1, hb.2⟩)⟩
theorem FOw.fsl {E : TypeId} {S : Nat → Prop} {w : World} {v : Value} {y : Fo} (h : FOw E S w v y) : FSl S w v y :=
 let ⟨ds, h1, h2, h3⟩ := h; ⟨ds, FOCs.fcs.owns_slc h1 h2, h3.fcs.wide (fun b hb => hb.1)⟩
theorem FOCs.one {E : TypeId} {S1 S2 : Nat → Prop} {w : World} {n : List UInt8} {l : List Int} {s : Fo} {vn vs : Value} (h1 : Ints S1 w vn l) (h2 : FOw E S2 w vs s) (hd : ∀ b, S1 b → ¬ S2 b) : FOCs E (fun b => S1 b ∨ S2 b) w (.cons n l s .nil) [.string (bs n), vn, vs] := by
 obtain ⟨ds, h3, h4, h5⟩ := h2
 exact ⟨vn, vs, [], S1, S2, fun _ => False, rfl, fun b hb => by rcases hb with hb | hb | hb; exact .inl hb; exact .inr hb; exact hb.elim, hd, fun _ _ h => h, fun _ _ h => h, h1, ⟨ds, h3, h4, h5⟩, rfl⟩
end Go.Proofs.LF
namespace Go.Proofs.LF
open Go.RowKit
set_option maxHeartbeats 1000000
set_option maxRecDepth 100000
attribute [local go_sem] bs_toList
theorem isNaNs (x : ByteArray) (w : World) :
 Calls Tryz.prog 268 #[.string x] w fun e w' => e = .returned (.bool false) ∧ w = w' := by
 go_enter Tryz.func268, Tryz.ntmps268
 go_wp2
 go_ret
 exact ⟨by simp, rfl⟩
theorem isNaNi (x : Int) (w : World) :
 Calls Tryz.prog 269 #[.int .i64 x] w fun e w' => e = .returned (.bool false) ∧ w = w' := by
 go_enter Tryz.func269, Tryz.ntmps269
 go_wp2
 go_ret
 exact ⟨by simp, rfl⟩
theorem ret_int {k : IntKind} {a b : Int} (h : a = b) : Ending.returned (.int k a) = .returned (.int k b) := by rw [h]
theorem ret_bool {a b : Bool} (h : a = b) : Ending.returned (.bool a) = .returned (.bool b) := by rw [h]
theorem cmps_any (x y : List UInt8) (w : World) :
 Calls Tryz.prog 223 #[.string (bs x), .string (bs y)] w fun e w' => e = .returned (.int .i64 (cmpB x y)) ∧ w = w' := by
 go_enter Tryz.func223, Tryz.ntmps223
 go_wp2_with (go_at_call 268; refine (isNaNs _ _).mono ?_; rintro e w' ⟨rfl, rfl⟩)
 all_goals go_ret
 · exact ⟨ret_int (by simp [cmpB, *]), rfl⟩
 · have h1 : Op.bytesLess x y = false := by assumption
   have h2 : (!x == y) = true := by assumption
   exact ⟨ret_int (by simp [cmpB, h1, bl_of_ne h1 (by simpa using h2)]), rfl⟩
 · have h2 : (!x == y) = false := by assumption
   have h3 : x = y := by simpa using h2
   exact ⟨ret_int (by rw [h3]; simp [cmpB, bl_irrefl]), rfl⟩
theorem cmpi_any (x y : Int) (w : World) :
 Calls Tryz.prog 224 #[.int .i64 x, .int .i64 y] w fun e w' => e = .returned (.int .i64 (cmpI x y)) ∧ w = w' := by
 go_enter Tryz.func224, Tryz.ntmps224
 go_wp2_with (go_at_call 269; refine (isNaNi _ _).mono ?_; rintro e w' ⟨rfl, rfl⟩)
 all_goals go_ret
 all_goals refine ⟨ret_int ?_, rfl⟩
 all_goals unfold cmpI
 · rw [if_pos ‹_›]
 · rw [if_neg (by omega), if_pos ‹_›]
 · rw [if_neg (by omega), if_neg (by omega)]
theorem in_any (n lo hi : Int) (w : World) :
 Calls Tryz.prog 151 #[.int .i64 n, .int .i64 lo, .int .i64 hi] w fun e w' => e = .returned (.bool (inB n lo hi)) ∧ w = w' := by
 by_cases h1 : lo ≤ n
 · go_enter Tryz.func151, Tryz.ntmps151
   go_wp2
   go_ret
   exact ⟨ret_bool (by simp [inB, h1]), rfl⟩
 · go_enter Tryz.func151, Tryz.ntmps151
   go_wp2
   go_ret
   exact ⟨ret_bool (by simp [inB]; omega), rfl⟩
theorem number_any (n : Int) (w : World) :
 Calls Tryz.prog 156 #[.int .i64 n] w fun e w' => e = .returned (.bool (inB n 0 9999)) ∧ w = w' := by
 go_enter Tryz.func156, Tryz.ntmps156
 go_wp2_with (go_at_call 151; refine (in_any _ _ _ _).mono ?_; rintro e w' ⟨rfl, rfl⟩)
 go_ret
 exact ⟨rfl, rfl⟩
theorem off_any (n m : Int) (w : World) :
 Calls Tryz.prog 146 #[.int .i64 n, .int .i64 m] w fun e w' => e = .returned (.bool (offB n m)) ∧ w = w' := by
 by_cases h1 : n < 0
 · go_enter Tryz.func146, Tryz.ntmps146
   go_wp2
   go_ret
   exact ⟨ret_bool (by simp [offB, h1]), rfl⟩
 · go_enter Tryz.func146, Tryz.ntmps146
   go_wp2
   go_ret
   exact ⟨ret_bool (by simp [offB]; omega), rfl⟩
theorem has_any (lo hi b : Int) (w : World) :
 Calls Tryz.prog 187 #[.agg #[.int .u8 lo, .int .u8 hi], .int .u8 b] w fun e w' => e = .returned (.bool (inB b lo hi)) ∧ Below w.heap.size w w' := by
 by_cases h1 : lo ≤ b
 · go_enter Tryz.func187, Tryz.ntmps187
   go_wp2
   go_ret
   exact ⟨ret_bool (by simp [inB, h1]), (Below.refl _ _).alloc (nl_ _) _⟩
 · go_enter Tryz.func187, Tryz.ntmps187
   go_wp2
   go_ret
   exact ⟨ret_bool (by simp [inB]; omega), (Below.refl _ _).alloc (nl_ _) _⟩
theorem byKey_any (a b : Ky) (w : World) :
 Calls Tryz.prog 183 #[.agg #[.string (bs a.n), .bool a.h, .int .i64 a.x], .agg #[.string (bs b.n), .bool b.h, .int .i64 b.x]] w fun e w' => e = .returned (.int .i64 (byK a b)) ∧ Below w.heap.size w w' := by
 obtain ⟨an, ah, ax⟩ := a
 obtain ⟨bn, bh, bx⟩ := b
 by_cases h : an = bn
 · have h' : (an == bn) = true := by simp [h]
   cases ah <;> cases bh
   all_goals
    go_enter Tryz.func183, Tryz.ntmps183
    go_wp2_with (first | (go_at_call 223; refine (cmps_any _ _ _).mono ?_; rintro e w' ⟨rfl, rfl⟩) | (go_at_call 224; refine (cmpi_any _ _ _).mono ?_; rintro e w' ⟨rfl, rfl⟩))
    go_ret
    exact ⟨ret_int (by simp [byK, h]), ((Below.refl _ _).alloc (nl_ _) _).alloc (by simp) _⟩
 · have h' : (an == bn) = false := by simp [h]
   go_enter Tryz.func183, Tryz.ntmps183
   go_wp2_with (first | (go_at_call 223; refine (cmps_any _ _ _).mono ?_; rintro e w' ⟨rfl, rfl⟩) | (go_at_call 224; refine (cmpi_any _ _ _).mono ?_; rintro e w' ⟨rfl, rfl⟩))
   go_ret
   exact ⟨ret_int (by simp [byK, h]), ((Below.refl _ _).alloc (nl_ _) _).alloc (by simp) _⟩
theorem before_any (a b : Ky) (w : World) :
 Calls Tryz.prog 108 #[.agg #[.string (bs a.n), .bool a.h, .int .i64 a.x], .agg #[.string (bs b.n), .bool b.h, .int .i64 b.x]] w fun e w' => e = .returned (.bool (befK a b)) ∧ Below w.heap.size w w' := by
 obtain ⟨an, ah, ax⟩ := a
 obtain ⟨bn, bh, bx⟩ := b
 by_cases h : an = bn
 · have h' : (an == bn) = true := by simp [h]
   cases ah <;> cases bh
   all_goals
    go_enter Tryz.func108, Tryz.ntmps108
    go_wp2
    go_ret
    exact ⟨ret_bool (by simp [befK, h]), ((Below.refl _ _).alloc (nl_ _) _).alloc (by simp) _⟩
 · have h' : (an == bn) = false := by simp [h]
   go_enter Tryz.func108, Tryz.ntmps108
   go_wp2
   go_ret
   exact ⟨ret_bool (by simp [befK, h]), ((Below.refl _ _).alloc (nl_ _) _).alloc (by simp) _⟩
end Go.Proofs.LF
namespace Go.Proofs.LF
open Go.RowKit
variable {P : Program}
theorem run_copy_rowK (w : World) (dT sT ty elem : TypeId) (k g o dLen dCap m : Nat) (a : Addr) (sLen sCap : Nat) (cur : Array Value) (t : TypeId) (cs : List Value)
 (hu : P.underlying dT = some (.slice elem)) (hs : (P.info? elem).map (·.size) = some k)
 (hg : w.heap[g]? = some (.cells cur t (0, 0))) (hm : m = Nat.min sLen dLen) (hn : cs.length = k * m)
 (hsrc : ∀ j v, cs[j]? = some v → w.cell? (a.add j) = some v) (hfit : o + cs.length ≤ cur.size) (h1 : ∀ v ∈ cs, v.oneCell' = true) :
 (Builtin.copy_ #[dT, sT] ty #[.slice (some ⟨g, o, none⟩) dLen dCap, .slice (some a) sLen sCap]).run P w =
  .ok (goInt m) (w.setRow g (cur.toList.take o ++ cs ++ cur.toList.drop (o + cs.length)).toArray) := by
 have hl := run_loadCells_list (P := P) w a cs hsrc
 have hst := run_storeCells_at P g o t cs 0 cur w hg (by simpa using hfit) h1
 rw [hn, Nat.mul_comm] at hl
 cases hq : P.info? elem with
 | none => simp [hq] at hs
 | some i =>
   have hi : i.size = k := by simpa [hq] using hs
   simp [Builtin.copy_, run_underlying hu, Builtin.lenOf, Builtin.firstCells, sizeOf, typeInfo, hq, hi, ← hm, hl, hst]
theorem wpList_copyK {w : World} {ops : Array Oper} {rest : List Oper} {o : Oper} {a : Act} {Q : Exit → Act → World → Prop} (hgd : o.guard = none) (d s : Operand) (dT sT : TypeId)
 (ho : o.op = .call { callee := .builtin .copy, args := #[d, s], argTypes := #[dT, sT] }) (elem k : TypeId) (hu : P.underlying dT = some (.slice elem)) (hsz : (P.info? elem).map (·.size) = some k)
 (g off dLen dCap m : Nat) (ad : Addr) (sLen sCap : Nat) (hd : a.eval d = .slice (some ⟨g, off, none⟩) dLen dCap) (hs : a.eval s = .slice (some ad) sLen sCap)
 (cur : Array Value) (t : TypeId) (hg : w.heap[g]? = some (.cells cur t (0, 0))) (cs : List Value) (hm : m = Nat.min sLen dLen) (hn : cs.length = k * m)
 (hsrc : ∀ j v, cs[j]? = some v → w.cell? (ad.add j) = some v) (hfit : off + cs.length ≤ cur.size) (h1 : ∀ v ∈ cs, v.oneCell' = true)
 (h : wpList P ops Q rest (a.put o.dst (goInt m)) (w.setRow g (cur.toList.take off ++ (cs ++ cur.toList.drop (off + cs.length))).toArray)) : wpList P ops Q (o :: rest) a w := by
 refine wpList_plain hgd fun K hK => ?_
 have hrun := run_copy_rowK (P := P) w dT sT o.type elem k g off dLen dCap m ad sLen sCap cur t cs hu hsz hg hm hn hsrc hfit h1
 unfold Oper.wp
 simp [execOp, ho, resolve, invoke, builtin, hd, hs, hrun, Result.andThen]
 exact hK _ _ h
theorem wpList_copyNil {w : World} {ops : Array Oper} {rest : List Oper} {o : Oper} {a : Act} {Q : Exit → Act → World → Prop} (hgd : o.guard = none) (d s : Operand) (dT sT : TypeId)
 (ho : o.op = .call { callee := .builtin .copy, args := #[d, s], argTypes := #[dT, sT] }) (elem k : TypeId) (hu : P.underlying dT = some (.slice elem)) (hsz : (P.info? elem).map (·.size) = some k)
 (da : Addr) (dLen dCap : Nat) (hd : a.eval d = .slice (some da) dLen dCap) (hs : a.eval s = .slice none 0 0)
 (h : wpList P ops Q rest (a.put o.dst (goInt 0)) w) : wpList P ops Q (o :: rest) a w := by
 refine wpList_plain hgd fun K hK => ?_
 have hrun := run_copy_nil P w dT sT o.type elem da dLen dCap hu (by rw [hsz]; rfl)
 unfold Oper.wp
 simp [execOp, ho, resolve, invoke, builtin, hd, hs, hrun, Result.andThen]
 exact hK _ _ h
theorem run_makeK (t e : TypeId) (i : TypeInfo) (z : Value) (ht : P.underlying t = some (.slice e)) (hi : P.info? e = some i) (hz : i.zero = some z)
 (kl kc : IntKind) (n c : Nat) (hnc : n ≤ c) (hbytes : i.bytes * c ≤ 281474976710656) (h63 : c ≤ 9223372036854775807) (w : World) :
 (Instr.makeSlice t (.int kl (n : Int)) (.int kc (c : Int))).run P w = .ok (.slice (some ⟨w.heap.size, 0, none⟩) n c) (w.alloc (.cells (madeCells z.cells (c * i.size)) e)) := by
 have hb : (i.bytes : Int) * (c : Int) ≤ 281474976710656 := by
  have h : ((i.bytes * c : Nat) : Int) ≤ 281474976710656 := by omega
  rwa [Int.natCast_mul] at h
 have hr := run_make (P := P) w t e i z ht hi hz kl kc n c (by omega) (by omega) hb (by omega)
 simp only [Int.toNat_natCast] at hr
 exact hr
theorem madeCells_size (z : Array Value) (n : Nat) : (madeCells z n).size = n := by simp [madeCells]
theorem owns_of_row {w : World} {B e k n cap g : Nat} {cur : Array Value} {xs : List Value} (hb : B ≤ g) (hg : w.heap[g]? = some (.cells cur e (0, 0))) (hn : n ≤ cap) (hc : cap ≤ maxLen) (hs : cur.size = cap * k) (hx : cur.toList.take (n * k) = xs) :
 w.ownsRow B e k (.slice (some ⟨g, 0, none⟩) n cap) n xs :=
 ⟨by rw [← hx, List.length_take, Array.length_toList, hs]; exact Nat.min_eq_left (Nat.mul_le_mul_right k hn), .inr ⟨g, cap, cur, rfl, hb, hg, hn, hc, hs, hx⟩⟩
theorem setRow_at {w : World} {g : Nat} {cur cs : Array Value} {t : TypeId} (hg : w.heap[g]? = some (.cells cur t (0, 0))) : (w.setRow g cs).heap[g]? = some (.cells cs t (0, 0)) := setRow_heap w g cur cs t _ hg
theorem setRow_below {B : Nat} {w0 w : World} {g : Nat} (hb : Below B w0 w) (hB : B ≤ g) (cs : Array Value) : Below B w0 (w.setRow g cs) := below_setRow hb hB cs
theorem grown_setRow (w : World) (g : Nat) (cs : Array Value) : w.grownBy (w.setRow g cs) (some g) :=
 ⟨rfl, rfl, rfl, by simp [World.setRow], fun k _ hk => setRow_other w g k cs (fun e => hk (by rw [e]))⟩
theorem wpList_copyHead {w : World} {ops : Array Oper} {rest : List Oper} {o : Oper} {a : Act} {Q : Exit → Act → World → Prop} (hgd : o.guard = none) (d s : Operand) (dT sT : TypeId)
 (ho : o.op = .call { callee := .builtin .copy, args := #[d, s], argTypes := #[dT, sT] }) (elem k : TypeId) (hu : P.underlying dT = some (.slice elem)) (hsz : (P.info? elem).map (·.size) = some k)
 (B g n cap : Nat) (ad : Option Addr) (sCap : Nat) (hd : a.eval d = .slice (some ⟨g, 0, none⟩) n cap) (hs : a.eval s = .slice ad n sCap)
 (cur : Array Value) (hg : w.heap[g]? = some (.cells cur elem (0, 0))) (hB : B ≤ g) (hnc : n ≤ cap) (hcap : cap ≤ maxLen) (hcur : cur.size = cap * k) (cs : List Value) (hn : cs.length = n * k) (hnil : ad = none → n = 0 ∧ sCap = 0)
 (hsrc : ∀ ad', ad = some ad' → ∀ j v, cs[j]? = some v → w.cell? (ad'.add j) = some v) (h1 : ∀ v ∈ cs, v.oneCell' = true)
 (h : ∀ W : World, W.ownsRow B elem k (.slice (some ⟨g, 0, none⟩) n cap) n cs → w.grownBy W (some g) → W.heap.size = w.heap.size → wpList P ops Q rest (a.put o.dst (.int .i64 (n : Int))) W) : wpList P ops Q (o :: rest) a w := by
 have hmul : n * k ≤ cap * k := Nat.mul_le_mul_right k hnc
 cases ad with
 | none =>
   obtain ⟨rfl, rfl⟩ := hnil rfl
   refine wpList_copyNil hgd d s dT sT ho elem k hu hsz ⟨g, 0, none⟩ 0 cap hd hs ?_
   have hc : cs = [] := by simpa using hn
   subst hc
   have := h w (owns_of_row hB hg (by omega) hcap hcur (by simp)) ⟨rfl, rfl, rfl, nl_ _, fun _ _ _ => rfl⟩ rfl
   simpa [goInt] using this
 | some ad =>
   refine wpList_copyK hgd d s dT sT ho elem k hu hsz g 0 n cap n ad n sCap hd hs cur elem hg cs (Nat.min_self n).symm (by rw [hn, Nat.mul_comm]) (hsrc ad rfl) (by omega) h1 ?_
   refine h _ (owns_of_row hB (setRow_at hg) hnc hcap ?_ ?_) (grown_setRow _ _ _) (by simp [World.setRow])
   · simp only [List.size_toArray, List.length_append, List.length_take, List.length_drop, Array.length_toList, hn, hcur]; omega
   · simp only [List.take_zero, List.nil_append]
     rw [← hn]; simp
end Go.Proofs.LF
namespace Go.Proofs.LF
open Go.RowKit
structure Keep (O : Nat → Prop) (A B : World) : Prop where
 os : B.os = A.os
 tape : B.tape = A.tape
 output : B.output = A.output
 size : A.heap.size ≤ B.heap.size
 block : ∀ b, b < A.heap.size → ¬ O b → B.heap[b]? = A.heap[b]?
theorem Keep.refl (O : Nat → Prop) (A : World) : Keep O A A := ⟨rfl, rfl, rfl, nl_ _, fun _ _ _ => rfl⟩
theorem Keep.trans {O : Nat → Prop} {A B C : World} (h : Keep O A B) (k : Keep O B C) : Keep O A C :=
 ⟨k.os.trans h.os, k.tape.trans h.tape, k.output.trans h.output, Nat.le_trans h.size k.size, fun b hb ho => (k.block b (Nat.lt_of_lt_of_le hb h.size) ho).trans (h.block b hb ho)⟩
theorem Keep.mono {O O' : Nat → Prop} {A B : World} (h : Keep O A B) (hs : ∀ b, b < A.heap.size → O b → O' b) : Keep O' A B :=
 ⟨h.os, h.tape, h.output, h.size, fun b hb ho => h.block b hb (fun h' => ho (hs b hb h'))⟩
theorem Keep.of_below {O : Nat → Prop} {A B : World} (h : Below A.heap.size A B) : Keep O A B := ⟨h.os, h.tape, h.output, h.size, fun b hb _ => h.block b hb⟩
theorem Keep.below {O : Nat → Prop} {n : Nat} {A B : World} (h : Keep O A B) (hn : n ≤ A.heap.size) (ho : ∀ b, b < n → ¬ O b) : Below n A B := ⟨h.os, h.tape, h.output, h.size, fun b hb => h.block b (by omega) (ho b hb)⟩
theorem Keep.agree {O S : Nat → Prop} {A B : World} (h : Keep O A B) (hs : ∀ b, S b → b < A.heap.size ∧ ¬ O b) : Agree S A B := fun b hb => h.block b (hs b hb).1 (hs b hb).2
theorem Keep.cell {O : Nat → Prop} {A B : World} (h : Keep O A B) {b o : Nat} {v : Value} (hb : b < A.heap.size) (ho : ¬ O b) (hc : A.cell? ⟨b, o, none⟩ = some v) : B.cell? ⟨b, o, none⟩ = some v := by
 rw [World.cell?_of_block (h.block b hb ho)]; exact hc
theorem Keep.putObj {O : Nat → Prop} {A : World} {l : Nat} {o : Obj} (hl : O l) : Keep O A (A.putObj l o) :=
 ⟨rfl, rfl, rfl, by simp, fun b _ ho => World.putObj_heap_other (fun e => ho (e ▸ hl))⟩
theorem Keep.setCell {O : Nat → Prop} {A : World} {p : Addr} {v : Value} (hl : O p.block) : Keep O A (A.setCell p v) :=
 ⟨rfl, rfl, rfl, by simp [World.setCell], fun b _ ho => Below.heap_setCell _ _ _ _ (fun e => ho (e ▸ hl))⟩
theorem Keep.grown {O : Nat → Prop} {A B : World} {row : Option Nat} (h : A.grownBy B row) (hr : ∀ b, row = some b → O b) : Keep O A B :=
 ⟨h.os, h.tape, h.output, h.size, fun b hb ho => h.block b hb (fun e => ho (hr b e.symm))⟩
def Dep {δ : Type} (n₀ : Nat) (I : List δ → (Nat → Prop) → World → Prop) : Prop :=
 ∀ pre O A B, I pre O A → B.os = A.os → B.tape = A.tape → B.output = A.output → A.heap.size ≤ B.heap.size → (∀ b, b < A.heap.size → (O b ∨ b < n₀) → B.heap[b]? = A.heap[b]?) → I pre O B
theorem Dep.keep {δ : Type} {n₀ : Nat} {I : List δ → (Nat → Prop) → World → Prop} (h : Dep n₀ I) {pre : List δ} {O X : Nat → Prop} {A B : World} (hi : I pre O A) (hk : Keep X A B) (hx : ∀ b, X b → ¬ O b ∧ n₀ ≤ b) : I pre O B :=
 h pre O A B hi hk.os hk.tape hk.output hk.size fun b hb ho => hk.block b hb (fun e => by have := hx b e; rcases ho with ho | ho; exact this.1 ho; omega)
variable {P : Program}
def SeqI {α δ : Type} (P : Program) (gf : Nat) (lb : Array Value) (dat : α → δ) (encs : α → Array Value) (E : (Nat → Prop) → World → α → Prop) (xs : List δ) (w : World) (T : Nat → Prop) : Prop :=
 ∀ (l : Nat) (J Jx : List δ → (Nat → Prop) → World → Prop) (O : Nat → Prop) (W : World),
  Below w.heap.size w W → (∀ b, T b → ¬ O b) → (∀ b, O b → b < W.heap.size) →
  (∀ pre O A B, J pre O A → Below A.heap.size A B → J pre O B) → (∀ pre O A B, Jx pre O A → Below A.heap.size A B → Jx pre O B) →
  (∀ m pre x O W1, J pre O W1 → pre ++ [dat x] <+: xs → E (fun b => b < W1.heap.size ∧ ¬ O b) W1 x →
    YieldAt Fence.wide m P l (encs x) W1 fun e W' =>
     (e = .returned (.bool true) ∧ ∃ O', J (pre ++ [dat x]) O' W' ∧ Keep O W1 W' ∧ (∀ b, O' b → O b ∨ W1.heap.size ≤ b) ∧ (∀ b, O' b → b < W'.heap.size)) ∨
     (e = .returned (.bool false) ∧ ∃ O', Jx (pre ++ [dat x]) O' W' ∧ Keep O W1 W')) →
  J [] O W →
  ∀ n, CallsIn Fence.wide n P gf (#[.func (.yield l) #[] #[]] ++ lb) W fun e W' => (∃ v, e = .returned v) ∧ ((∃ O', J xs O' W') ∨ (∃ pre O', pre <+: xs ∧ Jx pre O' W'))
def rgPost {δ : Type} (I : List δ → (Nat → Prop) → World → Prop) (Ix : Code → List δ → (Nat → Prop) → World → Prop) (xs : List δ) (O : Nat → Prop) (W : World) : Exit → Act → World → Prop
 | .normal, _, W' => ∃ O', I xs O' W' ∧ Keep O W W' ∧ (∀ b, O' b → O b ∨ W.heap.size ≤ b) ∧ (∀ b, O' b → b < W'.heap.size)
 | .ret, _, W' => ∃ O', Ix .ret xs O' W' ∧ Keep O W W' ∧ (∀ b, O' b → O b ∨ W.heap.size ≤ b)
 | _, _, _ => False
theorem range_law {α δ : Type} {g : Operand} {ps : Array Tmp} {assign body : Code} {Q : Exit → Act → World → Prop} {a : Act} {w : World} {n : Nat}
 {gf : Nat} {lb : Array Value} (hg : a.eval g = .func (.func gf) #[] lb) (eg : ∀ args w, (callFunc gf args).run P w = .ok (.enter gf args) w)
 {dat : α → δ} {encs : α → Array Value} {E : (Nat → Prop) → World → α → Prop} {xs : List δ} {T : Nat → Prop} (hseq : SeqI P gf lb dat encs E xs w T)
 (hE : ∀ {S w w' x}, E S w x → Agree S w w' → E S w' x) (hEw : ∀ {S S' w x}, E S w x → (∀ b, S b → S' b) → E S' w x) (hps : ∀ x, (encs x).size = ps.size)
 (I : List δ → (Nat → Prop) → World → Prop) (Ix : Code → List δ → (Nat → Prop) → World → Prop) (hI : Dep w.heap.size I) (hIx : ∀ c, Dep w.heap.size (Ix c))
 (O0 : Nat → Prop) (hO0 : ∀ b, O0 b → b < w.heap.size ∧ ¬ T b) (hT : ∀ b, T b → b < w.heap.size) (h0 : I [] O0 w)
 (A1 : α → Nat → Act → World → Prop) (hA1 : ∀ x lo a₁ A B, A1 x lo a₁ A → (∀ b, lo ≤ b → B.heap[b]? = A.heap[b]?) → A1 x lo a₁ B)
 (hassign : ∀ (l m : Nat) (x : α) (S : Nat → Prop) (W : World) (K : Act → World → Prop), E S W x → (∀ a₁ W1, Below W.heap.size W W1 → A1 x W.heap.size a₁ W1 → K a₁ W1) →
   assign.wpIn (Fence.wide.inRound l) m P (Exit.then K (fun _ _ _ => False)) { tmps := (ps.zip (encs x)).foldl (fun t (p, v) => t.setIfInBounds p v) a.tmps, defers := [] } W)
 (hbody : ∀ (l m : Nat) (pre : List δ) (x : α) (O : Nat → Prop) (lo : Nat) (a₁ : Act) (W : World), pre ++ [dat x] <+: xs → I pre O W → w.heap.size ≤ lo → lo ≤ W.heap.size → (∀ b, O b → b < lo) → E (fun b => b < lo ∧ ¬ O b) W x → A1 x lo a₁ W →
   body.wpIn (Fence.wide.inRound l) m P (rgPost I Ix (pre ++ [dat x]) O W) a₁ W)
 (hdone : ∀ (D : Nat) (O : Nat → Prop) (W : World), I xs O W → w.heap.size ≤ D → W.heap[D]? = some (.deferred (some [])) → Q .normal { a with defers := { target := .collected D, args := #[] } :: a.defers } W)
 (hstop : ∀ (D : Nat) (c : Code) (pre : List δ) (O : Nat → Prop) (W : World), pre <+: xs → Ix c pre O W → w.heap.size ≤ D → W.heap[D]? = some (.deferred (some [])) → c.wpIn Fence.wide n P Q { a with defers := { target := .collected D, args := #[] } :: a.defers } W) :
 (Code.rangeFunc g ps assign body).wpIn Fence.wide n P Q a w := by
 refine wpIn_rangeFunc ?_
 intro fn hfn
 obtain ⟨rec, hrec⟩ : ∃ rec : LoopState → Option Code → Loop, rec = fun st pe => { state := st, pending := pe, fn, tmps := a.tmps, params := ps, assign, body, defers := w.heap.size } := ⟨_, rfl⟩
 obtain ⟨W1, hW1⟩ : ∃ W1, (w.alloc (.deferred (some []))).alloc (.loop (rec .ready none)) = W1 := ⟨_, rfl⟩
 have hL1 : W1.heap[w.heap.size + 1]? = some (.loop (rec .ready none)) := by
  rw [← hW1]; have := World.alloc_heap_new (w.alloc (.deferred (some []))) (.loop (rec .ready none)); rwa [World.size_alloc] at this
 have hK1 : W1.heap[w.heap.size]? = some (.deferred (some [])) := by
  rw [← hW1]; exact (Below.heap_alloc _ _ _ (by simp)).trans (World.alloc_heap_new w _)
 have hb1 : Below w.heap.size w W1 := by
  rw [← hW1]; exact (((Below.refl _ w).alloc (nl_ _) _).alloc (by simp) _)
 have hI1 : I [] O0 W1 := hI.keep h0 (Keep.of_below (O := fun _ => False) hb1) (fun _ h => h.elim)
 refine ⟨w.heap.size + 1, [{ target := .collected w.heap.size, args := #[] }], W1, { target := .fn (.func gf) lb, args := #[.func (.yield (w.heap.size + 1)) #[] #[]] }, W1, gf,
  #[.func (.yield (w.heap.size + 1)) #[] #[]] ++ lb, W1, ?_, ?_, ?_, ?_, fun h => (by cases h), ?_⟩
 · rw [← hW1, hrec]; exact run_enterLoop_outer _ _ _ _ _
 · simp only [resolve, hg]
   simp [go_sem]
 · intro f' _; trivial
 · simp [invoke, go_sem, eg]
 · obtain ⟨Bk, hBk⟩ : ∃ Bk : Nat → Prop, Bk = fun b => b = w.heap.size ∨ b = w.heap.size + 1 := ⟨_, rfl⟩
   have hBl : Bk (w.heap.size + 1) := by rw [hBk]; exact .inr rfl
   have hBge : ∀ b, Bk b → w.heap.size ≤ b ∧ b ≤ w.heap.size + 1 := by rw [hBk]; intro b hb; rcases hb with rfl | rfl <;> omega
   refine (hseq (w.heap.size + 1)
    (fun pre O W => ∃ O1, O = (fun b => O1 b ∨ Bk b) ∧ (∀ b, O1 b → ¬ Bk b) ∧ (∀ b, O1 b → b < W.heap.size) ∧ I pre O1 W ∧ W.heap[w.heap.size + 1]? = some (.loop (rec .ready none)) ∧ W.heap[w.heap.size]? = some (.deferred (some [])))
    (fun pre O W => ∃ O1 c, O = (fun b => O1 b ∨ Bk b) ∧ (∀ b, O1 b → ¬ Bk b) ∧ Ix c pre O1 W ∧ W.heap[w.heap.size + 1]? = some (.loop (rec .done (some c))) ∧ W.heap[w.heap.size]? = some (.deferred (some [])))
    (fun b => O0 b ∨ Bk b) W1 hb1
    (fun b ht ho => by rcases ho with ho | ho; exact (hO0 b ho).2 ht; have := hBge b ho; have := hT b ht; omega)
    (fun b ho => by have := (Array.getElem?_eq_some_iff.1 hL1).1; rcases ho with ho | ho; have := (hO0 b ho).1; omega; have := hBge b ho; omega) ?_ ?_ ?_
    ⟨O0, rfl, fun b hb hk => by have := hBge b hk; have := (hO0 b hb).1; omega, fun b hb => by have := (hO0 b hb).1; have := hb1.size; omega, hI1, hL1, hK1⟩ (n - 1)).mono ?_
   · rintro pre O A B ⟨O1, rfl, h2, h3, h4, h5, h6⟩ hb
     exact ⟨O1, rfl, h2, fun b hb' => by have := h3 b hb'; have := hb.size; omega, hI.keep h4 (Keep.of_below (O := fun _ => False) hb) (fun _ h => h.elim), (hb.block _ (Array.getElem?_eq_some_iff.1 h5).1).trans h5, (hb.block _ (Array.getElem?_eq_some_iff.1 h6).1).trans h6⟩
   · rintro pre O A B ⟨O1, c, rfl, h2, h4, h5, h6⟩ hb
     exact ⟨O1, c, rfl, h2, (hIx c).keep h4 (Keep.of_below (O := fun _ => False) hb) (fun _ h => h.elim), (hb.block _ (Array.getElem?_eq_some_iff.1 h5).1).trans h5, (hb.block _ (Array.getElem?_eq_some_iff.1 h6).1).trans h6⟩
   ·
    rintro m pre x O W ⟨O1, rfl, ho, hos, hi, hl, hk⟩ hpx hx
    have hy := run_yield (P := P) (args := encs x) hl (by rw [hrec]; exact hps x)
    rw [hrec] at hy
    refine ⟨fn, _, assign, body, hy, roundIn_of_wpIn (F := Fence.wide) trivial (hassign _ m x _ W _ hx fun a₁ W2 hb2 ha1 => ?_)⟩
    have hlt : w.heap.size + 1 < W.heap.size := (Array.getElem?_eq_some_iff.1 hl).1
    have hl2 : W2.heap[w.heap.size + 1]? = some (.loop (rec .ready none)) := (hb2.block _ hlt).trans hl
    have hk2 : W2.heap[w.heap.size]? = some (.deferred (some [])) := (hb2.block _ (by omega)).trans hk
    refine ⟨_, run_beginRound hl2 (by rw [hrec]), ?_⟩
    obtain ⟨W3, hW3⟩ : ∃ W3, W2.putObj (w.heap.size + 1) (.loop { rec .ready none with state := .busy }) = W3 := ⟨_, rfl⟩
    rw [hW3]
    have hz2 := hb2.size
    have hkp : Keep Bk W2 W3 := by rw [← hW3]; exact Keep.putObj hBl
    have hl3 : W3.heap[w.heap.size + 1]? = some (.loop { rec .ready none with state := .busy }) := by rw [← hW3]; exact World.putObj_heap_same (by omega)
    have hk3 : W3.heap[w.heap.size]? = some (.deferred (some [])) := by rw [← hW3]; exact (World.putObj_heap_other (by omega)).trans hk2
    have hx' : E (fun b => b < W.heap.size ∧ ¬ (O1 b ∨ Bk b)) W3 x := hE hx fun b hb => (hkp.block b (by omega) (fun h => hb.2 (.inr h))).trans (hb2.block b hb.1)
    have hi3 : I pre O1 W3 := hI.keep (hI.keep hi (Keep.of_below (O := fun _ => False) hb2) (fun _ h => h.elim)) hkp (fun b hb => ⟨fun h => ho b h hb, (hBge b hb).1⟩)
    have hr3 : W3.heap.size = W2.heap.size := by rw [← hW3]; simp
    refine wpIn_mono (hbody _ m pre x O1 W.heap.size a₁ W3 hpx hi3 (by omega) (by omega) hos ?_ (hA1 _ _ _ _ _ ha1 fun b hb => ?_)) ?_
    · exact hEw hx' fun b hb => ⟨hb.1, fun h => hb.2 (.inl h)⟩
    · rw [← hW3]; exact World.putObj_heap_other (by omega)
    · have fin : ∀ (jump : Option Code) (O' : Nat → Prop) (W4 : World), Keep O1 W3 W4 → (∀ b, O' b → O1 b ∨ W3.heap.size ≤ b) →
       (Instr.endRound (w.heap.size + 1) jump).run P W4 = .ok (.bool jump.isNone) (W4.putObj (w.heap.size + 1) (.loop (rec (if jump.isNone then .ready else .done) jump))) ∧
       (W4.putObj (w.heap.size + 1) (.loop (rec (if jump.isNone then .ready else .done) jump))).heap[w.heap.size + 1]? = some (.loop (rec (if jump.isNone then .ready else .done) jump)) ∧
       (W4.putObj (w.heap.size + 1) (.loop (rec (if jump.isNone then .ready else .done) jump))).heap[w.heap.size]? = some (.deferred (some [])) ∧
       (∀ b, O' b → ¬ Bk b) := fun jump O' W4 hkk hoo => by
       have hz := hkk.size
       have hl4 := (hkk.block _ (by omega) (fun h => ho _ h hBl)).trans hl3
       have := run_endRound (P := P) jump hl4
       rw [hrec] at this ⊢
       refine ⟨this, World.putObj_heap_same (by omega), (World.putObj_heap_other (by omega)).trans ((hkk.block _ (by omega) (fun h => ho _ h (by rw [hBk]; exact .inl rfl))).trans hk3), fun b hb hb' => ?_⟩
       have h1 := hBge b hb'
       rcases hoo b hb with h | h
       · exact ho b h hb'
       · omega
      rintro e a3 W4 hp
      cases e with
      | normal =>
        obtain ⟨O', hi4, hkk, hoo, hoz⟩ := hp
        obtain ⟨hr, e1, e2, e3⟩ := fin none O' W4 hkk hoo
        have hkp2 : Keep Bk W4 (W4.putObj (w.heap.size + 1) (.loop (rec .ready none))) := Keep.putObj hBl
        refine ⟨_, _, hr, .inl ⟨rfl, _, ⟨O', rfl, e3, ?_, hI.keep hi4 hkp2 (fun b hb => ⟨fun h => e3 b h hb, (hBge b hb).1⟩), e1, e2⟩, ?_, ?_, ?_⟩⟩
        · intro b hb; have := hoz b hb; simpa using this
        · refine ((Keep.of_below (O := fun b => O1 b ∨ Bk b) hb2).trans (hkp.mono fun b _ h => .inr h)).trans ((hkk.mono fun b _ h => .inl h).trans (hkp2.mono fun b _ h => .inr h))
        · intro b hb
          rcases hb with hb | hb
          · rcases hoo b hb with h | h
            · exact .inl (.inl h)
            · exact .inr (by omega)
          · exact .inl (.inr hb)
        · intro b hb
          have hz := hkk.size
          rcases hb with hb | hb
          · have := hoz b hb; simpa using this
          · have := hBge b hb; simp; omega
      | ret =>
        obtain ⟨O', hi4, hkk, hoo⟩ := hp
        obtain ⟨hr, e1, e2, e3⟩ := fin (some .ret) O' W4 hkk hoo
        have hkp2 : Keep Bk W4 (W4.putObj (w.heap.size + 1) (.loop (rec .done (some .ret)))) := Keep.putObj hBl
        exact ⟨_, _, hr, .inr ⟨rfl, _, ⟨O', .ret, rfl, e3, (hIx _).keep hi4 hkp2 (fun b hb => ⟨fun h => e3 b h hb, (hBge b hb).1⟩), e1, e2⟩, ((Keep.of_below (O := fun b => O1 b ∨ Bk b) hb2).trans (hkp.mono fun b _ h => .inr h)).trans ((hkk.mono fun b _ h => .inl h).trans (hkp2.mono fun b _ h => .inr h))⟩⟩
      | exit id => exact hp.elim
      | goto t => exact hp.elim
      | panic ch => exact hp.elim
      | outgrown => exact hp.elim
   ·
    rintro e W2 ⟨⟨v, rfl⟩, (⟨O', O1, rfl, ho, hos, hi, hl, hk⟩ | ⟨pre, O', hpre, O1, c, rfl, ho, hi, hl, hk⟩)⟩
    · have hlt : w.heap.size + 1 < W2.heap.size := (Array.getElem?_eq_some_iff.1 hl).1
      have hkp2 : ∀ o, Keep Bk W2 (W2.putObj (w.heap.size + 1) o) := fun o => Keep.putObj hBl
      exact ⟨none, _, by have := run_endLoop (P := P) hl (by rw [hrec]; simp); rw [hrec] at this; exact this, hdone _ O1 _ (hI.keep hi (hkp2 _) (fun b hb => ⟨fun h => ho b h hb, (hBge b hb).1⟩)) (nl_ _) ((World.putObj_heap_other (by omega)).trans hk)⟩
    · have hkp2 : ∀ o, Keep Bk W2 (W2.putObj (w.heap.size + 1) o) := fun o => Keep.putObj hBl
      exact ⟨some c, _, by have := run_endLoop (P := P) hl (by rw [hrec]; simp); rw [hrec] at this; exact this, hstop _ c pre O1 _ hpre ((hIx c).keep hi (hkp2 _) (fun b hb => ⟨fun h => ho b h hb, (hBge b hb).1⟩)) (nl_ _) ((World.putObj_heap_other (by omega)).trans hk)⟩
end Go.Proofs.LF
namespace Go.Proofs.LF
open Go.RowKit
structure Rd (α : Type) (k : Nat) where
 R : (Nat → Prop) → World → α → List Value → Prop
 len : ∀ {S w x cs}, R S w x cs → cs.length = k
 one : ∀ {S w x cs}, R S w x cs → ∀ u ∈ cs, u.oneCell' = true
 agree : ∀ {S w w' x cs}, R S w x cs → Agree S w w' → R S w' x cs
 wide : ∀ {S S' w x cs}, R S w x cs → (∀ b, S b → S' b) → R S' w x cs
variable {α : Type} {k : Nat} (r : Rd α k)
def LCs (S : Nat → Prop) (w : World) : List α → List Value → Prop
 | [], cs => cs = []
 | x :: xs, cs => ∃ c ds, cs = c ++ ds ∧ r.R S w x c ∧ LCs S w xs ds
def LSl (S : Nat → Prop) (w : World) (v : Value) (xs : List α) : Prop := ∃ cs, SlC S w k v xs.length cs ∧ LCs r S w xs cs
variable {r}
theorem LCs.agree {S : Nat → Prop} {w w' : World} (ha : Agree S w w') : ∀ {xs : List α} {cs : List Value}, LCs r S w xs cs → LCs r S w' xs cs
 | [], _, h => h
 | _ :: _, _, ⟨c, ds, h1, h2, h3⟩ => ⟨c, ds, h1, r.agree h2 ha, h3.agree ha⟩
theorem LCs.wide {S S' : Nat → Prop} {w : World} (hs : ∀ b, S b → S' b) : ∀ {xs : List α} {cs : List Value}, LCs r S w xs cs → LCs r S' w xs cs
 | [], _, h => h
 | _ :: _, _, ⟨c, ds, h1, h2, h3⟩ => ⟨c, ds, h1, r.wide h2 hs, h3.wide hs⟩
theorem LSl.agree {S : Nat → Prop} {w w' : World} {v : Value} {xs : List α} (h : LSl r S w v xs) (ha : Agree S w w') : LSl r S w' v xs := let ⟨cs, h1, h2⟩ := h; ⟨cs, h1.agree ha, h2.agree ha⟩
theorem LSl.wide {S S' : Nat → Prop} {w : World} {v : Value} {xs : List α} (h : LSl r S w v xs) (hs : ∀ b, S b → S' b) : LSl r S' w v xs := let ⟨cs, h1, h2⟩ := h; ⟨cs, h1.wide hs, h2.wide hs⟩
theorem Stable.lcs (xs : List α) (cs : List Value) : Stable (fun S w => LCs r S w xs cs) := ⟨fun h ha => h.agree ha, fun h hw => h.wide hw⟩
theorem Stable.lsl (v : Value) (xs : List α) : Stable (fun S w => LSl r S w v xs) := ⟨fun h ha => h.agree ha, fun h hw => h.wide hw⟩
theorem LCs.length {S : Nat → Prop} {w : World} : ∀ {xs : List α} {cs : List Value}, LCs r S w xs cs → cs.length = xs.length * k
 | [], _, h => by rw [show _ = [] from h]; simp
 | _ :: xs, _, ⟨c, ds, h1, h2, h3⟩ => by rw [h1, List.length_append, r.len h2, h3.length, List.length_cons, Nat.add_mul]; omega
theorem LCs.one {S : Nat → Prop} {w : World} : ∀ {xs : List α} {cs : List Value}, LCs r S w xs cs → ∀ u ∈ cs, u.oneCell' = true
 | [], _, h => by rw [show _ = [] from h]; simp
 | _ :: xs, _, ⟨c, ds, h1, h2, h3⟩ => by
   intro u hu
   rw [h1, List.mem_append] at hu
   rcases hu with hu | hu
   · exact r.one h2 u hu
   · exact h3.one u hu
theorem LCs.app {S : Nat → Prop} {w : World} : ∀ {xs ys : List α} {cs ds : List Value}, LCs r S w xs cs → LCs r S w ys ds → LCs r S w (xs ++ ys) (cs ++ ds)
 | [], _, _, _, h, h' => by rw [show _ = [] from h]; exact h'
 | _ :: _, _, _, _, ⟨c, es, h1, h2, h3⟩, h' => ⟨c, _, by rw [h1, List.append_assoc], h2, h3.app h'⟩
theorem LCs.single {S : Nat → Prop} {w : World} {x : α} {c : List Value} (h : r.R S w x c) : LCs r S w [x] c := ⟨c, [], by simp, h, rfl⟩
theorem LCs.drop {S : Nat → Prop} {w : World} : ∀ {i : Nat} {xs : List α} {cs : List Value}, LCs r S w xs cs → LCs r S w (xs.drop i) (cs.drop (i * k))
 | 0, _, _, h => by simpa using h
 | i + 1, [], _, h => by rw [show _ = [] from h]; simp [LCs]
 | i + 1, _ :: xs, _, ⟨c, ds, h1, h2, h3⟩ => by
   rw [h1, show (i + 1) * k = c.length + i * k from by rw [r.len h2, Nat.add_mul]; omega, List.drop_length_add_append]
   exact h3.drop (i := i)
theorem LCs.take {S : Nat → Prop} {w : World} : ∀ {i : Nat} {xs : List α} {cs : List Value}, LCs r S w xs cs → LCs r S w (xs.take i) (cs.take (i * k))
 | 0, _, _, h => by simp [LCs]
 | i + 1, [], _, h => by rw [show _ = [] from h]; simp [LCs]
 | i + 1, _ :: xs, _, ⟨c, ds, h1, h2, h3⟩ => by
   rw [h1, show (i + 1) * k = c.length + i * k from by rw [r.len h2, Nat.add_mul]; omega, List.take_length_add_append]
   exact ⟨c, _, rfl, h2, h3.take (i := i)⟩
theorem LSl.shape {S : Nat → Prop} {w : World} {v : Value} {xs : List α} (h : LSl r S w v xs) : ∃ a c, v = .slice a xs.length c ∧ xs.length ≤ c ∧ c ≤ maxLen := let ⟨_, h1, _⟩ := h; h1.shape
theorem LSl.at {S : Nat → Prop} {w : World} {v : Value} {xs : List α} (h : LSl r S w v xs) : ∃ a c, v = .slice a xs.length c ∧ xs.length ≤ c ∧ c ≤ maxLen ∧ ∀ i (hi : i < xs.length), ∃ g o cs, a = some ⟨g, o, none⟩ ∧ S g ∧ r.R S w xs[i] cs ∧
 ∀ j u, cs[j]? = some u → w.cell? ⟨g, o + (i * k + j), none⟩ = some u := by
 obtain ⟨ds, ⟨hl, a, c, rfl, hc, hm, _, hh⟩, hf⟩ := h
 refine ⟨a, c, rfl, hc, hm, fun i hi => ?_⟩
 rcases hh with h0 | ⟨g, o, rfl, hg1, hcell⟩
 · omega
 · have hf' := hf.drop (i := i)
   rw [List.drop_eq_getElem_cons hi] at hf'
   obtain ⟨cs, es, he, hr, _⟩ := hf'
   refine ⟨g, o, cs, rfl, hg1, hr, fun j u hj => hcell (i * k + j) u ?_⟩
   rw [← List.getElem?_drop, he, List.getElem?_append_left (List.getElem?_eq_some_iff.1 hj).1]
   exact hj
def Sx (S : Nat → Prop) (lo hi : Nat) (v : Value) (b : Nat) : Prop := S b ∨ Rx lo hi v b
structure Fl where
 p : List Ky
 l : List Int
 deriving DecidableEq
def rdFl : Rd Fl 2 where
 R S w x cs := ∃ ap cp an cn, cs = [.slice ap x.p.length cp, .slice an x.l.length cn] ∧ Pth S w (.slice ap x.p.length cp) x.p ∧ Ints S w (.slice an x.l.length cn) x.l
 len := by rintro S w x cs ⟨_, _, _, _, rfl, _⟩; rfl
 one := by rintro S w x cs ⟨_, _, _, _, rfl, _⟩ u hu; simp at hu; rcases hu with rfl | rfl <;> rfl
 agree := by rintro S w w' x cs ⟨a, b, c, d, rfl, h1, h2⟩ ha; exact ⟨a, b, c, d, rfl, h1.agree ha, h2.agree ha⟩
 wide := by rintro S w w' x cs ⟨a, b, c, d, rfl, h1, h2⟩ ha; exact ⟨a, b, c, d, rfl, h1.wide ha, h2.wide ha⟩
def rdPa : Rd (List Ky) 1 where
 R S w x cs := ∃ ap cp, cs = [.slice ap x.length cp] ∧ Pth S w (.slice ap x.length cp) x
 len := by rintro S w x cs ⟨_, _, rfl, _⟩; rfl
 one := by rintro S w x cs ⟨_, _, rfl, _⟩ u hu; simp at hu; rcases hu with rfl; rfl
 agree := by rintro S w w' x cs ⟨a, b, rfl, h1⟩ ha; exact ⟨a, b, rfl, h1.agree ha⟩
 wide := by rintro S w w' x cs ⟨a, b, rfl, h1⟩ ha; exact ⟨a, b, rfl, h1.wide ha⟩
structure Ch where
 p : List Ky
 had : Bool
 has : Bool
 old : List Int
 new : List Int
 deriving DecidableEq
def rdCh : Rd Ch 5 where
 R S w x cs := ∃ ap cp ao co an cn, cs = [.slice ap x.p.length cp, .bool x.had, .bool x.has, .slice ao x.old.length co, .slice an x.new.length cn] ∧ Pth S w (.slice ap x.p.length cp) x.p ∧ Ints S w (.slice ao x.old.length co) x.old ∧ Ints S w (.slice an x.new.length cn) x.new
 len := by rintro S w x cs ⟨_, _, _, _, _, _, rfl, _⟩; rfl
 one := by rintro S w x cs ⟨_, _, _, _, _, _, rfl, _⟩ u hu; simp at hu; rcases hu with rfl | rfl | rfl | rfl | rfl <;> rfl
 agree := by rintro S w w' x cs ⟨a, b, c, d, e, f, rfl, h1, h2, h3⟩ ha; exact ⟨a, b, c, d, e, f, rfl, h1.agree ha, h2.agree ha, h3.agree ha⟩
 wide := by rintro S w w' x cs ⟨a, b, c, d, e, f, rfl, h1, h2, h3⟩ ha; exact ⟨a, b, c, d, e, f, rfl, h1.wide ha, h2.wide ha, h3.wide ha⟩
abbrev FlSl := LSl rdFl
abbrev PaSl := LSl rdPa
abbrev ChSl := LSl rdCh
def cmpP : List Ky → List Ky → Int
 | [], [] => 0
 | [], _ :: _ => -1
 | _ :: _, [] => 1
 | a :: x, b :: y => if byK a b ≠ 0 then byK a b else cmpP x y
end Go.Proofs.LF
namespace Go.Proofs.LF
def wordsL (n : List UInt8) (l : List Int) : List (List UInt8) := n :: l.map Lib.itoa
def lineB (x : NdD) : List UInt8 := List.replicate x.up.length 32 ++ (Lib.join (wordsL x.n x.l) [32] ++ [10])
def txtL (xs : List NdD) : List UInt8 := (xs.map lineB).flatten
theorem txtL_one (xs : List NdD) (x : NdD) : txtL (xs ++ [x]) = txtL xs ++ lineB x := by simp [txtL]
def OkN (x : NdD) : Prop := badNm x.n = false ∧ x.l.length ≤ 4 ∧ badNs x.l = false
theorem ordG_ok {bad : Ky → Ky → Bool} : ∀ (y : Fo) (d : Int) (p : Option Ky) (up : List Ky), ordG bad d p y = 0 → ∀ x ∈ nodesL up y, OkN x
 | .nil, _, _, _, _, x, hx => by simp [nodesL] at hx
 | .cons n l s r, d, p, up, h, x, hx => by
   simp only [ordG] at h
   have a1 : ¬ (3 < d) := fun e => by rw [if_pos e] at h; omega
   rw [if_neg a1] at h
   have a2 : badNm n ≠ true := fun e => by rw [if_pos e] at h; omega
   rw [if_neg a2] at h
   have a3 : ¬ (4 < (l.length : Int)) := fun e => by rw [if_pos e] at h; omega
   rw [if_neg a3] at h
   have a4 : badNs l ≠ true := fun e => by rw [if_pos e] at h; omega
   rw [if_neg a4] at h
   have h : (if ordG bad (d + 1) none s ≠ 0 then ordG bad (d + 1) none s else ordG bad d (some (kyOf n l)) r) = 0 := by
    cases p with
    | none => dsimp only at h; rwa [if_neg (by simp)] at h
    | some q =>
      dsimp only at h
      have a5 : ¬ (bad q (kyOf n l) = true) := fun e => by rw [if_pos e] at h; omega
      rwa [if_neg a5] at h
   have a6 : ¬ (ordG bad (d + 1) none s ≠ 0) := fun e => by rw [if_pos e] at h; exact e h
   rw [if_neg a6] at h
   simp only [ne_eq, Decidable.not_not] at a6
   simp only [nodesL, List.mem_cons, List.mem_append] at hx
   rcases hx with rfl | hx | hx
   · exact ⟨by simpa using a2, by simp only; omega, by simpa using a4⟩
   · exact ordG_ok s _ _ _ a6 x hx
   · exact ordG_ok r _ _ _ h x hx
theorem badNs_mem {l : List Int} (h : badNs l = false) : ∀ x ∈ l, 0 ≤ x ∧ x ≤ 9999 := by
 intro x hx
 simp only [badNs, List.any_eq_false, offB, Bool.or_eq_true, decide_eq_true_eq, not_or] at h
 have := h x hx
 omega
theorem badNm_len {s : List UInt8} (h : badNm s = false) : 1 ≤ s.length ∧ s.length ≤ 8 := by
 simp only [badNm, Bool.or_eq_false_iff, decide_eq_false_iff_not] at h
 omega
theorem dig_len : ∀ (k u : Nat), u < 10 ^ (k + 1) → (Lib.decDigits u).length ≤ k + 1
 | 0, u, h => by rw [Lib.decDigits, dif_pos (by simpa using h)]; simp
 | k + 1, u, h => by
   rw [Lib.decDigits]
   split
   · simp
   · have := dig_len k (u / 10) (by rw [Nat.div_lt_iff_lt_mul (by omega)]; rw [Nat.pow_succ] at h; omega)
     simp; omega
theorem itoa_len {i : Int} (h : 0 ≤ i) (h2 : i ≤ 9999) : (Lib.itoa i).length ≤ 4 := by
 unfold Lib.itoa
 rw [if_neg (by omega)]
 exact dig_len 3 _ (by simp; omega)
theorem join_words (n : List UInt8) (l : List Int) : Lib.join (wordsL n l) [32] = n ++ (l.map fun i => 32 :: Lib.itoa i).flatten := by
 rw [wordsL, Lib.join_cons, Lib.joinTail, List.map_map]
 rfl
theorem flat_len {l : List Int} : (∀ x ∈ l, 0 ≤ x ∧ x ≤ 9999) → (l.map fun i => 32 :: Lib.itoa i).flatten.length ≤ 5 * l.length := by
 induction l with
 | nil => intro _; simp
 | cons x l ih =>
   intro h
   have h1 := itoa_len (h x (by simp)).1 (h x (by simp)).2
   have h2 := ih fun z hz => h z (by simp [hz])
   simp only [List.map_cons, List.flatten_cons, List.length_append, List.length_cons]
   omega
theorem line_len {x : NdD} (h : OkN x) (hu : x.up.length ≤ 900) : (lineB x).length ≤ 930 := by
 have h1 := badNm_len h.1
 have h2 := flat_len (badNs_mem h.2.2)
 have h3 := h.2.1
 simp only [lineB, join_words, List.length_append, List.length_replicate, List.length_singleton]
 omega
theorem nodesL_up : ∀ (y : Fo) (up : List Ky), ∀ x ∈ nodesL up y, x.up.length ≤ up.length + y.cnt
 | .nil, _, x, hx => by simp [nodesL] at hx
 | .cons n l s r, up, x, hx => by
   simp only [nodesL, List.mem_cons, List.mem_append] at hx
   rcases hx with rfl | hx | hx
   · simp only; omega
   · have := nodesL_up s _ x hx; simp [Fo.cnt] at *; omega
   · have := nodesL_up r _ x hx; simp [Fo.cnt] at *; omega
theorem txt_len : ∀ (xs : List NdD), (∀ x ∈ xs, OkN x ∧ x.up.length ≤ 900) → (txtL xs).length ≤ 930 * xs.length
 | [], _ => by simp [txtL]
 | x :: xs, h => by
   have h1 := line_len (h x (by simp)).1 (h x (by simp)).2
   have h2 := txt_len xs fun z hz => h z (by simp [hz])
   have : txtL (x :: xs) = lineB x ++ txtL xs := by simp [txtL]
   rw [this, List.length_append, List.length_cons]; omega
end Go.Proofs.LF
namespace Go.Proofs.LF
open Go.RowKit
variable {P : Program}
def SetM (P : Program) (k e : TypeId) (b n : Nat) (l : List (List UInt8)) (w : World) : Prop :=
 ∃ D : DataW Unit, w.ownsMap P k (plainElem P e) b n D ∧ ∀ s : List UInt8, D.atKey (.string s) (.lit (.bool false)) = .lit (.bool (decide (s ∈ l)))
theorem SetM.made (k e : TypeId) (w : World) : SetM P k e w.heap.size 0 [] (w.alloc (.map #[] 0)) :=
 ⟨_, World.ownsMap_made _ _ _ _, fun s => by simp [DataW.atKey]⟩
theorem SetM.kept {k e : TypeId} {b n : Nat} {l : List (List UInt8)} {w w' : World} (h : SetM P k e b n l w) (hb : w'.heap[b]? = w.heap[b]?) : SetM P k e b n l w' := by
 obtain ⟨D, ⟨es, clock, h1, h2⟩, h3⟩ := h
 exact ⟨D, ⟨es, clock, hb.trans h1, h2⟩, h3⟩
theorem SetM.lt {k e : TypeId} {b n : Nat} {l : List (List UInt8)} {w : World} (h : SetM P k e b n l w) : b < w.heap.size := let ⟨_, h1, _⟩ := h; h1.lt
theorem keyS {k : TypeId} (hk : P.underlying k = some .string) (s : List UInt8) (hs : s.length ≤ maxLen) : keyOf P k (.string (bs s)) = some (.string s) := by
 have := WideMaps.keyOf_string_mk hk (s := bs s) (by rw [bs_size]; exact hs)
 rwa [bs_data] at this
theorem SetM.look {t k e : TypeId} {b n : Nat} {l : List (List UInt8)} {w : World} (h : SetM P k e b n l w) (ht : P.underlying t = some (.map k e)) (hk : P.underlying k = some .string) (he : P.underlying e = some .bool) (hz : (zeroValue e).run P w = .ok (.bool false) w)
 (s : List UInt8) (hs : s.length ≤ maxLen) : (Instr.lookup t (.map (some b)) (.string (bs s)) false).run P w = .ok (.bool (decide (s ∈ l))) w := by
 obtain ⟨D, h1, h2⟩ := h
 obtain ⟨v, ps, hrun, hv⟩ := h1.lookup (Maps.string_keyed hk) ht hz (plainElem_bool he false) (keyS hk s hs)
 rw [h2 s] at hv
 unfold plainElem at hv
 rw [he] at hv
 cases v <;> simp at hv
 rw [hrun, hv.1]
theorem SetM.put {t k e : TypeId} {b n : Nat} {l : List (List UInt8)} {w : World} (h : SetM P k e b n l w) (ht : P.underlying t = some (.map k e)) (hk : P.underlying k = some .string) (he : P.underlying e = some .bool)
 (s : List UInt8) (hs : s.length ≤ maxLen) (hn : n < maxLen) : ∃ w', (Instr.mapUpdate t (.map (some b)) (.string (bs s)) (.bool true)).run P w = .ok () w' ∧ SetM P k e b (n + 1) (s :: l) w' ∧ w.grownBy w' (some b) := by
 obtain ⟨D, h1, h2⟩ := h
 obtain ⟨w', hrun, h3, h4⟩ := h1.update (Maps.string_keyed hk) ht hn (keyS hk s hs) (plainElem_bool he true)
 refine ⟨w', hrun, ⟨_, h3, fun s' => ?_⟩, h4⟩
 by_cases hss : s' = s
 · subst hss
   rw [Maps.atKey_put_same h1.isMap (by trivial)]
   simp
 · rw [Maps.atKey_put_other (by simpa using hss), h2 s']
   simp [hss]
theorem wpList_setLook {w : World} {ops : Array Oper} {rest : List Oper} {o : Oper} {a : Act} {Q : Exit → Act → World → Prop}
 (hg : o.guard = none) (m x : Operand) (t : TypeId) (hop : o.op = Op.lookup t m x false)
 (k e : TypeId) (ht : P.underlying t = some (.map k e)) (hk : P.underlying k = some .string) (he : P.underlying e = some .bool) (hz : (zeroValue e).run P w = .ok (.bool false) w) (b n : Nat) (l : List (List UInt8))
 (hm : a.eval m = .map (some b)) (h : SetM P k e b n l w) (s : List UInt8) (hs : s.length ≤ maxLen) (hx : a.eval x = .string (bs s))
 (hK : wpList P ops Q rest (a.put o.dst (.bool (decide (s ∈ l)))) w) : wpList P ops Q (o :: rest) a w := by
 refine wpList_plain hg fun K' hK' => ?_
 unfold Oper.wp
 simp [execOp, hop, hm, hx, h.look ht hk he hz s hs, Result.andThen]
 exact hK' _ _ (by simpa using hK)
theorem wp_setPut {w : World} {o : Oper} {a : Act} {K : Act → World → Prop} {Q : Exit → Act → World → Prop}
 (m x v : Operand) (t : TypeId) (hop : o.op = Op.mapUpdate t m x v)
 (k e : TypeId) (ht : P.underlying t = some (.map k e)) (hk : P.underlying k = some .string) (he : P.underlying e = some .bool) (b n : Nat) (l : List (List UInt8))
 (hm : a.eval m = .map (some b)) (h : SetM P k e b n l w) (hn : n < maxLen) (s : List UInt8) (hs : s.length ≤ maxLen) (hx : a.eval x = .string (bs s)) (hv : a.eval v = .bool true)
 (hK : ∀ w', SetM P k e b (n + 1) (s :: l) w' → w.grownBy w' (some b) → K (a.put o.dst undef) w') : o.wp P a w K Q := by
 obtain ⟨w', hrun, h1, h2⟩ := h.put ht hk he s hs hn
 unfold Oper.wp
 simp [execOp, hop, hm, hx, hv, hrun, Result.andThen]
 exact hK w' h1 h2
end Go.Proofs.LF
namespace Go.Proofs.LF
open Go.RowKit
theorem Fo.take_drop : ∀ (i : Nat) (y : Fo), (y.take i).app (y.drop i) = y
 | 0, _ => rfl
 | _ + 1, .nil => rfl
 | i + 1, .cons n l s r => by simp [Fo.take, Fo.drop, Fo.app, Fo.take_drop i r]
theorem Fo.len_drop : ∀ (i : Nat) (y : Fo), (y.drop i).len = y.len - i
 | 0, _ => rfl
 | _ + 1, .nil => by simp [Fo.drop, Fo.len]
 | i + 1, .cons n l s r => by simp only [Fo.drop, Fo.len, Fo.len_drop i r]; omega
theorem Fo.drop_one : ∀ (i : Nat) (y : Fo), (y.drop i).drop 1 = y.drop (i + 1)
 | 0, _ => rfl
 | _ + 1, .nil => rfl
 | i + 1, .cons _ _ _ r => Fo.drop_one i r
def Fo.setN (y : Fo) (i : Nat) (n : List UInt8) (l : List Int) (s : Fo) : Fo := (y.take i).app (.cons n l s (y.drop (i + 1)))
def Fo.insN (y : Fo) (i : Nat) (n : List UInt8) (l : List Int) (s : Fo) : Fo := (y.take i).app (.cons n l s (y.drop i))
theorem Fo.len_setN {i : Nat} {n : List UInt8} {l : List Int} {s y : Fo} (h : i < y.len) : (y.setN i n l s).len = y.len := by
 simp only [Fo.setN, Fo.len_app, Fo.len_take (Nat.le_of_lt h), Fo.len, Fo.len_drop]; omega
theorem Fo.len_insN {i : Nat} {n : List UInt8} {l : List Int} {s y : Fo} (h : i ≤ y.len) : (y.insN i n l s).len = y.len + 1 := by
 simp only [Fo.insN, Fo.len_app, Fo.len_take h, Fo.len, Fo.len_drop]; omega
theorem FOCs.length {E : TypeId} {S : Nat → Prop} {w : World} {y : Fo} {cs : List Value} (h : FOCs E S w y cs) : cs.length = y.len * 3 := h.fcs.length
theorem FOCs.split {E : TypeId} {w : World} : ∀ {i : Nat} {y : Fo} {S : Nat → Prop} {cs : List Value}, FOCs E S w y cs → ∃ Sa Sb : Nat → Prop, (∀ b, Sa b → S b) ∧ (∀ b, Sb b → S b) ∧ (∀ b, Sa b → ¬ Sb b) ∧
 FOCs E Sa w (y.take i) (cs.take (i * 3)) ∧ FOCs E Sb w (y.drop i) (cs.drop (i * 3))
 | 0, y, S, cs, h => ⟨fun _ => False, S, fun _ h => h.elim, fun _ h => h, fun _ h => h.elim, by simp [Fo.take, FOCs], by simpa [Fo.drop] using h⟩
 | i + 1, .nil, S, cs, h => ⟨fun _ => False, S, fun _ h => h.elim, fun _ h => h, fun _ h => h.elim, by rw [show cs = [] from h]; simp [Fo.take, FOCs], by rw [show cs = [] from h]; simp [Fo.drop, FOCs]⟩
 | i + 1, .cons n l s r, S, cs, ⟨vn, vs, cs', S1, S2, S3, h1, hs, d1, d2, d3, h2, h3, h6⟩ => by
   obtain ⟨Sa, Sb, ha, hb, hd, hfa, hfb⟩ := h6.split (i := i)
   refine ⟨fun b => S1 b ∨ S2 b ∨ Sa b, Sb, fun b hb => ?_, fun b h => hs b (.inr (.inr (hb b h))), fun b h h' => ?_, ?_, ?_⟩
   · rcases hb with h | h | h
     · exact hs b (.inl h)
     · exact hs b (.inr (.inl h))
     · exact hs b (.inr (.inr (ha b h)))
   · rcases h with h | h | h
     · exact d2 b h (hb b h')
     · exact d3 b h (hb b h')
     · exact hd b h h'
   · rw [h1, show (i + 1) * 3 = i * 3 + 1 + 1 + 1 from by omega]
     exact ⟨vn, vs, _, S1, S2, Sa, rfl, fun _ h => h, d1, fun b h h' => d2 b h (ha b h'), fun b h h' => d3 b h (ha b h'), h2, h3, hfa⟩
   · rw [h1, show (i + 1) * 3 = i * 3 + 1 + 1 + 1 from by omega]
     exact hfb
theorem FOCs.cons {E : TypeId} {Sn S : Nat → Prop} {w : World} {n : List UInt8} {l : List Int} {s r : Fo} {cs ds : List Value} (h : FOCs E Sn w (.cons n l s .nil) cs) (h' : FOCs E S w r ds) (hd : ∀ b, Sn b → ¬ S b) : FOCs E (fun b => Sn b ∨ S b) w (.cons n l s r) (cs ++ ds) := FOCs.app h h' hd
theorem FOCs.ins {E : TypeId} {S Sn : Nat → Prop} {w : World} {y s : Fo} {i : Nat} {n : List UInt8} {l : List Int} {cs ds : List Value} (h : FOCs E S w y cs) (hn : FOCs E Sn w (.cons n l s .nil) ds) (hd : ∀ b, S b → ¬ Sn b) :
 FOCs E (fun b => S b ∨ Sn b) w (y.insN i n l s) (cs.take (i * 3) ++ (ds ++ cs.drop (i * 3))) := by
 obtain ⟨Sa, Sb, ha, hb, hab, hfa, hfb⟩ := h.split (i := i)
 refine (FOCs.app hfa (FOCs.cons hn hfb (fun b h1 h2 => hd b (hb b h2) h1)) (fun b h1 h2 => h2.elim (fun h2 => hd b (ha b h1) h2) (hab b h1))).wide ?_
 rintro b (h | h | h)
 · exact .inl (ha b h)
 · exact .inr h
 · exact .inl (hb b h)
theorem FOCs.set {E : TypeId} {S Sn : Nat → Prop} {w : World} {y s : Fo} {i : Nat} {n : List UInt8} {l : List Int} {cs ds : List Value} (h : FOCs E S w y cs) (hn : FOCs E Sn w (.cons n l s .nil) ds) (hd : ∀ b, S b → ¬ Sn b) :
 FOCs E (fun b => S b ∨ Sn b) w (y.setN i n l s) (cs.take (i * 3) ++ (ds ++ cs.drop ((i + 1) * 3))) := by
 obtain ⟨Sa, Sb, ha, hb, hab, hfa, hfb⟩ := h.split (i := i)
 have e1 : (cs.drop (i * 3)).drop (1 * 3) = cs.drop ((i + 1) * 3) := by rw [List.drop_drop]; congr 1; omega
 have e2 : (y.drop i).drop 1 = y.drop (i + 1) := Fo.drop_one i y
 obtain ⟨Sc, Sd, hc, hd', hcd, _, hfd⟩ := hfb.split (i := 1)
 rw [e1, e2] at hfd
 refine (FOCs.app hfa (FOCs.cons hn hfd (fun b h1 h2 => hd b (hb b (hd' b h2)) h1)) (fun b h1 h2 => h2.elim (fun h2 => hd b (ha b h1) h2) (fun h2 => hab b h1 (hd' b h2)))).wide ?_
 rintro b (h | h | h)
 · exact .inl (ha b h)
 · exact .inr h
 · exact .inl (hb b (hd' b h))
theorem FOCs.hole {E : TypeId} {w : World} : ∀ {i : Nat} {y s r : Fo} {n : List UInt8} {l : List Int} {S : Nat → Prop} {cs : List Value}, FOCs E S w y cs → y.drop i = .cons n l s r → ∃ (vn vs : Value) (T : Nat → Prop), cs[i * 3]? = some (.string (bs n)) ∧ cs[i * 3 + 1]? = some vn ∧ cs[i * 3 + 2]? = some vs ∧ (∀ b, T b → S b) ∧ Ints (fun b => S b ∧ ¬ T b) w vn l ∧ FOw E T w vs s ∧
 ∀ (w' : World) (vs' : Value) (s' : Fo) (T' : Nat → Prop), Agree (fun b => S b ∧ ¬ T b) w w' → FOw E T' w' vs' s' → (∀ b, T' b → S b → T b) → FOCs E (fun b => S b ∨ T' b) w' (y.setN i n l s') (cs.set (i * 3 + 2) vs')
 | 0, .cons n l s r, s0, r0, n0, l0, S, cs, ⟨vn, vs, cs', S1, S2, S3, h1, hs, d1, d2, d3, h2, h3, h6⟩, hd => by
   simp only [Fo.drop, Fo.cons.injEq] at hd
   obtain ⟨rfl, rfl, rfl, rfl⟩ := hd
   refine ⟨vn, vs, S2, by rw [h1]; rfl, by rw [h1]; rfl, by rw [h1]; rfl, fun b h => hs b (.inr (.inl h)), h2.wide (fun b h => ⟨hs b (.inl h), d1 b h⟩), h3, fun w' vs' s' T' ha hF hT => ?_⟩
   rw [h1]
   refine ⟨vn, vs', cs', S1, T', S3, rfl, fun b h => ?_, fun b h h' => d1 b h (hT b h' (hs b (.inl h))), d2, fun b h h' => d3 b (hT b h (hs b (.inr (.inr h')))) h', h2.agree (fun b h => ha b ⟨hs b (.inl h), d1 b h⟩), hF, ?_⟩
   · rcases h with h | h | h
     · exact .inl (hs b (.inl h))
     · exact .inr h
     · exact .inl (hs b (.inr (.inr h)))
   · exact h6.agree (fun b h => ha b ⟨hs b (.inr (.inr h)), fun h' => d3 b h' h⟩)
 | i + 1, .cons n l s r, s0, r0, n0, l0, S, cs, ⟨vn, vs, cs', S1, S2, S3, h1, hs, d1, d2, d3, h2, h3, h6⟩, hd => by
   obtain ⟨vn', vs', T, g0, g1, g2, hT, hI, hF, hk⟩ := h6.hole (i := i) hd
   refine ⟨vn', vs', T, ?_, ?_, ?_, fun b h => hs b (.inr (.inr (hT b h))), hI.wide (fun b h => ⟨hs b (.inr (.inr h.1)), h.2⟩), hF, fun w' vs'' s' T' ha hF' hT' => ?_⟩
   · rw [h1, show (i + 1) * 3 = i * 3 + 1 + 1 + 1 from by omega]; exact g0
   · rw [h1, show (i + 1) * 3 + 1 = i * 3 + 1 + 1 + 1 + 1 from by omega]; exact g1
   · rw [h1, show (i + 1) * 3 + 2 = i * 3 + 2 + 1 + 1 + 1 from by omega]; exact g2
   · have hnT : ∀ b, T' b → ¬ S1 b ∧ ¬ S2 b := fun b h => ⟨fun h' => d2 b h' (hT b (hT' b h (hs b (.inl h')))), fun h' => d3 b h' (hT b (hT' b h (hs b (.inr (.inl h')))))⟩
     have hk' := hk w' vs'' s' T' (fun b h => ha b ⟨hs b (.inr (.inr h.1)), h.2⟩) hF' (fun b h h' => hT' b h (hs b (.inr (.inr h'))))
     rw [h1, show (i + 1) * 3 + 2 = i * 3 + 2 + 1 + 1 + 1 from by omega]
     refine ⟨vn, vs, _, S1, S2, fun b => S3 b ∨ T' b, rfl, fun b h => ?_, d1, fun b h h' => h'.elim (d2 b h) (fun h' => (hnT b h').1 h), fun b h h' => h'.elim (d3 b h) (fun h' => (hnT b h').2 h), h2.agree (fun b h => ha b ⟨hs b (.inl h), fun h' => d2 b h (hT b h')⟩), ?_, hk'⟩
     · rcases h with h | h | h | h
       · exact .inl (hs b (.inl h))
       · exact .inl (hs b (.inr (.inl h)))
       · exact .inl (hs b (.inr (.inr h)))
       · exact .inr h
     · exact FOw.agree (S := S2) h3 (fun b h => ha b ⟨hs b (.inr (.inl h)), fun h' => d3 b h (hT b h')⟩)
end Go.Proofs.LF
namespace Go.Proofs.LF
open Go.RowKit
def FNCs : (Nat → Prop) → World → Fo → List Value → Prop
 | _, _, .nil, cs => cs = []
 | S, w, .cons n l s r, cs => ∃ (vn vs : Value) (cs' : List Value) (S1 S2 S3 : Nat → Prop), cs = .string (bs n) :: vn :: vs :: cs' ∧
    (∀ b, S1 b ∨ S2 b ∨ S3 b → S b) ∧ (∀ b, S1 b → ¬ S2 b) ∧ (∀ b, S1 b → ¬ S3 b) ∧ (∀ b, S2 b → ¬ S3 b) ∧ w.ownsRow 0 3 1 vn l.length (l.map (Value.int .i64)) ∧ (∀ g, vn.ownBlock = some g → S1 g) ∧
    FSl S2 w vs s ∧ FNCs S3 w r cs'
theorem FNCs.agree {w w' : World} : ∀ {y : Fo} {S : Nat → Prop} {cs : List Value}, FNCs S w y cs → Agree S w w' → FNCs S w' y cs
 | .nil, _, _, h, _ => h
 | .cons n l s r, S, cs, ⟨vn, vs, cs', S1, S2, S3, h1, hs, d1, d2, d3, h2, h3, h4, h6⟩, ha =>
   ⟨vn, vs, cs', S1, S2, S3, h1, hs, d1, d2, d3, owns_agree h2 (fun g hg => ha g (hs g (.inl (h3 g hg)))), h3, h4.agree (fun b hb => ha b (hs b (.inr (.inl hb)))), h6.agree (fun b hb => ha b (hs b (.inr (.inr hb))))⟩
theorem FNCs.wide {w : World} : ∀ {y : Fo} {S S' : Nat → Prop} {cs : List Value}, FNCs S w y cs → (∀ b, S b → S' b) → FNCs S' w y cs
 | .nil, _, _, _, h, _ => h
 | .cons n l s r, S, S', cs, ⟨vn, vs, cs', S1, S2, S3, h1, hs, d1, d2, d3, h2, h3, h4, h6⟩, hw =>
   ⟨vn, vs, cs', S1, S2, S3, h1, fun b hb => hw b (hs b hb), d1, d2, d3, h2, h3, h4, h6⟩
theorem FNCs.app {w : World} : ∀ {y z : Fo} {S S' : Nat → Prop} {cs ds : List Value}, FNCs S w y cs → FNCs S' w z ds → (∀ b, S b → ¬ S' b) → FNCs (fun b => S b ∨ S' b) w (y.app z) (cs ++ ds)
 | .nil, z, _, _, _, _, h, h', _ => by rw [show _ = [] from h]; exact h'.wide (fun b hb => .inr hb)
 | .cons n l s r, z, S, S', cs, ds, ⟨vn, vs, cs', S1, S2, S3, h1, hs, d1, d2, d3, h2, h3, h4, h6⟩, h', hd =>
   ⟨vn, vs, cs' ++ ds, S1, S2, fun b => S3 b ∨ S' b, by rw [h1]; rfl, fun b hb => by
     rcases hb with hb | hb | hb | hb
     · exact .inl (hs b (.inl hb))
     · exact .inl (hs b (.inr (.inl hb)))
     · exact .inl (hs b (.inr (.inr hb)))
     · exact .inr hb,
     d1, fun b hb h => h.elim (d2 b hb) (hd b (hs b (.inl hb))), fun b hb h => h.elim (d3 b hb) (hd b (hs b (.inr (.inl hb)))), h2, h3, h4,
     h6.app h' (fun b hb => hd b (hs b (.inr (.inr hb))))⟩
theorem FNCs.one {S1 S2 : Nat → Prop} {w : World} {n : List UInt8} {l : List Int} {s : Fo} {vn vs : Value} (h1 : w.ownsRow 0 3 1 vn l.length (l.map (Value.int .i64))) (h2 : ∀ g, vn.ownBlock = some g → S1 g) (h3 : FSl S2 w vs s) (hd : ∀ b, S1 b → ¬ S2 b) : FNCs (fun b => S1 b ∨ S2 b) w (.cons n l s .nil) [.string (bs n), vn, vs] :=
 ⟨vn, vs, [], S1, S2, fun _ => False, rfl, fun b hb => by rcases hb with hb | hb | hb; exact .inl hb; exact .inr hb; exact hb.elim, hd, fun _ _ h => h, fun _ _ h => h, h1, h2, h3, rfl⟩
end Go.Proofs.LF
