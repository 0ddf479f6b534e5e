/- Parts of the proof of a law of layer 11 (file): LfSpec, LfApp, LfOw. The conditions stand in each theorem. -/
import Derived.Deep.AppendLies
import Derived.Maps.AppendAt
import Derived.OwnWalk
import Derived.Test.YtadkpjgpefcphaaGreatDoorProg
import Derived.Test.YtadkpjgpefcphaaGreatDoorMdaa
set_option linter.all false
set_option linter.unusedVariables false
set_option linter.unusedSimpArgs false
namespace Go.Proofs.LF
def cmpB (a b : List UInt8) : Int := if Op.bytesLess a b then -1 else if Op.bytesLess b a then 1 else 0
def cmpI (a b : Int) : Int := if a < b then -1 else if b < a then 1 else 0
def byK (a b : Ky) : Int := if a.n ≠ b.n then cmpB a.n b.n else if a.h ≠ b.h then (if b.h then -1 else 1) else cmpI a.x b.x
def kyOf (n : List UInt8) : List Int → Ky
  | [] => ⟨n, false, 0⟩
  | x :: _ => ⟨n, true, x⟩
theorem kyOf_n (n : List UInt8) (l : List Int) : (kyOf n l).n = n := by cases l <;> rfl
def offB (n most : Int) : Bool := decide (n < 0) || decide (most < n)
def badNs (l : List Int) : Bool := l.any fun x => offB x 9999
def badNm (s : List UInt8) : Bool := s.any (fun c => decide ((c.toNat : Int) < 97) || decide (122 < (c.toNat : Int))) || decide ((s.length : Int) < 1) || decide (8 < (s.length : Int))
def inB (n lo hi : Int) : Bool := decide (lo ≤ n) && decide (n ≤ hi)
theorem u8_eq_iff {a b : UInt8} : a = b ↔ a.toNat = b.toNat := ⟨fun h => by rw [h], fun h => UInt8.toNat_inj.1 h⟩
theorem bl_irrefl : ∀ (a : List UInt8), Op.bytesLess a a = false
  | [] => rfl
  | a :: x => by simp [Op.bytesLess, bl_irrefl x]
theorem bl_total : ∀ {a b : List UInt8}, Op.bytesLess a b = false → Op.bytesLess b a = false → a = b
  | [], [], _, _ => rfl
  | [], _ :: _, h, _ => by simp [Op.bytesLess] at h
  | _ :: _, [], _, h => by simp [Op.bytesLess] at h
  | a :: x, b :: y, h, k => by
    simp only [Op.bytesLess, Bool.or_eq_false_iff, decide_eq_false_iff_not, Bool.and_eq_false_iff, beq_eq_false_iff_ne, ne_eq] at h k
    have e : a = b := by
      have h1 := h.1; have h2 := k.1
      rw [UInt8.lt_iff_toNat_lt] at h1 h2
      rw [u8_eq_iff]; omega
    subst e
    rw [bl_total (h.2.resolve_left (by simp)) (k.2.resolve_left (by simp))]
theorem bl_of_ne {a b : List UInt8} (h : Op.bytesLess a b = false) (hn : a ≠ b) : Op.bytesLess b a = true := by
  cases hb : Op.bytesLess b a with
  | true => rfl
  | false => exact absurd (bl_total h hb) hn
def idxN (p : Nat → Bool) (n : Nat) : Int := match (List.range n).find? p with | some i => (i : Int) | none => -1
def anyN (p : Nat → Bool) (n : Nat) : Bool := (List.range n).any p
theorem idxN_found {p : Nat → Bool} {n k : Nat} (h : ∀ i, i < k → p i = false) (hk : k < n) (hp : p k = true) : idxN p n = k := by
  have : (List.range n).find? p = some k := by
    rw [List.find?_range_eq_some]
    exact ⟨hp, by simpa using hk, fun j hj => by simp [h j hj]⟩
  simp [idxN, this]
theorem idxN_none {p : Nat → Bool} {n : Nat} (h : ∀ i, i < n → p i = false) : idxN p n = -1 := by
  have : (List.range n).find? p = none := by
    rw [List.find?_eq_none]
    intro x hx
    simp [h x (by simpa using hx)]
  simp [idxN, this]
theorem idxN_any (p : Nat → Bool) (n : Nat) : decide (0 ≤ idxN p n) = anyN p n := by
  unfold idxN anyN
  cases h : (List.range n).find? p with
  | none =>
    rw [List.find?_eq_none] at h
    symm; simp
    intro x hx
    have := h x (by simpa using hx)
    simpa using this
  | some k =>
    have := List.find?_some h
    have hm := List.mem_of_find?_eq_some h
    simp
    exact ⟨k, by simpa using hm, this⟩
theorem anyN_list {α : Type} (q : α → Bool) (p : Nat → Bool) (l : List α) (h : ∀ i (hi : i < l.length), p i = q l[i]) : anyN p l.length = l.any q := by
  rw [Bool.eq_iff_iff]
  simp only [anyN, List.any_eq_true, List.mem_range]
  constructor
  · rintro ⟨i, hi, hp⟩
    exact ⟨l[i], by simp, by rw [← h i hi]; exact hp⟩
  · rintro ⟨x, hx, hq⟩
    obtain ⟨i, hi, rfl⟩ := List.getElem_of_mem hx
    exact ⟨i, hi, by rw [h i hi]; exact hq⟩
def ordG (bad : Ky → Ky → Bool) : Int → Option Ky → Fo → Int
  | _, _, .nil => 0
  | d, p, .cons n l s r =>
    if 3 < d then 10 else if badNm n then 11 else if 4 < (l.length : Int) then 2 else if badNs l then 3
    else if (match p with | none => false | some q => bad q (kyOf n l)) then 4
    else if ordG bad (d + 1) none s ≠ 0 then ordG bad (d + 1) none s else ordG bad d (some (kyOf n l)) r
def geK (a b : Ky) : Bool := decide (0 ≤ byK a b)
def ordF : Int → Fo → Int := fun d y => ordG geK d none y
def cntG : Int → Int → Fo → Int
  | _, n, .nil => n
  | d, n, .cons nm l s r => if 8 < d ∨ 80 < n ∨ 8 < (l.length : Int) ∨ 20 < (nm.length : Int) then 1000 else cntG d (n + (1 + cntG (d + 1) 0 s)) r
theorem cntG_bound : ∀ (y : Fo) (d n : Int), 0 ≤ d → d ≤ 9 → 0 ≤ n → n ≤ 3000 → 0 ≤ cntG d n y ∧ (cntG d n y ≤ n ∨ cntG d n y ≤ 1000 + 81 * (9 - d)) := by
  intro y
  induction y with
  | nil => intro d n _ _ _ _; simp only [cntG]; omega
  | cons nm l s r ihs ihr =>
    intro d n h0 h9 hn hn'
    simp only [cntG]
    split
    · omega
    · have h1 := ihs (d + 1) 0 (by omega) (by omega) (by omega) (by omega)
      have h2 := ihr d (n + (1 + cntG (d + 1) 0 s)) h0 h9 (by omega) (by omega)
      omega
theorem cntG_sub (s : Fo) (d : Int) (h0 : 0 ≤ d) (h8 : d ≤ 8) : 0 ≤ cntG (d + 1) 0 s ∧ cntG (d + 1) 0 s ≤ 2000 := by
  have := cntG_bound s (d + 1) 0 (by omega) (by omega) (by omega) (by omega)
  omega
structure NdD where
  up : List Ky
  n : List UInt8
  l : List Int
  s : Fo
def nodesL : List Ky → Fo → List NdD
  | _, .nil => []
  | up, .cons n l s r => ⟨up, n, l, s⟩ :: (nodesL (up ++ [kyOf n l]) s ++ nodesL up r)
theorem nodesL_app (up : List Ky) : ∀ (y z : Fo), nodesL up (y.app z) = nodesL up y ++ nodesL up z
  | .nil, _ => rfl
  | .cons n l s r, z => by simp only [Fo.app, nodesL, nodesL_app up r z]; simp
theorem nodesL_take {up : List Ky} {k : Nat} {y r s : Fo} {n : List UInt8} {l : List Int} (h : y.drop k = .cons n l s r) : nodesL up (y.take (k + 1)) = nodesL up (y.take k) ++ (⟨up, n, l, s⟩ :: nodesL (up ++ [kyOf n l]) s) := by
  rw [Fo.take_succ h, nodesL_app]; simp [nodesL]
theorem nodesL_pre {up : List Ky} : ∀ {k : Nat} {y : Fo}, nodesL up (y.take k) <+: nodesL up y
  | 0, _ => by simp [Fo.take, nodesL]
  | _ + 1, .nil => by simp [Fo.take]
  | k + 1, .cons n l s r => by
    obtain ⟨t, ht⟩ := nodesL_pre (up := up) (k := k) (y := r)
    exact ⟨t, by simp only [Fo.take, nodesL, ← ht]; simp⟩
theorem nodesL_length (up : List Ky) : ∀ (y : Fo), (nodesL up y).length = y.cnt
  | .nil => rfl
  | .cons n l s r => by simp only [nodesL, Fo.cnt, List.length_cons, List.length_append, nodesL_length _ s, nodesL_length up r]; omega
end Go.Proofs.LF
namespace Go.Proofs.LF
open Go.RowKit
variable {P : Program} (w : World)
theorem owns_shape {w : World} {base e k n : Nat} {v : Value} {xs : List Value} (h : w.ownsRow base e k v n xs) : ∃ a c, v = .slice a n c ∧ n ≤ c ∧ c ≤ maxLen := (SlC.of_owns h).shape
theorem run_append_ao (t ty : TypeId) (base : Nat) (e : TypeId) (i : TypeInfo) (z : Value) (size bytes : Nat) (ht : P.underlying t = some (.slice e)) (hi : P.info? e = some i) (hz : i.zero = some z)
    (hsize : i.size = size) (hby : i.bytes = bytes) (hzs : z.cells.size = size) (hsz : 0 < size)
    (v : Value) (n : Nat) (xs : List Value) (hown : w.ownsRow base e size v n xs)
    (ao : Option Addr) (m c : Nat) (news : List Value) (hl : news.length = m * size) (hnone : ao = none → m = 0 ∧ c = 0) (hnews : ∀ ad, ao = some ad → ∀ (j : Nat) (u : Value), news[j]? = some u → w.cell? (ad.add j) = some u) (h1 : ∀ u ∈ news, u.oneCell' = true)
    (h63 : n + m ≤ maxLen) (hbytes : (n + m) * bytes ≤ 140737488355328) (hbase : base ≤ w.heap.size) :
    ∃ a' c' w', (Builtin.append_ #[t, t] ty #[v, .slice ao m c]).run P w = .ok (.slice a' (n + m) c') w' ∧
      w'.ownsRow base e size (.slice a' (n + m) c') (n + m) (xs ++ news) ∧ w.grownBy w' v.ownBlock ∧ (∀ g, (Value.slice a' (n + m) c').ownBlock = some g → v.ownBlock = some g ∨ g = w.heap.size) := by
  cases ao with
  | some ad =>
    obtain ⟨v', w', hr, h2, h3, _, h5⟩ := run_append_own_at (P := P) w base t ty e i z size bytes ht hi hz hsize hby hzs hsz v n xs hown ad m c news hl (hnews ad rfl) h1 h63 hbytes hbase
    obtain ⟨a', c', rfl, _, _⟩ := owns_shape h2
    refine ⟨a', c', w', hr, h2, h3, fun g hg => ?_⟩
    rcases h5 with h5 | h5
    · exact .inl (by rw [← h5]; exact hg)
    · exact .inr (by rw [hg] at h5; exact Option.some.inj h5)
  | none =>
    obtain ⟨rfl, rfl⟩ := hnone rfl
    have hn : news = [] := List.eq_nil_of_length_eq_zero (by simpa using hl)
    subst hn
    have hrun := run_append_owned_none (P := P) w base t ty e i size ht hi v n xs hown
    obtain ⟨a', c', rfl, _, _⟩ := owns_shape hown
    exact ⟨a', c', w, hrun, by simpa using hown, World.grownBy.refl _ _, fun g hg => .inl hg⟩
theorem wp_append_ao {o : Oper} {a : Act} {K : Act → World → Prop} {Q : Exit → Act → World → Prop} (s x : Operand) (t : TypeId)
    (ho : o.op = .call { callee := .builtin .append, args := #[s, x], argTypes := #[t, t] })
    (base : Nat) (e : TypeId) (i : TypeInfo) (z : Value) (size bytes : Nat) (ht : P.underlying t = some (.slice e)) (hi : P.info? e = some i) (hz : i.zero = some z)
    (hsize : i.size = size) (hby : i.bytes = bytes) (hzs : z.cells.size = size) (hsz : 0 < size)
    (v : Value) (n : Nat) (xs : List Value) (hs : a.eval s = v) (hown : w.ownsRow base e size v n xs)
    (ao : Option Addr) (m c : Nat) (news : List Value) (hx : a.eval x = .slice ao m c) (hl : news.length = m * size) (hnone : ao = none → m = 0 ∧ c = 0) (hnews : ∀ ad, ao = some ad → ∀ (j : Nat) (u : Value), news[j]? = some u → w.cell? (ad.add j) = some u) (h1 : ∀ u ∈ news, u.oneCell' = true)
    (h63 : n + m ≤ maxLen) (hbytes : (n + m) * bytes ≤ 140737488355328) (hbase : base ≤ w.heap.size)
    (h : ∀ a' c' w', w'.ownsRow base e size (.slice a' (n + m) c') (n + m) (xs ++ news) → w.grownBy w' v.ownBlock → (∀ g, (Value.slice a' (n + m) c').ownBlock = some g → v.ownBlock = some g ∨ g = w.heap.size) → K (a.put o.dst (.slice a' (n + m) c')) w') : o.wp P a w K Q := by
  obtain ⟨a', c', w', hr, h2, h3, h4⟩ := run_append_ao (P := P) w t o.type base e i z size bytes ht hi hz hsize hby hzs hsz v n xs hown ao m c news hl hnone hnews h1 h63 hbytes hbase
  unfold Oper.wp execOp
  simp only [ho, resolve, invoke, builtin, Sem.run_bind, Sem.run_pure, Result.andThen_ok, List.map_toArray, List.map_cons, List.map_nil, hs, hx, hr]
  exact h a' c' w' h2 h3 h4
theorem wpList_append_ao {ops : Array Oper} {rest : List Oper} {o : Oper} {a : Act} {Q : Exit → Act → World → Prop} (hgd : o.guard = none) (s x : Operand) (t : TypeId)
    (ho : o.op = .call { callee := .builtin .append, args := #[s, x], argTypes := #[t, t] })
    (base : Nat) (e : TypeId) (i : TypeInfo) (z : Value) (size bytes : Nat) (ht : P.underlying t = some (.slice e)) (hi : P.info? e = some i) (hz : i.zero = some z)
    (hsize : i.size = size) (hby : i.bytes = bytes) (hzs : z.cells.size = size) (hsz : 0 < size)
    (v : Value) (n : Nat) (xs : List Value) (hs : a.eval s = v) (hown : w.ownsRow base e size v n xs)
    (ao : Option Addr) (m c : Nat) (news : List Value) (hx : a.eval x = .slice ao m c) (hl : news.length = m * size) (hnone : ao = none → m = 0 ∧ c = 0) (hnews : ∀ ad, ao = some ad → ∀ (j : Nat) (u : Value), news[j]? = some u → w.cell? (ad.add j) = some u) (h1 : ∀ u ∈ news, u.oneCell' = true)
    (h63 : n + m ≤ maxLen) (hbytes : (n + m) * bytes ≤ 140737488355328) (hbase : base ≤ w.heap.size)
    (h : ∀ a' c' w', w'.ownsRow base e size (.slice a' (n + m) c') (n + m) (xs ++ news) → w.grownBy w' v.ownBlock → (∀ g, (Value.slice a' (n + m) c').ownBlock = some g → v.ownBlock = some g ∨ g = w.heap.size) → wpList P ops Q rest (a.put o.dst (.slice a' (n + m) c')) w') : wpList P ops Q (o :: rest) a w :=
  wpList_plain hgd fun _ hK => wp_append_ao w s x t ho base e i z size bytes ht hi hz hsize hby hzs hsz v n xs hs hown ao m c news hx hl hnone hnews h1 h63 hbytes hbase fun a' c' w' h2 h3 h4 => hK _ _ (h a' c' w' h2 h3 h4)
theorem step_append_ao {ops : Array Oper} {o : Oper} {a : Act} {K : Act → World → Prop} {Q : Exit → Act → World → Prop} {E : Prop} (hgd : o.guard = none) (s x : Operand) (t : TypeId)
    (ho : o.op = .call { callee := .builtin .append, args := #[s, x], argTypes := #[t, t] })
    (base : Nat) (e : TypeId) (i : TypeInfo) (z : Value) (size bytes : Nat) (ht : P.underlying t = some (.slice e)) (hi : P.info? e = some i) (hz : i.zero = some z)
    (hsize : i.size = size) (hby : i.bytes = bytes) (hzs : z.cells.size = size) (hsz : 0 < size)
    (v : Value) (n : Nat) (xs : List Value) (hs : a.eval s = v) (hown : w.ownsRow base e size v n xs)
    (ao : Option Addr) (m c : Nat) (news : List Value) (hx : a.eval x = .slice ao m c) (hl : news.length = m * size) (hnone : ao = none → m = 0 ∧ c = 0) (hnews : ∀ ad, ao = some ad → ∀ (j : Nat) (u : Value), news[j]? = some u → w.cell? (ad.add j) = some u) (h1 : ∀ u ∈ news, u.oneCell' = true)
    (h63 : n + m ≤ maxLen) (hbytes : (n + m) * bytes ≤ 140737488355328) (hbase : base ≤ w.heap.size)
    (h : ∀ a' c' w', w'.ownsRow base e size (.slice a' (n + m) c') (n + m) (xs ++ news) → w.grownBy w' v.ownBlock → (∀ g, (Value.slice a' (n + m) c').ownBlock = some g → v.ownBlock = some g ∨ g = w.heap.size) → K (a.put o.dst (.slice a' (n + m) c')) w') :
    if Region.wanted o (yielded ops a.tmps) = true then Oper.wp P o a w K Q else E := by
  have hw : Region.wanted o (yielded ops a.tmps) = true := by simp [Region.wanted, hgd]
  rw [if_pos hw]
  exact wp_append_ao w s x t ho base e i z size bytes ht hi hz hsize hby hzs hsz v n xs hs hown ao m c news hx hl hnone hnews h1 h63 hbytes hbase h
end Go.Proofs.LF
namespace Go.Proofs.LF
open Go.RowKit
def FOCs (E : TypeId) : (Nat → Prop) → World → Fo → List Value → Prop
  | _, _, .nil, cs => cs = []
  | S, w, .cons n l s r, cs => ∃ (vn vs : Value) (cs' : List Value) (S1 S2 S3 : Nat → Prop), cs = .string (bs n) :: vn :: vs :: cs' ∧
      (∀ b, S1 b ∨ S2 b ∨ S3 b → S b) ∧ (∀ b, S1 b → ¬ S2 b) ∧ (∀ b, S1 b → ¬ S3 b) ∧ (∀ b, S2 b → ¬ S3 b) ∧ Ints S1 w vn l ∧
      (∃ ds, w.ownsRow 0 E 3 vs s.len ds ∧ (∀ g, vs.ownBlock = some g → S2 g) ∧ FOCs E (fun b => S2 b ∧ vs.ownBlock ≠ some b) w s ds) ∧ FOCs E S3 w r cs'
def FOw (E : TypeId) (S : Nat → Prop) (w : World) (v : Value) (y : Fo) : Prop :=
  ∃ ds, w.ownsRow 0 E 3 v y.len ds ∧ (∀ g, v.ownBlock = some g → S g) ∧ FOCs E (fun b => S b ∧ v.ownBlock ≠ some b) w y ds
theorem owns_agree {w w' : World} {base e k n : Nat} {v : Value} {xs : List Value} (h : w.ownsRow base e k v n xs) (ha : ∀ g, v.ownBlock = some g → w'.heap[g]? = w.heap[g]?) : w'.ownsRow base e k v n xs := by
  refine ⟨h.1, ?_⟩
  rcases h.2 with hn | ⟨g, cap, cur, rfl, hb, hgg, rest⟩
  · exact .inl hn
  · exact .inr ⟨g, cap, cur, rfl, hb, (ha g rfl).trans hgg, rest⟩
theorem owns_base {w : World} {base base' e k n : Nat} {v : Value} {xs : List Value} (h : w.ownsRow base e k v n xs) (hb : ∀ g, v.ownBlock = some g → base' ≤ g) : w.ownsRow base' e k v n xs := by
  refine ⟨h.1, ?_⟩
  rcases h.2 with hn | ⟨g, cap, cur, rfl, hb', hgg, rest⟩
  · exact .inl hn
  · exact .inr ⟨g, cap, cur, rfl, hb g rfl, hgg, rest⟩
theorem FOCs.agree {E : TypeId} {w w' : World} : ∀ {y : Fo} {S : Nat → Prop} {cs : List Value}, FOCs E S w y cs → Agree S w w' → FOCs E S w' y cs
  | .nil, _, _, h, _ => h
  | .cons n l s r, S, cs, ⟨vn, vs, cs', S1, S2, S3, h1, hs, d1, d2, d3, h2, ⟨ds, h3, h4, h5⟩, h6⟩, ha =>
    ⟨vn, vs, cs', S1, S2, S3, h1, hs, d1, d2, d3, h2.agree (fun b hb => ha b (hs b (.inl hb))),
      ⟨ds, owns_agree h3 (fun g hg => ha g (hs g (.inr (.inl (h4 g hg))))), h4, h5.agree (fun b hb => ha b (hs b (.inr (.inl hb.1))))⟩, h6.agree (fun b hb => ha b (hs b (.inr (.inr hb))))⟩
theorem FOCs.wide {E : TypeId} {w : World} : ∀ {y : Fo} {S S' : Nat → Prop} {cs : List Value}, FOCs E S w y cs → (∀ b, S b → S' b) → FOCs E S' w y cs
  | .nil, _, _, _, h, _ => h
  | .cons n l s r, S, S', cs, ⟨vn, vs, cs', S1, S2, S3, h1, hs, d1, d2, d3, h2, h3, h6⟩, hw =>
    ⟨vn, vs, cs', S1, S2, S3, h1, fun b hb => hw b (hs b hb), d1, d2, d3, h2, h3, h6⟩
theorem FOCs.app {E : TypeId} {w : World} : ∀ {y z : Fo} {S S' : Nat → Prop} {cs ds : List Value}, FOCs E S w y cs → FOCs E S' w z ds → (∀ b, S b → ¬ S' b) → FOCs E (fun b => S b ∨ S' b) w (y.app z) (cs ++ ds)
  | .nil, z, _, _, _, _, h, h', _ => by rw [show _ = [] from h]; exact h'.wide (fun b hb => .inr hb)
  | .cons n l s r, z, S, S', cs, ds, ⟨vn, vs, cs', S1, S2, S3, h1, hs, d1, d2, d3, h2, h3, h6⟩, h', hd =>
    ⟨vn, vs, cs' ++ ds, S1, S2, fun b => S3 b ∨ S' b, by rw [h1]; rfl, fun b hb => by
      rcases hb with hb | hb | hb | hb
      · exact .inl (hs b (.inl hb))
      · exact .inl (hs b (.inr (.inl hb)))
      · exact .inl (hs b (.inr (.inr hb)))
      · exact .inr hb,
      d1, fun b hb h => h.elim (d2 b hb) (hd b (hs b (.inl hb))), fun b hb h => h.elim (d3 b hb) (hd b (hs b (.inr (.inl hb)))), h2, h3,
      h6.app h' (fun b hb => hd b (hs b (.inr (.inr hb))))⟩
theorem FOCs.fcs {E : TypeId} {w : World} : ∀ {y : Fo} {S : Nat → Prop} {cs : List Value}, FOCs E S w y cs → FCs S w y cs
  | .nil, _, _, h => h
  | .cons n l s r, S, cs, ⟨vn, vs, cs', S1, S2, S3, h1, hs, _, _, _, h2, ⟨ds, h3, h4, h5⟩, h6⟩ => by
    refine ⟨vn, vs, cs', h1, h2.wide (fun b hb => hs b (.inl hb)), ⟨ds, ?_, h5.fcs.wide (fun b hb => hs b (.inr (.inl hb.1)))⟩, h6.fcs.wide (fun b hb => hs b (.inr (.inr hb)))⟩
    exact owns_slc h3 (fun g hg => hs g (.inr (.inl (h4 g hg))))
  where
  owns_slc {w : World} {base e k n : Nat} {v : Value} {xs : List Value} {S : Nat → Prop} (h : w.ownsRow base e k v n xs) (hS : ∀ g, v.ownBlock = some g → S g) : SlC S w k v n xs := by
    obtain ⟨h1, h2⟩ := h
    refine ⟨h1, ?_⟩
    rcases h2 with ⟨rfl, rfl⟩ | ⟨g, cap, cur, rfl, hb, hg, hn, hc, hs, ht⟩
    · exact ⟨none, 0, rfl, by omega, by simp [maxLen], fun _ => rfl, .inl rfl⟩
    · refine ⟨_, cap, rfl, hn, hc, (fun h => by cases h), .inr ⟨g, 0, rfl, hS g rfl, fun j u hj => ?_⟩⟩
      simp only [World.cell?, hg, Nat.zero_add]
      rw [← ht, List.getElem?_take] at hj
      split at hj
      · simpa using hj
      · cases hj
theorem FOw.agree {E : TypeId} {S : Nat → Prop} {w w' : World} {v : Value} {y : Fo} (h : FOw E S w v y) (ha : Agree S w w') : FOw E S w' v y :=
  let ⟨ds, h1, h2, h3⟩ := h; ⟨ds, owns_agree h1 (fun g hg => ha g (h2 g hg)), h2, h3.agree (fun b hb => ha b hb.1)⟩
theorem FOw.wide {E : TypeId} {S S' : Nat → Prop} {w : World} {v : Value} {y : Fo} (h : FOw E S w v y) (hw : ∀ b, S b → S' b) : FOw E S' w v y :=
  let ⟨ds, h1, h2, h3⟩ := h; ⟨ds, h1, fun g hg => hw g (h2 g hg), h3.wide (fun b hb => ⟨hw b hb.1, hb.2⟩)⟩
theorem FOw.fsl {E : TypeId} {S : Nat → Prop} {w : World} {v : Value} {y : Fo} (h : FOw E S w v y) : FSl S w v y :=
  let ⟨ds, h1, h2, h3⟩ := h; ⟨ds, FOCs.fcs.owns_slc h1 h2, h3.fcs.wide (fun b hb => hb.1)⟩
theorem FOCs.one {E : TypeId} {S1 S2 : Nat → Prop} {w : World} {n : List UInt8} {l : List Int} {s : Fo} {vn vs : Value} (h1 : Ints S1 w vn l) (h2 : FOw E S2 w vs s) (hd : ∀ b, S1 b → ¬ S2 b) : FOCs E (fun b => S1 b ∨ S2 b) w (.cons n l s .nil) [.string (bs n), vn, vs] := by
  obtain ⟨ds, h3, h4, h5⟩ := h2
  exact ⟨vn, vs, [], S1, S2, fun _ => False, rfl, fun b hb => by rcases hb with hb | hb | hb; exact .inl hb; exact .inr hb; exact hb.elim, hd, fun _ _ h => h, fun _ _ h => h, h1, ⟨ds, h3, h4, h5⟩, rfl⟩
end Go.Proofs.LF
