/- Parts of the proof of a law of layer 11 (file): LfW22a, LfPut. The conditions stand in each theorem. -/
import Derived.Laws.ResultCell
import Derived.Outline
import Derived.Test.YtadkpjgpefcphaaGreatDoorProg
import Derived.WalkKit
import Derived.WalkLawsBesides
import Derived.Test.YtadkpjgpefcphaaGreatDoorMdae
import Derived.Test.YtadkpjgpefcphaaGreatDoorMdao
import Derived.Test.YtadkpjgpefcphaaGreatDoorMdau
import Derived.Test.YtadkpjgpefcphaaGreatDoorMdav
import Derived.Test.YtadkpjgpefcphaaGreatDoorMdaw
set_option linter.all false
set_option linter.unusedVariables false
set_option linter.unusedSimpArgs false
namespace Go.Proofs.LF
open Go.RowKit Go.Sort
set_option maxHeartbeats 4000000
set_option maxRecDepth 100000
theorem ret100 {tmps : Array Value} {W : World} {b : Nat} {x y t3 : Value} (h : W.heap[b]? = some (.cells #[x, y] 171 (0, 0))) (h2 : tmps.getD 2 undef = .pointer (some ⟨b, 0, none⟩)) (h3 : tmps.getD 3 undef = t3) :
    (results Tryz.f100 tmps).run Tryz.prog W = .ok (.tuple #[.agg #[x, y], t3]) W := by
  have h0 := cells_get h (k := 0) rfl
  have h1 := cells_get h (k := 1) rfl
  rw [results_cell_tmp rfl, h2, h3]
  simp [go_sem, h0, h1]
theorem res_set {W : World} {b : Nat} {x y x' y' : Value} (h : W.heap[b]? = some (.cells #[x, y] 171 (0, 0))) : ((W.setCell ⟨b, 0, none⟩ x').setCell ⟨b, 1, none⟩ y').heap[b]? = some (.cells #[x', y'] 171 (0, 0)) := by
  simp [World.setCell, Array.getElem?_modify, h]
theorem rdNums_none {m : Nat} {s : List UInt8} (h : runN blankB 1 s = 0) : rdNums m s = ([], 0, true) := by
  cases m <;> simp [rdNums, h]
theorem rdNums_bad {m : Nat} {s : List UInt8} (h : runN blankB 1 s ≠ 0) (h2 : runN digitB (mostD (s.drop 1)) (s.drop 1) = 0) : rdNums (m + 1) s = ([], 1, false) := by
  simp only [rdNums, h, h2, if_false, if_true]
theorem rdNums_go {m n : Nat} {s : List UInt8} (h : runN blankB 1 s ≠ 0) (h2 : n = runN digitB (mostD (s.drop 1)) (s.drop 1)) (h3 : n ≠ 0) : rdNums (m + 1) s = (((decN ((s.drop 1).take n) : Nat) : Int) :: (rdNums m (s.drop (1 + n))).1, 1 + n + (rdNums m (s.drop (1 + n))).2.1, (rdNums m (s.drop (1 + n))).2.2) := by
  subst h2
  simp only [rdNums, h, h3, if_false, List.drop_drop]
theorem nxt_eq {t : List UInt8} {q : Nat} {c : UInt8} (h0 : c ≠ 0) : nxt t q = (c.toNat : Int) ↔ (t.drop q).head? = some c := by
  unfold nxt
  split
  · rename_i h
    rw [List.drop_eq_getElem_cons h, List.head?_cons, Option.some.injEq]
    constructor
    · intro e
      exact UInt8.toNat_inj.1 (by omega)
    · intro e; rw [e]
  · rename_i h
    rw [List.drop_eq_nil_of_le (by omega)]
    simp only [List.head?_nil, reduceCtorEq, iff_false]
    intro e
    exact h0 (UInt8.toNat_inj.1 (by simp; omega))
theorem digit_most (R : Nat) (t : List UInt8) (i : Nat) (vs : List Value) (w : World) (hr : Rdr R t i vs w) (ht : t.length ≤ 100000) (hi : i ≤ t.length) {M : Nat} (hm : mostD (t.drop i) = M) :
    Calls Tryz.prog 184 #[.pointer (some ⟨R, 0, none⟩), .func (.func 187) #[.agg #[.int .u8 48, .int .u8 57]] #[], .int .i64 M] w (RunR digitB R t i (mostD (t.drop i)) vs w) := by
  have h4 : mostD (t.drop i) ≤ 4 := by unfold mostD; split <;> omega
  subst hm
  exact digit_runs R t i _ vs w hr ht hi (by omega)
theorem mostD_le (s : List UInt8) : mostD s ≤ 4 := by unfold mostD; split <;> omega
theorem run_all {p : UInt8 → Bool} : ∀ {m : Nat} {s : List UInt8}, ∀ c ∈ s.take (runN p m s), p c = true
  | 0, s, c, h => by simp [runN] at h
  | _ + 1, [], c, h => by simp [runN] at h
  | m + 1, d :: r, c, h => by
    simp only [runN] at h
    split at h
    · rename_i hd
      rw [List.take_succ_cons] at h
      rcases List.mem_cons.1 h with rfl | h
      · exact hd
      · exact run_all c h
    · simp at h
theorem node_after {B : Nat} {w11 w12 : World} {o : Obj} {cs : Array Value} {nv : Value} {k : Nat} {xs : List Value} (h : w11.heap[B]? = some (.cells cs 85 (0, 0))) (ho : w11.ownsRow (B + 1) 3 1 nv k xs) (hg : (w11.alloc o).grownBy w12 nv.ownBlock) : Hid (w12.heap[B]? = some (.cells cs 85 (0, 0))) := by
  have hlt := (Array.getElem?_eq_some_iff.1 h).1
  exact (hg.block B (by simp; omega) (fun e => by have := (ho.lt B e.symm).1; omega)).trans ((heap_alloc_old _ _ hlt).trans h)
theorem Keep.grownNew {O : Nat → Prop} {A B C : World} {row : Option Nat} (h : Keep O A B) (hg : B.grownBy C row) (hr : ∀ b, row = some b → A.heap.size ≤ b) : Keep O A C :=
  ⟨hg.os.trans h.os, hg.tape.trans h.tape, hg.output.trans h.output, Nat.le_trans h.size hg.size, fun b hb ho => (hg.block b (Nat.lt_of_lt_of_le hb h.size) (fun e => by have := hr b e.symm; omega)).trans (h.block b hb ho)⟩
theorem Rdr.setFar {R b k : Nat} {t : List UInt8} {i : Nat} {vs : List Value} {w : World} {u : Value} (h : Rdr R t i vs w) (hb : R ≠ b) : Rdr R t i vs (w.setCell ⟨b, k, none⟩ u) := (Below.heap_setCell _ _ _ _ hb).trans h
theorem Rdr.alloc {R : Nat} {t : List UInt8} {i : Nat} {vs : List Value} {w : World} (h : Rdr R t i vs w) (o : Obj) : Rdr R t i vs (w.alloc o) := (heap_alloc_old _ _ h.lt).trans h
theorem keys_set {kys : List Ky} {d : Nat} {k : Ky} {fd : Value} (hk : kys.length = 4) (hd : d ≤ 3) : (((kys.flatMap Ky.cells ++ [fd]).set (d * 3) (.string (bs k.n))).set (d * 3 + 1) (.bool k.h)).set (d * 3 + 2) (.int .i64 k.x) = (kys.set d k).flatMap Ky.cells ++ [fd] := by
  match kys, hk with
  | [a, b, c, e], _ =>
    match d, hd with
    | 0, _ => rfl
    | 1, _ => rfl
    | 2, _ => rfl
    | 3, _ => rfl
theorem keys_at {kys : List Ky} {d : Nat} {fd : Value} (hk : kys.length = 4) (hd : d ≤ 3) : ∃ a b c, (kys.flatMap Ky.cells ++ [fd])[d * 3]? = some a ∧ (kys.flatMap Ky.cells ++ [fd])[d * 3 + 1]? = some b ∧ (kys.flatMap Ky.cells ++ [fd])[d * 3 + 2]? = some c := by
  match kys, hk with
  | [a, b, c, e], _ =>
    match d, hd with
    | 0, _ => exact ⟨_, _, _, rfl, rfl, rfl⟩
    | 1, _ => exact ⟨_, _, _, rfl, rfl, rfl⟩
    | 2, _ => exact ⟨_, _, _, rfl, rfl, rfl⟩
    | 3, _ => exact ⟨_, _, _, rfl, rfl, rfl⟩
theorem rdr_key {R d : Nat} {t : List UInt8} {i : Nat} {a b c k : Value} {ks : List Value} {w : World} (h : Rdr R t i (a :: b :: c :: ks) w) (hk : ks[d * 3]? = some k) : w.cell? ⟨R, 5 + d * 3, none⟩ = some k := by
  have := h.cV (j := d * 3 + 3) (v := k) (by simpa using hk)
  rwa [show 5 + d * 3 = d * 3 + 3 + 2 by omega]
theorem rdr_key1 {R d : Nat} {t : List UInt8} {i : Nat} {a b c k : Value} {ks : List Value} {w : World} (h : Rdr R t i (a :: b :: c :: ks) w) (hk : ks[d * 3 + 1]? = some k) : w.cell? ⟨R, 5 + d * 3 + 1, none⟩ = some k := by
  have := h.cV (j := d * 3 + 1 + 3) (v := k) (by simpa using hk)
  rwa [show 5 + d * 3 + 1 = d * 3 + 1 + 3 + 2 by omega]
theorem rdr_key2 {R d : Nat} {t : List UInt8} {i : Nat} {a b c k : Value} {ks : List Value} {w : World} (h : Rdr R t i (a :: b :: c :: ks) w) (hk : ks[d * 3 + 2]? = some k) : w.cell? ⟨R, 5 + d * 3 + 2, none⟩ = some k := by
  have := h.cV (j := d * 3 + 2 + 3) (v := k) (by simpa using hk)
  rwa [show 5 + d * 3 + 2 = d * 3 + 2 + 3 + 2 by omega]
theorem rdr_last {R d : Nat} {t : List UInt8} {i : Nat} {a b c : Value} {kys : List Ky} {fd : Value} {w : World} (h : Rdr R t i (a :: b :: c :: (kys.flatMap Ky.cells ++ [fd])) w) (hk : kys.length = 4) (hd : d ≤ 3) (k : Ky) (c' : Value) :
    Rdr R t i (a :: b :: c' :: ((kys.set d k).flatMap Ky.cells ++ [fd])) ((((w.setCell ⟨R, 5 + d * 3, none⟩ (.string (bs k.n))).setCell ⟨R, 5 + d * 3 + 1, none⟩ (.bool k.h)).setCell ⟨R, 5 + d * 3 + 2, none⟩ (.int .i64 k.x)).setCell ⟨R, 4, none⟩ c') := by
  have h1 := (((h.setV (3 + d * 3) (.string (bs k.n))).setV (3 + d * 3 + 1) (.bool k.h)).setV (3 + d * 3 + 2) (.int .i64 k.x)).setV 2 c'
  rw [show 3 + d * 3 + 2 + 2 = 5 + d * 3 + 2 by omega, show 3 + d * 3 + 1 + 2 = 5 + d * 3 + 1 by omega, show 3 + d * 3 + 2 = 5 + d * 3 by omega] at h1
  have e : ((((a :: b :: c :: (kys.flatMap Ky.cells ++ [fd])).set (3 + d * 3) (.string (bs k.n))).set (3 + d * 3 + 1) (.bool k.h)).set (5 + d * 3) (.int .i64 k.x)).set 2 c' = a :: b :: c' :: ((kys.set d k).flatMap Ky.cells ++ [fd]) := by
    rw [← keys_set hk hd, show 3 + d * 3 = d * 3 + 1 + 1 + 1 by omega, show 5 + d * 3 = d * 3 + 2 + 1 + 1 + 1 by omega]
    simp only [List.set_cons_succ, List.set_cons_zero]
  rw [e] at h1
  exact h1
theorem rdr_path {R d : Nat} {t : List UInt8} {i : Nat} {a b c : Value} {kys : List Ky} {fd : Value} {w : World} (h : Rdr R t i (a :: b :: c :: (kys.flatMap Ky.cells ++ [fd])) w) (hk : kys.length = 4) (hd : d ≤ 3) :
    Pth (· = R) w (.slice (some ⟨R, 5, none⟩) (kys.take (d + 1)).length 4) (kys.take (d + 1)) := by
  have hl : (kys.take (d + 1)).length = d + 1 := by rw [List.length_take]; omega
  refine ⟨len_keys _, some ⟨R, 5, none⟩, 4, rfl, by omega, by simp [maxLen], (fun e => by cases e), .inr ⟨R, 5, rfl, rfl, fun j u hj => ?_⟩⟩
  have hj2 : (kys.flatMap Ky.cells ++ [fd])[j]? = some u := by
    have h3 := (List.getElem?_eq_some_iff.1 hj).1
    have e : kys.flatMap Ky.cells = (kys.take (d + 1)).flatMap Ky.cells ++ (kys.drop (d + 1)).flatMap Ky.cells := by
      rw [← List.flatMap_append, List.take_append_drop]
    rw [e, List.append_assoc, List.getElem?_append_left h3]
    exact hj
  have := h.cV (j := j + 3) (v := u) (by simpa using hj2)
  rwa [show 5 + j = j + 3 + 2 by omega]
theorem cloneK_any' (p : List Ky) (a : Option Addr) (n : Nat) (hn : p.length = n) (c : Nat) (hlen : n ≤ 1000) (S : Nat → Prop) (w : World) (hv : Pth S w (.slice a p.length c) p) (hS : ∀ b, S b → b < w.heap.size) :
    Calls Tryz.prog 117 #[.slice a n c] w fun e w' => ∃ a' c', e = .returned (.slice a' n c') ∧ Pth (Rg w.heap.size w'.heap.size) w' (.slice a' n c') p ∧ Below w.heap.size w w' := by
  subst hn
  exact cloneK_any p a c S w hv hS hlen
def ReadR (R : Nat) (t : List UInt8) (i ln dp : Nat) (kys : List Ky) (fd : Value) (w : World) (e : Ending) (w' : World) : Prop :=
  ((rdLine dp (t.drop i)).2.2.2.2 = false ∧ e = .returned (.tuple #[.agg #[.slice none 0 0, .slice none 0 0], .bool false]) ∧
    (∃ vs, Rdr R t (i + (rdLine dp (t.drop i)).2.2.2.1) (.int .i64 ln :: .int .i64 i :: vs) w') ∧ Keep (· = R) w w') ∨
  ((rdLine dp (t.drop i)).2.2.2.2 = true ∧ ∃ ap cp an cn, e = .returned (.tuple #[.agg #[.slice ap ((rdLine dp (t.drop i)).1 + 1) cp, .slice an (rdLine dp (t.drop i)).2.2.1.length cn], .bool true]) ∧
    Pth (Rg w.heap.size w'.heap.size) w' (.slice ap ((rdLine dp (t.drop i)).1 + 1) cp) ((kys.set (rdLine dp (t.drop i)).1 (kyOf (rdLine dp (t.drop i)).2.1 (rdLine dp (t.drop i)).2.2.1)).take ((rdLine dp (t.drop i)).1 + 1)) ∧
    Ints (Rg w.heap.size w'.heap.size) w' (.slice an (rdLine dp (t.drop i)).2.2.1.length cn) (rdLine dp (t.drop i)).2.2.1 ∧
    Rdr R t (i + (rdLine dp (t.drop i)).2.2.2.1) (.int .i64 ln :: .int .i64 i :: .int .i64 (min ((rdLine dp (t.drop i)).1 + 1) 3 : Nat) :: ((kys.set (rdLine dp (t.drop i)).1 (kyOf (rdLine dp (t.drop i)).2.1 (rdLine dp (t.drop i)).2.2.1)).flatMap Ky.cells ++ [fd])) w' ∧ Keep (· = R) w w')
theorem rdLine_no {dp d : Nat} {s : List UInt8} (h1 : d = runN blankB dp s) (h2 : runN smallB 8 (s.drop d) = 0) : rdLine dp s = (d, [], [], d, false) := by
  subst h1
  simp only [rdLine]
  rw [if_pos h2]
theorem rdLine_of {dp d k : Nat} {s : List UInt8} {r : List Int × Nat × Bool} (h1 : d = runN blankB dp s) (h2 : k = runN smallB 8 (s.drop d)) (h3 : k ≠ 0) (h4 : rdNums 4 (s.drop (d + k)) = r) : rdLine dp s = (d, (s.drop d).take k, r.1, d + k + r.2.1, r.2.2 && ((s.drop (d + (k + r.2.1))).head? == some 10)) := by
  subst h1; subst h2; subst h4
  simp only [rdLine]
  rw [if_neg h3]
  simp only [List.drop_drop]
end Go.Proofs.LF
namespace Go.Proofs.LF
def putN (n : List UInt8) (l : List Int) (s : Fo) (y : Fo) : Fo :=
  if fndN y (kyOf n l) < y.len ∧ byK (keyD y (fndN y (kyOf n l))) (kyOf n l) = 0 then y.setN (fndN y (kyOf n l)) n l s else y.insN (fndN y (kyOf n l)) n l s
def modK (k : Ky) (f : Fo → Fo) : Fo → Fo
  | .nil => .nil
  | .cons n l s r => if kyOf n l = k then .cons n l (f s) r else .cons n l s (modK k f r)
def putF (n : List UInt8) (l : List Int) (s : Fo) : List Ky → Fo → Fo
  | [], y => putN n l s y
  | k :: r, y => modK k (putF n l s r) y
theorem modK_at {k : Ky} {f : Fo → Fo} : ∀ {i : Nat} {y s r : Fo} {n : List UInt8} {l : List Int}, y.drop i = .cons n l s r → kyOf n l = k → (∀ j, j < i → keyAt y j ≠ some k) → modK k f y = y.setN i n l (f s)
  | 0, .cons n' l' s' r', s, r, n, l, h, hk, _ => by
    simp only [Fo.drop, Fo.cons.injEq] at h
    obtain ⟨rfl, rfl, rfl, rfl⟩ := h
    simp [modK, hk, Fo.setN, Fo.take, Fo.app, Fo.drop]
  | i + 1, .cons n' l' s' r', s, r, n, l, h, hk, hb => by
    have h0 := hb 0 (by omega)
    simp only [keyAt, Fo.drop, ne_eq, Option.some.injEq] at h0
    have := modK_at (k := k) (f := f) (i := i) (y := r') h hk (fun j hj => hb (j + 1) (by omega))
    simp only [modK, h0, if_false, this, Fo.setN, Fo.take, Fo.app, Fo.drop]
  | 0, .nil, _, _, _, _, h, _, _ => by cases h
  | _ + 1, .nil, _, _, _, _, h, _, _ => by cases h
theorem Fo.Sm.app : ∀ {y z : Fo}, y.Sm → z.Sm → (y.app z).Sm
  | .nil, _, _, h => h
  | .cons _ _ _ _, _, ⟨h1, h2, h3, h4, h5⟩, h => ⟨h1, h2, h3, h4, h5.app h⟩
theorem Fo.Sm.take : ∀ {i : Nat} {y : Fo}, y.Sm → (y.take i).Sm
  | 0, _, _ => trivial
  | _ + 1, .nil, _ => trivial
  | i + 1, .cons _ _ _ _, ⟨h1, h2, h3, h4, h5⟩ => ⟨h1, h2, h3, h4, Fo.Sm.take (i := i) h5⟩
theorem Fo.cnt_app : ∀ (y z : Fo), (y.app z).cnt = y.cnt + z.cnt
  | .nil, z => by simp [Fo.app, Fo.cnt]
  | .cons n l s r, z => by simp only [Fo.app, Fo.cnt, Fo.cnt_app r z]; omega
theorem Fo.len_le_cnt : ∀ (y : Fo), y.len ≤ y.cnt
  | .nil => Nat.le_refl _
  | .cons n l s r => by have := Fo.len_le_cnt r; simp only [Fo.len, Fo.cnt]; omega
theorem Fo.cnt_take_drop (i : Nat) (y : Fo) : (y.take i).cnt + (y.drop i).cnt = y.cnt := by
  rw [← Fo.cnt_app, Fo.take_drop]
theorem Fo.cnt_drop_succ {i : Nat} {y : Fo} : (y.drop (i + 1)).cnt ≤ (y.drop i).cnt := by
  have h : ∀ (i : Nat) (y : Fo), (y.drop (i + 1)).cnt ≤ (y.drop i).cnt := by
    intro i
    induction i with
    | zero => intro y; cases y with
      | nil => simp [Fo.drop]
      | cons n l s r => simp only [Fo.drop, Fo.cnt]; omega
    | succ i ih => intro y; cases y with
      | nil => simp [Fo.drop]
      | cons n l s r => exact ih r
  exact h i y
def Fo.Nm : Fo → Prop
  | .nil => True
  | .cons n l s r => n.length ≤ 1000 ∧ l.length ≤ 1000 ∧ s.Nm ∧ r.Nm
theorem Fo.Sm.nm : ∀ {y : Fo}, y.Sm → y.Nm
  | .nil, _ => trivial
  | .cons _ _ _ _, ⟨h1, h2, _, h4, h5⟩ => ⟨h1, h2, h4.nm, h5.nm⟩
theorem Fo.Nm.sm : ∀ {y : Fo}, y.Nm → y.cnt ≤ 1000 → y.Sm
  | .nil, _, _ => trivial
  | .cons n l s r, ⟨h1, h2, h4, h5⟩, hc => by
    simp only [Fo.cnt] at hc
    have := Fo.len_le_cnt s
    exact ⟨h1, h2, by omega, h4.sm (by omega), h5.sm (by omega)⟩
theorem Fo.Nm.app : ∀ {y z : Fo}, y.Nm → z.Nm → (y.app z).Nm
  | .nil, _, _, h => h
  | .cons _ _ _ _, _, ⟨h1, h2, h4, h5⟩, h => ⟨h1, h2, h4, h5.app h⟩
theorem Fo.Nm.take : ∀ {i : Nat} {y : Fo}, y.Nm → (y.take i).Nm
  | 0, _, _ => trivial
  | _ + 1, .nil, _ => trivial
  | i + 1, .cons _ _ _ _, ⟨h1, h2, h4, h5⟩ => ⟨h1, h2, h4, Fo.Nm.take (i := i) h5⟩
theorem Fo.Nm.drop : ∀ {i : Nat} {y : Fo}, y.Nm → (y.drop i).Nm
  | 0, _, h => h
  | _ + 1, .nil, h => h
  | i + 1, .cons _ _ _ r, ⟨_, _, _, h⟩ => Fo.Nm.drop (i := i) (y := r) h
theorem putN_nm {n : List UInt8} {l : List Int} {s y : Fo} (hy : y.Nm) (h1 : n.length ≤ 1000) (h2 : l.length ≤ 1000) (h4 : s.Nm) : (putN n l s y).Nm := by
  unfold putN
  split
  · exact hy.take.app ⟨h1, h2, h4, hy.drop⟩
  · exact hy.take.app ⟨h1, h2, h4, hy.drop⟩
theorem putN_cnt {n : List UInt8} {l : List Int} {s y : Fo} : (putN n l s y).cnt ≤ y.cnt + 1 + s.cnt := by
  unfold putN
  split
  · have h1 := Fo.cnt_take_drop (fndN y (kyOf n l)) y
    have h2 := Fo.cnt_drop_succ (i := fndN y (kyOf n l)) (y := y)
    simp only [Fo.setN, Fo.cnt_app, Fo.cnt]; omega
  · have h1 := Fo.cnt_take_drop (fndN y (kyOf n l)) y
    simp only [Fo.insN, Fo.cnt_app, Fo.cnt]; omega
theorem modK_cnt {k : Ky} {f : Fo → Fo} {m : Nat} (hf : ∀ s, (f s).cnt ≤ s.cnt + m) : ∀ (y : Fo), (modK k f y).cnt ≤ y.cnt + m
  | .nil => by simp [modK, Fo.cnt]
  | .cons n l s r => by
    simp only [modK]
    split
    · have := hf s; simp only [Fo.cnt]; omega
    · have := modK_cnt (k := k) hf r; simp only [Fo.cnt]; omega
theorem putF_cnt {n : List UInt8} {l : List Int} {s : Fo} : ∀ (p : List Ky) (y : Fo), (putF n l s p y).cnt ≤ y.cnt + (1 + s.cnt)
  | [], y => by have := putN_cnt (n := n) (l := l) (s := s) (y := y); simp only [putF]; omega
  | k :: r, y => by simp only [putF]; exact modK_cnt (fun z => putF_cnt r z) y
theorem modK_nm {k : Ky} {f : Fo → Fo} (hf : ∀ s, s.Nm → (f s).Nm) : ∀ (y : Fo), y.Nm → (modK k f y).Nm
  | .nil, _ => trivial
  | .cons n l s r, ⟨h1, h2, h4, h5⟩ => by
    simp only [modK]
    split
    · exact ⟨h1, h2, hf s h4, h5⟩
    · exact ⟨h1, h2, h4, modK_nm hf r h5⟩
theorem putF_nm {n : List UInt8} {l : List Int} {s : Fo} (h1 : n.length ≤ 1000) (h2 : l.length ≤ 1000) (h4 : s.Nm) : ∀ (p : List Ky) (y : Fo), y.Nm → (putF n l s p y).Nm
  | [], _, hy => putN_nm hy h1 h2 h4
  | _ :: r, y, hy => modK_nm (fun z hz => putF_nm h1 h2 h4 r z hz) y hy
def putE (y : Fo) (p : List Ky) (n : List UInt8) (l : List Int) (s : Fo) : Int :=
  if chkY y ≠ 0 then chkY y else if (atF y p).isNone ∧ p ≠ [] then 1 else if 60 < 1 + s.cnt then 2 else chkY (putF n l s p y)
def putY (y : Fo) (p : List Ky) (n : List UInt8) (l : List Int) (s : Fo) : Fo := if putE y p n l s = 0 then putF n l s p y else .nil
end Go.Proofs.LF
