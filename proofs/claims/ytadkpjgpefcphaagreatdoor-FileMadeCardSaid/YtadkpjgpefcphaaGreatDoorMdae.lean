/- Parts of the proof of a law of layer 11 (file): LfW1, LfCopy, LfList, LfPrint, LfMap, LfHole, LfOn. The conditions stand in each theorem. -/
import Derived.BigQuiet
import Derived.Deep.AppendLies
import Derived.Deep.QuietTactic
import Derived.Deep.RegionHeld3
import Derived.Laws.CopyOwn
import Derived.Laws.Entries
import Derived.Laws.MakeOwn
import Derived.Laws.ResultCell
import Derived.Lib.ItoaNum
import Derived.Lib.Join
import Derived.Maps.OwnOps
import Derived.Maps.OwnSet
import Derived.Outline
import Derived.StringKeys
import Derived.Test.YtadkpjgpefcphaaGreatDoorProg
import Derived.WalkKit
import Derived.WalkLawsBesides
import Derived.WalkSpells
import Derived.Test.YtadkpjgpefcphaaGreatDoorMdaa
import Derived.Test.YtadkpjgpefcphaaGreatDoorMdac
set_option linter.all false
set_option linter.unusedVariables false
set_option linter.unusedSimpArgs false
namespace Go.Proofs.LF
open Go.RowKit
set_option maxHeartbeats 1000000
set_option maxRecDepth 100000
attribute [local go_sem] bs_toList
theorem isNaNs (x : ByteArray) (w : World) :
    Calls Tryz.prog 268 #[.string x] w fun e w' => e = .returned (.bool false) ∧ w = w' := by
  go_enter Tryz.func268, Tryz.ntmps268
  go_wp2
  go_ret
  exact ⟨by simp, rfl⟩
theorem isNaNi (x : Int) (w : World) :
    Calls Tryz.prog 269 #[.int .i64 x] w fun e w' => e = .returned (.bool false) ∧ w = w' := by
  go_enter Tryz.func269, Tryz.ntmps269
  go_wp2
  go_ret
  exact ⟨by simp, rfl⟩
theorem ret_int {k : IntKind} {a b : Int} (h : a = b) : Ending.returned (.int k a) = .returned (.int k b) := by rw [h]
theorem ret_bool {a b : Bool} (h : a = b) : Ending.returned (.bool a) = .returned (.bool b) := by rw [h]
theorem cmps_any (x y : List UInt8) (w : World) :
    Calls Tryz.prog 223 #[.string (bs x), .string (bs y)] w fun e w' => e = .returned (.int .i64 (cmpB x y)) ∧ w = w' := by
  go_enter Tryz.func223, Tryz.ntmps223
  go_wp2_with (go_at_call 268; refine (isNaNs _ _).mono ?_; rintro e w' ⟨rfl, rfl⟩)
  all_goals go_ret
  · exact ⟨ret_int (by simp [cmpB, *]), rfl⟩
  · have h1 : Op.bytesLess x y = false := by assumption
    have h2 : (!x == y) = true := by assumption
    exact ⟨ret_int (by simp [cmpB, h1, bl_of_ne h1 (by simpa using h2)]), rfl⟩
  · have h2 : (!x == y) = false := by assumption
    have h3 : x = y := by simpa using h2
    exact ⟨ret_int (by rw [h3]; simp [cmpB, bl_irrefl]), rfl⟩
theorem cmpi_any (x y : Int) (w : World) :
    Calls Tryz.prog 224 #[.int .i64 x, .int .i64 y] w fun e w' => e = .returned (.int .i64 (cmpI x y)) ∧ w = w' := by
  go_enter Tryz.func224, Tryz.ntmps224
  go_wp2_with (go_at_call 269; refine (isNaNi _ _).mono ?_; rintro e w' ⟨rfl, rfl⟩)
  all_goals go_ret
  all_goals refine ⟨ret_int ?_, rfl⟩
  all_goals unfold cmpI
  · rw [if_pos ‹_›]
  · rw [if_neg (by omega), if_pos ‹_›]
  · rw [if_neg (by omega), if_neg (by omega)]
theorem in_any (n lo hi : Int) (w : World) :
    Calls Tryz.prog 151 #[.int .i64 n, .int .i64 lo, .int .i64 hi] w fun e w' => e = .returned (.bool (inB n lo hi)) ∧ w = w' := by
  by_cases h1 : lo ≤ n
  · go_enter Tryz.func151, Tryz.ntmps151
    go_wp2
    go_ret
    exact ⟨ret_bool (by simp [inB, h1]), rfl⟩
  · go_enter Tryz.func151, Tryz.ntmps151
    go_wp2
    go_ret
    exact ⟨ret_bool (by simp [inB]; omega), rfl⟩
theorem number_any (n : Int) (w : World) :
    Calls Tryz.prog 156 #[.int .i64 n] w fun e w' => e = .returned (.bool (inB n 0 9999)) ∧ w = w' := by
  go_enter Tryz.func156, Tryz.ntmps156
  go_wp2_with (go_at_call 151; refine (in_any _ _ _ _).mono ?_; rintro e w' ⟨rfl, rfl⟩)
  go_ret
  exact ⟨rfl, rfl⟩
theorem has_any (lo hi b : Int) (w : World) :
    Calls Tryz.prog 187 #[.agg #[.int .u8 lo, .int .u8 hi], .int .u8 b] w fun e w' => e = .returned (.bool (inB b lo hi)) ∧ Below w.heap.size w w' := by
  by_cases h1 : lo ≤ b
  · go_enter Tryz.func187, Tryz.ntmps187
    go_wp2
    go_ret
    exact ⟨ret_bool (by simp [inB, h1]), (Below.refl _ _).alloc (Nat.le_refl _) _⟩
  · go_enter Tryz.func187, Tryz.ntmps187
    go_wp2
    go_ret
    exact ⟨ret_bool (by simp [inB]; omega), (Below.refl _ _).alloc (Nat.le_refl _) _⟩
theorem byKey_any (a b : Ky) (w : World) :
    Calls Tryz.prog 183 #[.agg #[.string (bs a.n), .bool a.h, .int .i64 a.x], .agg #[.string (bs b.n), .bool b.h, .int .i64 b.x]] w fun e w' => e = .returned (.int .i64 (byK a b)) ∧ Below w.heap.size w w' := by
  obtain ⟨an, ah, ax⟩ := a
  obtain ⟨bn, bh, bx⟩ := b
  by_cases h : an = bn
  · have h' : (an == bn) = true := by simp [h]
    cases ah <;> cases bh
    all_goals
      go_enter Tryz.func183, Tryz.ntmps183
      go_wp2_with (first | (go_at_call 223; refine (cmps_any _ _ _).mono ?_; rintro e w' ⟨rfl, rfl⟩) | (go_at_call 224; refine (cmpi_any _ _ _).mono ?_; rintro e w' ⟨rfl, rfl⟩))
      go_ret
      exact ⟨ret_int (by simp [byK, h]), ((Below.refl _ _).alloc (Nat.le_refl _) _).alloc (by simp) _⟩
  · have h' : (an == bn) = false := by simp [h]
    go_enter Tryz.func183, Tryz.ntmps183
    go_wp2_with (first | (go_at_call 223; refine (cmps_any _ _ _).mono ?_; rintro e w' ⟨rfl, rfl⟩) | (go_at_call 224; refine (cmpi_any _ _ _).mono ?_; rintro e w' ⟨rfl, rfl⟩))
    go_ret
    exact ⟨ret_int (by simp [byK, h]), ((Below.refl _ _).alloc (Nat.le_refl _) _).alloc (by simp) _⟩
end Go.Proofs.LF
namespace Go.Proofs.LF
open Go.RowKit
variable {P : Program}
theorem run_copy_rowK (w : World) (dT sT ty elem : TypeId) (k g o dLen dCap m : Nat) (a : Addr) (sLen sCap : Nat) (cur : Array Value) (t : TypeId) (cs : List Value)
    (hu : P.underlying dT = some (.slice elem)) (hs : (P.info? elem).map (·.size) = some k)
    (hg : w.heap[g]? = some (.cells cur t (0, 0))) (hm : m = Nat.min sLen dLen) (hn : cs.length = k * m)
    (hsrc : ∀ j v, cs[j]? = some v → w.cell? (a.add j) = some v) (hfit : o + cs.length ≤ cur.size) (h1 : ∀ v ∈ cs, v.oneCell' = true) :
    (Builtin.copy_ #[dT, sT] ty #[.slice (some ⟨g, o, none⟩) dLen dCap, .slice (some a) sLen sCap]).run P w =
      .ok (goInt m) (w.setRow g (cur.toList.take o ++ cs ++ cur.toList.drop (o + cs.length)).toArray) := by
  have hl := run_loadCells_list (P := P) w a cs hsrc
  have hst := run_storeCells_at P g o t cs 0 cur w hg (by simpa using hfit) h1
  rw [hn, Nat.mul_comm] at hl
  cases hq : P.info? elem with
  | none => simp [hq] at hs
  | some i =>
    have hi : i.size = k := by simpa [hq] using hs
    simp [Builtin.copy_, run_underlying hu, Builtin.lenOf, Builtin.firstCells, sizeOf, typeInfo, hq, hi, ← hm, hl, hst]
theorem wpList_copyK {w : World} {ops : Array Oper} {rest : List Oper} {o : Oper} {a : Act} {Q : Exit → Act → World → Prop} (hgd : o.guard = none) (d s : Operand) (dT sT : TypeId)
    (ho : o.op = .call { callee := .builtin .copy, args := #[d, s], argTypes := #[dT, sT] }) (elem k : TypeId) (hu : P.underlying dT = some (.slice elem)) (hsz : (P.info? elem).map (·.size) = some k)
    (g off dLen dCap m : Nat) (ad : Addr) (sLen sCap : Nat) (hd : a.eval d = .slice (some ⟨g, off, none⟩) dLen dCap) (hs : a.eval s = .slice (some ad) sLen sCap)
    (cur : Array Value) (t : TypeId) (hg : w.heap[g]? = some (.cells cur t (0, 0))) (cs : List Value) (hm : m = Nat.min sLen dLen) (hn : cs.length = k * m)
    (hsrc : ∀ j v, cs[j]? = some v → w.cell? (ad.add j) = some v) (hfit : off + cs.length ≤ cur.size) (h1 : ∀ v ∈ cs, v.oneCell' = true)
    (h : wpList P ops Q rest (a.put o.dst (goInt m)) (w.setRow g (cur.toList.take off ++ (cs ++ cur.toList.drop (off + cs.length))).toArray)) : wpList P ops Q (o :: rest) a w := by
  refine wpList_plain hgd fun K hK => ?_
  have hrun := run_copy_rowK (P := P) w dT sT o.type elem k g off dLen dCap m ad sLen sCap cur t cs hu hsz hg hm hn hsrc hfit h1
  unfold Oper.wp
  simp [execOp, ho, resolve, invoke, builtin, hd, hs, hrun, Result.andThen]
  exact hK _ _ h
theorem wpList_copyNil {w : World} {ops : Array Oper} {rest : List Oper} {o : Oper} {a : Act} {Q : Exit → Act → World → Prop} (hgd : o.guard = none) (d s : Operand) (dT sT : TypeId)
    (ho : o.op = .call { callee := .builtin .copy, args := #[d, s], argTypes := #[dT, sT] }) (elem k : TypeId) (hu : P.underlying dT = some (.slice elem)) (hsz : (P.info? elem).map (·.size) = some k)
    (da : Addr) (dLen dCap : Nat) (hd : a.eval d = .slice (some da) dLen dCap) (hs : a.eval s = .slice none 0 0)
    (h : wpList P ops Q rest (a.put o.dst (goInt 0)) w) : wpList P ops Q (o :: rest) a w := by
  refine wpList_plain hgd fun K hK => ?_
  have hrun := run_copy_nil P w dT sT o.type elem da dLen dCap hu (by rw [hsz]; rfl)
  unfold Oper.wp
  simp [execOp, ho, resolve, invoke, builtin, hd, hs, hrun, Result.andThen]
  exact hK _ _ h
theorem run_makeK (t e : TypeId) (i : TypeInfo) (z : Value) (ht : P.underlying t = some (.slice e)) (hi : P.info? e = some i) (hz : i.zero = some z)
    (kl kc : IntKind) (n c : Nat) (hnc : n ≤ c) (hbytes : i.bytes * c ≤ 281474976710656) (h63 : c ≤ 9223372036854775807) (w : World) :
    (Instr.makeSlice t (.int kl (n : Int)) (.int kc (c : Int))).run P w = .ok (.slice (some ⟨w.heap.size, 0, none⟩) n c) (w.alloc (.cells (madeCells z.cells (c * i.size)) e)) := by
  have hb : (i.bytes : Int) * (c : Int) ≤ 281474976710656 := by
    have h : ((i.bytes * c : Nat) : Int) ≤ 281474976710656 := by omega
    rwa [Int.natCast_mul] at h
  have hr := run_make (P := P) w t e i z ht hi hz kl kc n c (by omega) (by omega) hb (by omega)
  simp only [Int.toNat_natCast] at hr
  exact hr
theorem madeCells_size (z : Array Value) (n : Nat) : (madeCells z n).size = n := by simp [madeCells]
theorem owns_of_row {w : World} {B e k n cap g : Nat} {cur : Array Value} {xs : List Value} (hb : B ≤ g) (hg : w.heap[g]? = some (.cells cur e (0, 0))) (hn : n ≤ cap) (hc : cap ≤ maxLen) (hs : cur.size = cap * k) (hx : cur.toList.take (n * k) = xs) :
    w.ownsRow B e k (.slice (some ⟨g, 0, none⟩) n cap) n xs :=
  ⟨by rw [← hx, List.length_take, Array.length_toList, hs]; exact Nat.min_eq_left (Nat.mul_le_mul_right k hn), .inr ⟨g, cap, cur, rfl, hb, hg, hn, hc, hs, hx⟩⟩
theorem setRow_at {w : World} {g : Nat} {cur cs : Array Value} {t : TypeId} (hg : w.heap[g]? = some (.cells cur t (0, 0))) : (w.setRow g cs).heap[g]? = some (.cells cs t (0, 0)) := setRow_heap w g cur cs t _ hg
theorem setRow_below {B : Nat} {w0 w : World} {g : Nat} (hb : Below B w0 w) (hB : B ≤ g) (cs : Array Value) : Below B w0 (w.setRow g cs) := below_setRow hb hB cs
theorem grown_setRow (w : World) (g : Nat) (cs : Array Value) : w.grownBy (w.setRow g cs) (some g) :=
  ⟨rfl, rfl, rfl, by simp [World.setRow], fun k _ hk => setRow_other w g k cs (fun e => hk (by rw [e]))⟩
theorem wpList_copyHead {w : World} {ops : Array Oper} {rest : List Oper} {o : Oper} {a : Act} {Q : Exit → Act → World → Prop} (hgd : o.guard = none) (d s : Operand) (dT sT : TypeId)
    (ho : o.op = .call { callee := .builtin .copy, args := #[d, s], argTypes := #[dT, sT] }) (elem k : TypeId) (hu : P.underlying dT = some (.slice elem)) (hsz : (P.info? elem).map (·.size) = some k)
    (B g n cap : Nat) (ad : Option Addr) (sCap : Nat) (hd : a.eval d = .slice (some ⟨g, 0, none⟩) n cap) (hs : a.eval s = .slice ad n sCap)
    (cur : Array Value) (hg : w.heap[g]? = some (.cells cur elem (0, 0))) (hB : B ≤ g) (hnc : n ≤ cap) (hcap : cap ≤ maxLen) (hcur : cur.size = cap * k) (cs : List Value) (hn : cs.length = n * k) (hnil : ad = none → n = 0 ∧ sCap = 0)
    (hsrc : ∀ ad', ad = some ad' → ∀ j v, cs[j]? = some v → w.cell? (ad'.add j) = some v) (h1 : ∀ v ∈ cs, v.oneCell' = true)
    (h : ∀ W : World, W.ownsRow B elem k (.slice (some ⟨g, 0, none⟩) n cap) n cs → w.grownBy W (some g) → W.heap.size = w.heap.size → wpList P ops Q rest (a.put o.dst (.int .i64 (n : Int))) W) : wpList P ops Q (o :: rest) a w := by
  have hmul : n * k ≤ cap * k := Nat.mul_le_mul_right k hnc
  cases ad with
  | none =>
    obtain ⟨rfl, rfl⟩ := hnil rfl
    refine wpList_copyNil hgd d s dT sT ho elem k hu hsz ⟨g, 0, none⟩ 0 cap hd hs ?_
    have hc : cs = [] := by simpa using hn
    subst hc
    have := h w (owns_of_row hB hg (by omega) hcap hcur (by simp)) ⟨rfl, rfl, rfl, Nat.le_refl _, fun _ _ _ => rfl⟩ rfl
    simpa [goInt] using this
  | some ad =>
    refine wpList_copyK hgd d s dT sT ho elem k hu hsz g 0 n cap n ad n sCap hd hs cur elem hg cs (Nat.min_self n).symm (by rw [hn, Nat.mul_comm]) (hsrc ad rfl) (by omega) h1 ?_
    refine h _ (owns_of_row hB (setRow_at hg) hnc hcap ?_ ?_) (grown_setRow _ _ _) (by simp [World.setRow])
    · simp only [List.size_toArray, List.length_append, List.length_take, List.length_drop, Array.length_toList, hn, hcur]; omega
    · simp only [List.take_zero, List.nil_append]
      rw [← hn]; simp
end Go.Proofs.LF
namespace Go.Proofs.LF
open Go.RowKit
structure Rd (α : Type) (k : Nat) where
  R : (Nat → Prop) → World → α → List Value → Prop
  len : ∀ {S w x cs}, R S w x cs → cs.length = k
  one : ∀ {S w x cs}, R S w x cs → ∀ u ∈ cs, u.oneCell' = true
  agree : ∀ {S w w' x cs}, R S w x cs → Agree S w w' → R S w' x cs
  wide : ∀ {S S' w x cs}, R S w x cs → (∀ b, S b → S' b) → R S' w x cs
variable {α : Type} {k : Nat} (r : Rd α k)
def LCs (S : Nat → Prop) (w : World) : List α → List Value → Prop
  | [], cs => cs = []
  | x :: xs, cs => ∃ c ds, cs = c ++ ds ∧ r.R S w x c ∧ LCs S w xs ds
def LSl (S : Nat → Prop) (w : World) (v : Value) (xs : List α) : Prop := ∃ cs, SlC S w k v xs.length cs ∧ LCs r S w xs cs
variable {r}
theorem LCs.agree {S : Nat → Prop} {w w' : World} (ha : Agree S w w') : ∀ {xs : List α} {cs : List Value}, LCs r S w xs cs → LCs r S w' xs cs
  | [], _, h => h
  | _ :: _, _, ⟨c, ds, h1, h2, h3⟩ => ⟨c, ds, h1, r.agree h2 ha, h3.agree ha⟩
theorem LCs.wide {S S' : Nat → Prop} {w : World} (hs : ∀ b, S b → S' b) : ∀ {xs : List α} {cs : List Value}, LCs r S w xs cs → LCs r S' w xs cs
  | [], _, h => h
  | _ :: _, _, ⟨c, ds, h1, h2, h3⟩ => ⟨c, ds, h1, r.wide h2 hs, h3.wide hs⟩
theorem LSl.agree {S : Nat → Prop} {w w' : World} {v : Value} {xs : List α} (h : LSl r S w v xs) (ha : Agree S w w') : LSl r S w' v xs := let ⟨cs, h1, h2⟩ := h; ⟨cs, h1.agree ha, h2.agree ha⟩
theorem LSl.wide {S S' : Nat → Prop} {w : World} {v : Value} {xs : List α} (h : LSl r S w v xs) (hs : ∀ b, S b → S' b) : LSl r S' w v xs := let ⟨cs, h1, h2⟩ := h; ⟨cs, h1.wide hs, h2.wide hs⟩
theorem Stable.lcs (xs : List α) (cs : List Value) : Stable (fun S w => LCs r S w xs cs) := ⟨fun h ha => h.agree ha, fun h hw => h.wide hw⟩
theorem Stable.lsl (v : Value) (xs : List α) : Stable (fun S w => LSl r S w v xs) := ⟨fun h ha => h.agree ha, fun h hw => h.wide hw⟩
theorem LCs.length {S : Nat → Prop} {w : World} : ∀ {xs : List α} {cs : List Value}, LCs r S w xs cs → cs.length = xs.length * k
  | [], _, h => by rw [show _ = [] from h]; simp
  | _ :: xs, _, ⟨c, ds, h1, h2, h3⟩ => by rw [h1, List.length_append, r.len h2, h3.length, List.length_cons, Nat.add_mul]; omega
theorem LCs.one {S : Nat → Prop} {w : World} : ∀ {xs : List α} {cs : List Value}, LCs r S w xs cs → ∀ u ∈ cs, u.oneCell' = true
  | [], _, h => by rw [show _ = [] from h]; simp
  | _ :: xs, _, ⟨c, ds, h1, h2, h3⟩ => by
    intro u hu
    rw [h1, List.mem_append] at hu
    rcases hu with hu | hu
    · exact r.one h2 u hu
    · exact h3.one u hu
theorem LCs.app {S : Nat → Prop} {w : World} : ∀ {xs ys : List α} {cs ds : List Value}, LCs r S w xs cs → LCs r S w ys ds → LCs r S w (xs ++ ys) (cs ++ ds)
  | [], _, _, _, h, h' => by rw [show _ = [] from h]; exact h'
  | _ :: _, _, _, _, ⟨c, es, h1, h2, h3⟩, h' => ⟨c, _, by rw [h1, List.append_assoc], h2, h3.app h'⟩
theorem LCs.single {S : Nat → Prop} {w : World} {x : α} {c : List Value} (h : r.R S w x c) : LCs r S w [x] c := ⟨c, [], by simp, h, rfl⟩
theorem LCs.drop {S : Nat → Prop} {w : World} : ∀ {i : Nat} {xs : List α} {cs : List Value}, LCs r S w xs cs → LCs r S w (xs.drop i) (cs.drop (i * k))
  | 0, _, _, h => by simpa using h
  | i + 1, [], _, h => by rw [show _ = [] from h]; simp [LCs]
  | i + 1, _ :: xs, _, ⟨c, ds, h1, h2, h3⟩ => by
    rw [h1, show (i + 1) * k = c.length + i * k from by rw [r.len h2, Nat.add_mul]; omega, List.drop_length_add_append]
    exact h3.drop (i := i)
theorem LCs.take {S : Nat → Prop} {w : World} : ∀ {i : Nat} {xs : List α} {cs : List Value}, LCs r S w xs cs → LCs r S w (xs.take i) (cs.take (i * k))
  | 0, _, _, h => by simp [LCs]
  | i + 1, [], _, h => by rw [show _ = [] from h]; simp [LCs]
  | i + 1, _ :: xs, _, ⟨c, ds, h1, h2, h3⟩ => by
    rw [h1, show (i + 1) * k = c.length + i * k from by rw [r.len h2, Nat.add_mul]; omega, List.take_length_add_append]
    exact ⟨c, _, rfl, h2, h3.take (i := i)⟩
theorem LSl.shape {S : Nat → Prop} {w : World} {v : Value} {xs : List α} (h : LSl r S w v xs) : ∃ a c, v = .slice a xs.length c ∧ xs.length ≤ c ∧ c ≤ maxLen := let ⟨_, h1, _⟩ := h; h1.shape
theorem LSl.at {S : Nat → Prop} {w : World} {v : Value} {xs : List α} (h : LSl r S w v xs) : ∃ a c, v = .slice a xs.length c ∧ xs.length ≤ c ∧ c ≤ maxLen ∧ ∀ i (hi : i < xs.length), ∃ g o cs, a = some ⟨g, o, none⟩ ∧ S g ∧ r.R S w xs[i] cs ∧
    ∀ j u, cs[j]? = some u → w.cell? ⟨g, o + (i * k + j), none⟩ = some u := by
  obtain ⟨ds, ⟨hl, a, c, rfl, hc, hm, _, hh⟩, hf⟩ := h
  refine ⟨a, c, rfl, hc, hm, fun i hi => ?_⟩
  rcases hh with h0 | ⟨g, o, rfl, hg1, hcell⟩
  · omega
  · have hf' := hf.drop (i := i)
    rw [List.drop_eq_getElem_cons hi] at hf'
    obtain ⟨cs, es, he, hr, _⟩ := hf'
    refine ⟨g, o, cs, rfl, hg1, hr, fun j u hj => hcell (i * k + j) u ?_⟩
    rw [← List.getElem?_drop, he, List.getElem?_append_left (List.getElem?_eq_some_iff.1 hj).1]
    exact hj
def Sx (S : Nat → Prop) (lo hi : Nat) (v : Value) (b : Nat) : Prop := S b ∨ Rx lo hi v b
structure Fl where
  p : List Ky
  l : List Int
  deriving DecidableEq
def rdFl : Rd Fl 2 where
  R S w x cs := ∃ ap cp an cn, cs = [.slice ap x.p.length cp, .slice an x.l.length cn] ∧ Pth S w (.slice ap x.p.length cp) x.p ∧ Ints S w (.slice an x.l.length cn) x.l
  len := by rintro S w x cs ⟨_, _, _, _, rfl, _⟩; rfl
  one := by rintro S w x cs ⟨_, _, _, _, rfl, _⟩ u hu; simp at hu; rcases hu with rfl | rfl <;> rfl
  agree := by rintro S w w' x cs ⟨a, b, c, d, rfl, h1, h2⟩ ha; exact ⟨a, b, c, d, rfl, h1.agree ha, h2.agree ha⟩
  wide := by rintro S w w' x cs ⟨a, b, c, d, rfl, h1, h2⟩ ha; exact ⟨a, b, c, d, rfl, h1.wide ha, h2.wide ha⟩
def rdPa : Rd (List Ky) 1 where
  R S w x cs := ∃ ap cp, cs = [.slice ap x.length cp] ∧ Pth S w (.slice ap x.length cp) x
  len := by rintro S w x cs ⟨_, _, rfl, _⟩; rfl
  one := by rintro S w x cs ⟨_, _, rfl, _⟩ u hu; simp at hu; rcases hu with rfl; rfl
  agree := by rintro S w w' x cs ⟨a, b, rfl, h1⟩ ha; exact ⟨a, b, rfl, h1.agree ha⟩
  wide := by rintro S w w' x cs ⟨a, b, rfl, h1⟩ ha; exact ⟨a, b, rfl, h1.wide ha⟩
structure Ch where
  p : List Ky
  had : Bool
  has : Bool
  old : List Int
  new : List Int
  deriving DecidableEq
def rdCh : Rd Ch 5 where
  R S w x cs := ∃ ap cp ao co an cn, cs = [.slice ap x.p.length cp, .bool x.had, .bool x.has, .slice ao x.old.length co, .slice an x.new.length cn] ∧ Pth S w (.slice ap x.p.length cp) x.p ∧ Ints S w (.slice ao x.old.length co) x.old ∧ Ints S w (.slice an x.new.length cn) x.new
  len := by rintro S w x cs ⟨_, _, _, _, _, _, rfl, _⟩; rfl
  one := by rintro S w x cs ⟨_, _, _, _, _, _, rfl, _⟩ u hu; simp at hu; rcases hu with rfl | rfl | rfl | rfl | rfl <;> rfl
  agree := by rintro S w w' x cs ⟨a, b, c, d, e, f, rfl, h1, h2, h3⟩ ha; exact ⟨a, b, c, d, e, f, rfl, h1.agree ha, h2.agree ha, h3.agree ha⟩
  wide := by rintro S w w' x cs ⟨a, b, c, d, e, f, rfl, h1, h2, h3⟩ ha; exact ⟨a, b, c, d, e, f, rfl, h1.wide ha, h2.wide ha, h3.wide ha⟩
abbrev FlSl := LSl rdFl
abbrev PaSl := LSl rdPa
abbrev ChSl := LSl rdCh
def cmpP : List Ky → List Ky → Int
  | [], [] => 0
  | [], _ :: _ => -1
  | _ :: _, [] => 1
  | a :: x, b :: y => if byK a b ≠ 0 then byK a b else cmpP x y
end Go.Proofs.LF
namespace Go.Proofs.LF
def wordsL (n : List UInt8) (l : List Int) : List (List UInt8) := n :: l.map Lib.itoa
def lineB (x : NdD) : List UInt8 := List.replicate x.up.length 32 ++ (Lib.join (wordsL x.n x.l) [32] ++ [10])
def txtL (xs : List NdD) : List UInt8 := (xs.map lineB).flatten
theorem txtL_one (xs : List NdD) (x : NdD) : txtL (xs ++ [x]) = txtL xs ++ lineB x := by simp [txtL]
def OkN (x : NdD) : Prop := badNm x.n = false ∧ x.l.length ≤ 4 ∧ badNs x.l = false
theorem ordG_ok {bad : Ky → Ky → Bool} : ∀ (y : Fo) (d : Int) (p : Option Ky) (up : List Ky), ordG bad d p y = 0 → ∀ x ∈ nodesL up y, OkN x
  | .nil, _, _, _, _, x, hx => by simp [nodesL] at hx
  | .cons n l s r, d, p, up, h, x, hx => by
    simp only [ordG] at h
    have a1 : ¬ (3 < d) := fun e => by rw [if_pos e] at h; omega
    rw [if_neg a1] at h
    have a2 : badNm n ≠ true := fun e => by rw [if_pos e] at h; omega
    rw [if_neg a2] at h
    have a3 : ¬ (4 < (l.length : Int)) := fun e => by rw [if_pos e] at h; omega
    rw [if_neg a3] at h
    have a4 : badNs l ≠ true := fun e => by rw [if_pos e] at h; omega
    rw [if_neg a4] at h
    have h : (if ordG bad (d + 1) none s ≠ 0 then ordG bad (d + 1) none s else ordG bad d (some (kyOf n l)) r) = 0 := by
      cases p with
      | none => dsimp only at h; rwa [if_neg (by simp)] at h
      | some q =>
        dsimp only at h
        have a5 : ¬ (bad q (kyOf n l) = true) := fun e => by rw [if_pos e] at h; omega
        rwa [if_neg a5] at h
    have a6 : ¬ (ordG bad (d + 1) none s ≠ 0) := fun e => by rw [if_pos e] at h; exact e h
    rw [if_neg a6] at h
    simp only [ne_eq, Decidable.not_not] at a6
    simp only [nodesL, List.mem_cons, List.mem_append] at hx
    rcases hx with rfl | hx | hx
    · exact ⟨by simpa using a2, by simp only; omega, by simpa using a4⟩
    · exact ordG_ok s _ _ _ a6 x hx
    · exact ordG_ok r _ _ _ h x hx
theorem badNs_mem {l : List Int} (h : badNs l = false) : ∀ x ∈ l, 0 ≤ x ∧ x ≤ 9999 := by
  intro x hx
  simp only [badNs, List.any_eq_false, offB, Bool.or_eq_true, decide_eq_true_eq, not_or] at h
  have := h x hx
  omega
theorem badNm_len {s : List UInt8} (h : badNm s = false) : 1 ≤ s.length ∧ s.length ≤ 8 := by
  simp only [badNm, Bool.or_eq_false_iff, decide_eq_false_iff_not] at h
  omega
theorem dig_len : ∀ (k u : Nat), u < 10 ^ (k + 1) → (Lib.decDigits u).length ≤ k + 1
  | 0, u, h => by rw [Lib.decDigits, dif_pos (by simpa using h)]; simp
  | k + 1, u, h => by
    rw [Lib.decDigits]
    split
    · simp
    · have := dig_len k (u / 10) (by rw [Nat.div_lt_iff_lt_mul (by omega)]; rw [Nat.pow_succ] at h; omega)
      simp; omega
theorem itoa_len {i : Int} (h : 0 ≤ i) (h2 : i ≤ 9999) : (Lib.itoa i).length ≤ 4 := by
  unfold Lib.itoa
  rw [if_neg (by omega)]
  exact dig_len 3 _ (by simp; omega)
theorem join_words (n : List UInt8) (l : List Int) : Lib.join (wordsL n l) [32] = n ++ (l.map fun i => 32 :: Lib.itoa i).flatten := by
  rw [wordsL, Lib.join_cons, Lib.joinTail, List.map_map]
  rfl
theorem flat_len {l : List Int} : (∀ x ∈ l, 0 ≤ x ∧ x ≤ 9999) → (l.map fun i => 32 :: Lib.itoa i).flatten.length ≤ 5 * l.length := by
  induction l with
  | nil => intro _; simp
  | cons x l ih =>
    intro h
    have h1 := itoa_len (h x (by simp)).1 (h x (by simp)).2
    have h2 := ih fun z hz => h z (by simp [hz])
    simp only [List.map_cons, List.flatten_cons, List.length_append, List.length_cons]
    omega
theorem line_len {x : NdD} (h : OkN x) (hu : x.up.length ≤ 900) : (lineB x).length ≤ 930 := by
  have h1 := badNm_len h.1
  have h2 := flat_len (badNs_mem h.2.2)
  have h3 := h.2.1
  simp only [lineB, join_words, List.length_append, List.length_replicate, List.length_singleton]
  omega
theorem nodesL_up : ∀ (y : Fo) (up : List Ky), ∀ x ∈ nodesL up y, x.up.length ≤ up.length + y.cnt
  | .nil, _, x, hx => by simp [nodesL] at hx
  | .cons n l s r, up, x, hx => by
    simp only [nodesL, List.mem_cons, List.mem_append] at hx
    rcases hx with rfl | hx | hx
    · simp only; omega
    · have := nodesL_up s _ x hx; simp [Fo.cnt] at *; omega
    · have := nodesL_up r _ x hx; simp [Fo.cnt] at *; omega
theorem txt_len : ∀ (xs : List NdD), (∀ x ∈ xs, OkN x ∧ x.up.length ≤ 900) → (txtL xs).length ≤ 930 * xs.length
  | [], _ => by simp [txtL]
  | x :: xs, h => by
    have h1 := line_len (h x (by simp)).1 (h x (by simp)).2
    have h2 := txt_len xs fun z hz => h z (by simp [hz])
    have : txtL (x :: xs) = lineB x ++ txtL xs := by simp [txtL]
    rw [this, List.length_append, List.length_cons]; omega
end Go.Proofs.LF
namespace Go.Proofs.LF
open Go.RowKit
variable {P : Program}
def SetM (P : Program) (k e : TypeId) (b n : Nat) (l : List (List UInt8)) (w : World) : Prop :=
  ∃ D : DataW Unit, w.ownsMap P k (plainElem P e) b n D ∧ ∀ s : List UInt8, D.atKey (.string s) (.lit (.bool false)) = .lit (.bool (decide (s ∈ l)))
theorem SetM.made (k e : TypeId) (w : World) : SetM P k e w.heap.size 0 [] (w.alloc (.map #[] 0)) :=
  ⟨_, World.ownsMap_made _ _ _ _, fun s => by simp [DataW.atKey]⟩
theorem SetM.kept {k e : TypeId} {b n : Nat} {l : List (List UInt8)} {w w' : World} (h : SetM P k e b n l w) (hb : w'.heap[b]? = w.heap[b]?) : SetM P k e b n l w' := by
  obtain ⟨D, ⟨es, clock, h1, h2⟩, h3⟩ := h
  exact ⟨D, ⟨es, clock, hb.trans h1, h2⟩, h3⟩
theorem SetM.lt {k e : TypeId} {b n : Nat} {l : List (List UInt8)} {w : World} (h : SetM P k e b n l w) : b < w.heap.size := let ⟨_, h1, _⟩ := h; h1.lt
theorem keyS {k : TypeId} (hk : P.underlying k = some .string) (s : List UInt8) (hs : s.length ≤ maxLen) : keyOf P k (.string (bs s)) = some (.string s) := by
  have := WideMaps.keyOf_string_mk hk (s := bs s) (by rw [bs_size]; exact hs)
  rwa [bs_data] at this
theorem SetM.look {t k e : TypeId} {b n : Nat} {l : List (List UInt8)} {w : World} (h : SetM P k e b n l w) (ht : P.underlying t = some (.map k e)) (hk : P.underlying k = some .string) (he : P.underlying e = some .bool) (hz : (zeroValue e).run P w = .ok (.bool false) w)
    (s : List UInt8) (hs : s.length ≤ maxLen) : (Instr.lookup t (.map (some b)) (.string (bs s)) false).run P w = .ok (.bool (decide (s ∈ l))) w := by
  obtain ⟨D, h1, h2⟩ := h
  obtain ⟨v, ps, hrun, hv⟩ := h1.lookup (Maps.string_keyed hk) ht hz (plainElem_bool he false) (keyS hk s hs)
  rw [h2 s] at hv
  unfold plainElem at hv
  rw [he] at hv
  cases v <;> simp at hv
  rw [hrun, hv.1]
theorem SetM.put {t k e : TypeId} {b n : Nat} {l : List (List UInt8)} {w : World} (h : SetM P k e b n l w) (ht : P.underlying t = some (.map k e)) (hk : P.underlying k = some .string) (he : P.underlying e = some .bool)
    (s : List UInt8) (hs : s.length ≤ maxLen) (hn : n < maxLen) : ∃ w', (Instr.mapUpdate t (.map (some b)) (.string (bs s)) (.bool true)).run P w = .ok () w' ∧ SetM P k e b (n + 1) (s :: l) w' ∧ w.grownBy w' (some b) := by
  obtain ⟨D, h1, h2⟩ := h
  obtain ⟨w', hrun, h3, h4⟩ := h1.update (Maps.string_keyed hk) ht hn (keyS hk s hs) (plainElem_bool he true)
  refine ⟨w', hrun, ⟨_, h3, fun s' => ?_⟩, h4⟩
  by_cases hss : s' = s
  · subst hss
    rw [Maps.atKey_put_same h1.isMap (by trivial)]
    simp
  · rw [Maps.atKey_put_other (by simpa using hss), h2 s']
    simp [hss]
theorem wpList_setLook {w : World} {ops : Array Oper} {rest : List Oper} {o : Oper} {a : Act} {Q : Exit → Act → World → Prop}
    (hg : o.guard = none) (m x : Operand) (t : TypeId) (hop : o.op = Op.lookup t m x false)
    (k e : TypeId) (ht : P.underlying t = some (.map k e)) (hk : P.underlying k = some .string) (he : P.underlying e = some .bool) (hz : (zeroValue e).run P w = .ok (.bool false) w) (b n : Nat) (l : List (List UInt8))
    (hm : a.eval m = .map (some b)) (h : SetM P k e b n l w) (s : List UInt8) (hs : s.length ≤ maxLen) (hx : a.eval x = .string (bs s))
    (hK : wpList P ops Q rest (a.put o.dst (.bool (decide (s ∈ l)))) w) : wpList P ops Q (o :: rest) a w := by
  refine wpList_plain hg fun K' hK' => ?_
  unfold Oper.wp
  simp [execOp, hop, hm, hx, h.look ht hk he hz s hs, Result.andThen]
  exact hK' _ _ (by simpa using hK)
theorem wp_setPut {w : World} {o : Oper} {a : Act} {K : Act → World → Prop} {Q : Exit → Act → World → Prop}
    (m x v : Operand) (t : TypeId) (hop : o.op = Op.mapUpdate t m x v)
    (k e : TypeId) (ht : P.underlying t = some (.map k e)) (hk : P.underlying k = some .string) (he : P.underlying e = some .bool) (b n : Nat) (l : List (List UInt8))
    (hm : a.eval m = .map (some b)) (h : SetM P k e b n l w) (hn : n < maxLen) (s : List UInt8) (hs : s.length ≤ maxLen) (hx : a.eval x = .string (bs s)) (hv : a.eval v = .bool true)
    (hK : ∀ w', SetM P k e b (n + 1) (s :: l) w' → w.grownBy w' (some b) → K (a.put o.dst undef) w') : o.wp P a w K Q := by
  obtain ⟨w', hrun, h1, h2⟩ := h.put ht hk he s hs hn
  unfold Oper.wp
  simp [execOp, hop, hm, hx, hv, hrun, Result.andThen]
  exact hK w' h1 h2
end Go.Proofs.LF
namespace Go.Proofs.LF
open Go.RowKit
theorem Fo.take_drop : ∀ (i : Nat) (y : Fo), (y.take i).app (y.drop i) = y
  | 0, _ => rfl
  | _ + 1, .nil => rfl
  | i + 1, .cons n l s r => by simp [Fo.take, Fo.drop, Fo.app, Fo.take_drop i r]
theorem Fo.len_drop : ∀ (i : Nat) (y : Fo), (y.drop i).len = y.len - i
  | 0, _ => rfl
  | _ + 1, .nil => by simp [Fo.drop, Fo.len]
  | i + 1, .cons n l s r => by simp only [Fo.drop, Fo.len, Fo.len_drop i r]; omega
theorem Fo.drop_one : ∀ (i : Nat) (y : Fo), (y.drop i).drop 1 = y.drop (i + 1)
  | 0, _ => rfl
  | _ + 1, .nil => rfl
  | i + 1, .cons _ _ _ r => Fo.drop_one i r
def Fo.setN (y : Fo) (i : Nat) (n : List UInt8) (l : List Int) (s : Fo) : Fo := (y.take i).app (.cons n l s (y.drop (i + 1)))
def Fo.insN (y : Fo) (i : Nat) (n : List UInt8) (l : List Int) (s : Fo) : Fo := (y.take i).app (.cons n l s (y.drop i))
theorem Fo.len_setN {i : Nat} {n : List UInt8} {l : List Int} {s y : Fo} (h : i < y.len) : (y.setN i n l s).len = y.len := by
  simp only [Fo.setN, Fo.len_app, Fo.len_take (Nat.le_of_lt h), Fo.len, Fo.len_drop]; omega
theorem Fo.len_insN {i : Nat} {n : List UInt8} {l : List Int} {s y : Fo} (h : i ≤ y.len) : (y.insN i n l s).len = y.len + 1 := by
  simp only [Fo.insN, Fo.len_app, Fo.len_take h, Fo.len, Fo.len_drop]; omega
theorem FOCs.length {E : TypeId} {S : Nat → Prop} {w : World} {y : Fo} {cs : List Value} (h : FOCs E S w y cs) : cs.length = y.len * 3 := h.fcs.length
theorem FOCs.split {E : TypeId} {w : World} : ∀ {i : Nat} {y : Fo} {S : Nat → Prop} {cs : List Value}, FOCs E S w y cs → ∃ Sa Sb : Nat → Prop, (∀ b, Sa b → S b) ∧ (∀ b, Sb b → S b) ∧ (∀ b, Sa b → ¬ Sb b) ∧
    FOCs E Sa w (y.take i) (cs.take (i * 3)) ∧ FOCs E Sb w (y.drop i) (cs.drop (i * 3))
  | 0, y, S, cs, h => ⟨fun _ => False, S, fun _ h => h.elim, fun _ h => h, fun _ h => h.elim, by simp [Fo.take, FOCs], by simpa [Fo.drop] using h⟩
  | i + 1, .nil, S, cs, h => ⟨fun _ => False, S, fun _ h => h.elim, fun _ h => h, fun _ h => h.elim, by rw [show cs = [] from h]; simp [Fo.take, FOCs], by rw [show cs = [] from h]; simp [Fo.drop, FOCs]⟩
  | i + 1, .cons n l s r, S, cs, ⟨vn, vs, cs', S1, S2, S3, h1, hs, d1, d2, d3, h2, h3, h6⟩ => by
    obtain ⟨Sa, Sb, ha, hb, hd, hfa, hfb⟩ := h6.split (i := i)
    refine ⟨fun b => S1 b ∨ S2 b ∨ Sa b, Sb, fun b hb => ?_, fun b h => hs b (.inr (.inr (hb b h))), fun b h h' => ?_, ?_, ?_⟩
    · rcases hb with h | h | h
      · exact hs b (.inl h)
      · exact hs b (.inr (.inl h))
      · exact hs b (.inr (.inr (ha b h)))
    · rcases h with h | h | h
      · exact d2 b h (hb b h')
      · exact d3 b h (hb b h')
      · exact hd b h h'
    · rw [h1, show (i + 1) * 3 = i * 3 + 1 + 1 + 1 from by omega]
      exact ⟨vn, vs, _, S1, S2, Sa, rfl, fun _ h => h, d1, fun b h h' => d2 b h (ha b h'), fun b h h' => d3 b h (ha b h'), h2, h3, hfa⟩
    · rw [h1, show (i + 1) * 3 = i * 3 + 1 + 1 + 1 from by omega]
      exact hfb
theorem FOCs.cons {E : TypeId} {Sn S : Nat → Prop} {w : World} {n : List UInt8} {l : List Int} {s r : Fo} {cs ds : List Value} (h : FOCs E Sn w (.cons n l s .nil) cs) (h' : FOCs E S w r ds) (hd : ∀ b, Sn b → ¬ S b) : FOCs E (fun b => Sn b ∨ S b) w (.cons n l s r) (cs ++ ds) := FOCs.app h h' hd
theorem FOCs.ins {E : TypeId} {S Sn : Nat → Prop} {w : World} {y s : Fo} {i : Nat} {n : List UInt8} {l : List Int} {cs ds : List Value} (h : FOCs E S w y cs) (hn : FOCs E Sn w (.cons n l s .nil) ds) (hd : ∀ b, S b → ¬ Sn b) :
    FOCs E (fun b => S b ∨ Sn b) w (y.insN i n l s) (cs.take (i * 3) ++ (ds ++ cs.drop (i * 3))) := by
  obtain ⟨Sa, Sb, ha, hb, hab, hfa, hfb⟩ := h.split (i := i)
  refine (FOCs.app hfa (FOCs.cons hn hfb (fun b h1 h2 => hd b (hb b h2) h1)) (fun b h1 h2 => h2.elim (fun h2 => hd b (ha b h1) h2) (hab b h1))).wide ?_
  rintro b (h | h | h)
  · exact .inl (ha b h)
  · exact .inr h
  · exact .inl (hb b h)
theorem FOCs.set {E : TypeId} {S Sn : Nat → Prop} {w : World} {y s : Fo} {i : Nat} {n : List UInt8} {l : List Int} {cs ds : List Value} (h : FOCs E S w y cs) (hn : FOCs E Sn w (.cons n l s .nil) ds) (hd : ∀ b, S b → ¬ Sn b) :
    FOCs E (fun b => S b ∨ Sn b) w (y.setN i n l s) (cs.take (i * 3) ++ (ds ++ cs.drop ((i + 1) * 3))) := by
  obtain ⟨Sa, Sb, ha, hb, hab, hfa, hfb⟩ := h.split (i := i)
  have e1 : (cs.drop (i * 3)).drop (1 * 3) = cs.drop ((i + 1) * 3) := by rw [List.drop_drop]; congr 1; omega
  have e2 : (y.drop i).drop 1 = y.drop (i + 1) := Fo.drop_one i y
  obtain ⟨Sc, Sd, hc, hd', hcd, _, hfd⟩ := hfb.split (i := 1)
  rw [e1, e2] at hfd
  refine (FOCs.app hfa (FOCs.cons hn hfd (fun b h1 h2 => hd b (hb b (hd' b h2)) h1)) (fun b h1 h2 => h2.elim (fun h2 => hd b (ha b h1) h2) (fun h2 => hab b h1 (hd' b h2)))).wide ?_
  rintro b (h | h | h)
  · exact .inl (ha b h)
  · exact .inr h
  · exact .inl (hb b (hd' b h))
theorem FOCs.hole {E : TypeId} {w : World} : ∀ {i : Nat} {y s r : Fo} {n : List UInt8} {l : List Int} {S : Nat → Prop} {cs : List Value}, FOCs E S w y cs → y.drop i = .cons n l s r → ∃ (vn vs : Value) (T : Nat → Prop), cs[i * 3]? = some (.string (bs n)) ∧ cs[i * 3 + 1]? = some vn ∧ cs[i * 3 + 2]? = some vs ∧ (∀ b, T b → S b) ∧ Ints (fun b => S b ∧ ¬ T b) w vn l ∧ FOw E T w vs s ∧
    ∀ (w' : World) (vs' : Value) (s' : Fo) (T' : Nat → Prop), Agree (fun b => S b ∧ ¬ T b) w w' → FOw E T' w' vs' s' → (∀ b, T' b → S b → T b) → FOCs E (fun b => S b ∨ T' b) w' (y.setN i n l s') (cs.set (i * 3 + 2) vs')
  | 0, .cons n l s r, s0, r0, n0, l0, S, cs, ⟨vn, vs, cs', S1, S2, S3, h1, hs, d1, d2, d3, h2, h3, h6⟩, hd => by
    simp only [Fo.drop, Fo.cons.injEq] at hd
    obtain ⟨rfl, rfl, rfl, rfl⟩ := hd
    refine ⟨vn, vs, S2, by rw [h1]; rfl, by rw [h1]; rfl, by rw [h1]; rfl, fun b h => hs b (.inr (.inl h)), h2.wide (fun b h => ⟨hs b (.inl h), d1 b h⟩), h3, fun w' vs' s' T' ha hF hT => ?_⟩
    rw [h1]
    refine ⟨vn, vs', cs', S1, T', S3, rfl, fun b h => ?_, fun b h h' => d1 b h (hT b h' (hs b (.inl h))), d2, fun b h h' => d3 b (hT b h (hs b (.inr (.inr h')))) h', h2.agree (fun b h => ha b ⟨hs b (.inl h), d1 b h⟩), hF, ?_⟩
    · rcases h with h | h | h
      · exact .inl (hs b (.inl h))
      · exact .inr h
      · exact .inl (hs b (.inr (.inr h)))
    · exact h6.agree (fun b h => ha b ⟨hs b (.inr (.inr h)), fun h' => d3 b h' h⟩)
  | i + 1, .cons n l s r, s0, r0, n0, l0, S, cs, ⟨vn, vs, cs', S1, S2, S3, h1, hs, d1, d2, d3, h2, h3, h6⟩, hd => by
    obtain ⟨vn', vs', T, g0, g1, g2, hT, hI, hF, hk⟩ := h6.hole (i := i) hd
    refine ⟨vn', vs', T, ?_, ?_, ?_, fun b h => hs b (.inr (.inr (hT b h))), hI.wide (fun b h => ⟨hs b (.inr (.inr h.1)), h.2⟩), hF, fun w' vs'' s' T' ha hF' hT' => ?_⟩
    · rw [h1, show (i + 1) * 3 = i * 3 + 1 + 1 + 1 from by omega]; exact g0
    · rw [h1, show (i + 1) * 3 + 1 = i * 3 + 1 + 1 + 1 + 1 from by omega]; exact g1
    · rw [h1, show (i + 1) * 3 + 2 = i * 3 + 2 + 1 + 1 + 1 from by omega]; exact g2
    · have hnT : ∀ b, T' b → ¬ S1 b ∧ ¬ S2 b := fun b h => ⟨fun h' => d2 b h' (hT b (hT' b h (hs b (.inl h')))), fun h' => d3 b h' (hT b (hT' b h (hs b (.inr (.inl h')))))⟩
      have hk' := hk w' vs'' s' T' (fun b h => ha b ⟨hs b (.inr (.inr h.1)), h.2⟩) hF' (fun b h h' => hT' b h (hs b (.inr (.inr h'))))
      rw [h1, show (i + 1) * 3 + 2 = i * 3 + 2 + 1 + 1 + 1 from by omega]
      refine ⟨vn, vs, _, S1, S2, fun b => S3 b ∨ T' b, rfl, fun b h => ?_, d1, fun b h h' => h'.elim (d2 b h) (fun h' => (hnT b h').1 h), fun b h h' => h'.elim (d3 b h) (fun h' => (hnT b h').2 h), h2.agree (fun b h => ha b ⟨hs b (.inl h), fun h' => d2 b h (hT b h')⟩), ?_, hk'⟩
      · rcases h with h | h | h | h
        · exact .inl (hs b (.inl h))
        · exact .inl (hs b (.inr (.inl h)))
        · exact .inl (hs b (.inr (.inr h)))
        · exact .inr h
      · exact FOw.agree (S := S2) h3 (fun b h => ha b ⟨hs b (.inr (.inl h)), fun h' => d3 b h (hT b h')⟩)
end Go.Proofs.LF
namespace Go.Proofs.LF
open Go.RowKit
def FNCs : (Nat → Prop) → World → Fo → List Value → Prop
  | _, _, .nil, cs => cs = []
  | S, w, .cons n l s r, cs => ∃ (vn vs : Value) (cs' : List Value) (S1 S2 S3 : Nat → Prop), cs = .string (bs n) :: vn :: vs :: cs' ∧
      (∀ b, S1 b ∨ S2 b ∨ S3 b → S b) ∧ (∀ b, S1 b → ¬ S2 b) ∧ (∀ b, S1 b → ¬ S3 b) ∧ (∀ b, S2 b → ¬ S3 b) ∧ w.ownsRow 0 3 1 vn l.length (l.map (Value.int .i64)) ∧ (∀ g, vn.ownBlock = some g → S1 g) ∧
      FSl S2 w vs s ∧ FNCs S3 w r cs'
theorem FNCs.agree {w w' : World} : ∀ {y : Fo} {S : Nat → Prop} {cs : List Value}, FNCs S w y cs → Agree S w w' → FNCs S w' y cs
  | .nil, _, _, h, _ => h
  | .cons n l s r, S, cs, ⟨vn, vs, cs', S1, S2, S3, h1, hs, d1, d2, d3, h2, h3, h4, h6⟩, ha =>
    ⟨vn, vs, cs', S1, S2, S3, h1, hs, d1, d2, d3, owns_agree h2 (fun g hg => ha g (hs g (.inl (h3 g hg)))), h3, h4.agree (fun b hb => ha b (hs b (.inr (.inl hb)))), h6.agree (fun b hb => ha b (hs b (.inr (.inr hb))))⟩
theorem FNCs.wide {w : World} : ∀ {y : Fo} {S S' : Nat → Prop} {cs : List Value}, FNCs S w y cs → (∀ b, S b → S' b) → FNCs S' w y cs
  | .nil, _, _, _, h, _ => h
  | .cons n l s r, S, S', cs, ⟨vn, vs, cs', S1, S2, S3, h1, hs, d1, d2, d3, h2, h3, h4, h6⟩, hw =>
    ⟨vn, vs, cs', S1, S2, S3, h1, fun b hb => hw b (hs b hb), d1, d2, d3, h2, h3, h4, h6⟩
theorem FNCs.app {w : World} : ∀ {y z : Fo} {S S' : Nat → Prop} {cs ds : List Value}, FNCs S w y cs → FNCs S' w z ds → (∀ b, S b → ¬ S' b) → FNCs (fun b => S b ∨ S' b) w (y.app z) (cs ++ ds)
  | .nil, z, _, _, _, _, h, h', _ => by rw [show _ = [] from h]; exact h'.wide (fun b hb => .inr hb)
  | .cons n l s r, z, S, S', cs, ds, ⟨vn, vs, cs', S1, S2, S3, h1, hs, d1, d2, d3, h2, h3, h4, h6⟩, h', hd =>
    ⟨vn, vs, cs' ++ ds, S1, S2, fun b => S3 b ∨ S' b, by rw [h1]; rfl, fun b hb => by
      rcases hb with hb | hb | hb | hb
      · exact .inl (hs b (.inl hb))
      · exact .inl (hs b (.inr (.inl hb)))
      · exact .inl (hs b (.inr (.inr hb)))
      · exact .inr hb,
      d1, fun b hb h => h.elim (d2 b hb) (hd b (hs b (.inl hb))), fun b hb h => h.elim (d3 b hb) (hd b (hs b (.inr (.inl hb)))), h2, h3, h4,
      h6.app h' (fun b hb => hd b (hs b (.inr (.inr hb))))⟩
theorem FNCs.one {S1 S2 : Nat → Prop} {w : World} {n : List UInt8} {l : List Int} {s : Fo} {vn vs : Value} (h1 : w.ownsRow 0 3 1 vn l.length (l.map (Value.int .i64))) (h2 : ∀ g, vn.ownBlock = some g → S1 g) (h3 : FSl S2 w vs s) (hd : ∀ b, S1 b → ¬ S2 b) : FNCs (fun b => S1 b ∨ S2 b) w (.cons n l s .nil) [.string (bs n), vn, vs] :=
  ⟨vn, vs, [], S1, S2, fun _ => False, rfl, fun b hb => by rcases hb with hb | hb | hb; exact .inl hb; exact .inr hb; exact hb.elim, hd, fun _ _ h => h, fun _ _ h => h, h1, h2, h3, rfl⟩
end Go.Proofs.LF
