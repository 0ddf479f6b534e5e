/- Parts of the proof of a law of layer 11 (file): LfChg, LfHeld2, LfW40, LfTwo. The conditions stand in each theorem. -/
import Derived.BigQuiet
import Derived.Deep.AppendLies
import Derived.Deep.QuietTactic
import Derived.Deep.RegionHeld3
import Derived.Laws.Externs
import Derived.Laws.ResultCell
import Derived.Lib.AppendZeros
import Derived.Lib.AppendZerosOnto
import Derived.Lib.ItoaNum
import Derived.Lib.Overlaps
import Derived.Lib.Walk
import Derived.Outline
import Derived.Test.YtadkpjgpefcphaaGreatDoorProg
import Derived.WalkKit
import Derived.WalkLawsBesides
import Derived.WalkSpells
import Derived.Test.YtadkpjgpefcphaaGreatDoorMdac
import Derived.Test.YtadkpjgpefcphaaGreatDoorMdae
import Derived.Test.YtadkpjgpefcphaaGreatDoorMdaf
set_option linter.all false
set_option linter.unusedVariables false
set_option linter.unusedSimpArgs false
namespace Go.Proofs.LF
def bsG (lt : Nat → Bool) : Nat → Nat → Nat → Nat
  | 0, i, _ => i
  | f + 1, i, j => if i < j then (if lt ((i + j) / 2) then bsG lt f ((i + j) / 2 + 1) j else bsG lt f i ((i + j) / 2)) else i
theorem bsG_fuel (lt : Nat → Bool) : ∀ (f i j : Nat), j - i ≤ f → bsG lt f i j = bsG lt (j - i) i j
  | 0, i, j, h => by rw [show j - i = 0 by omega]
  | f + 1, i, j, h => by
    by_cases hij : i < j
    · obtain ⟨d, hd⟩ : ∃ d, j - i = d + 1 := ⟨j - i - 1, by omega⟩
      rw [hd]
      simp only [bsG, hij, if_true]
      split
      · rw [bsG_fuel lt f _ _ (by omega), bsG_fuel lt d _ _ (by omega)]
      · rw [bsG_fuel lt f _ _ (by omega), bsG_fuel lt d _ _ (by omega)]
    · rw [show j - i = 0 by omega]
      simp [bsG, hij]
def bsF (lt : Nat → Bool) (i j : Nat) : Nat := bsG lt (j - i) i j
theorem bsF_stop {lt : Nat → Bool} {i j : Nat} (h : ¬ i < j) : bsF lt i j = i := by
  unfold bsF; rw [show j - i = 0 by omega]; rfl
theorem bsF_go {lt : Nat → Bool} {i j : Nat} (h : i < j) : bsF lt i j = if lt ((i + j) / 2) then bsF lt ((i + j) / 2 + 1) j else bsF lt i ((i + j) / 2) := by
  unfold bsF
  obtain ⟨d, hd⟩ : ∃ d, j - i = d + 1 := ⟨j - i - 1, by omega⟩
  rw [hd]
  simp only [bsG, h, if_true]
  rw [bsG_fuel lt d _ _ (by omega), bsG_fuel lt d _ _ (by omega)]
theorem bsF_le {lt : Nat → Bool} : ∀ (n i j : Nat), j - i ≤ n → i ≤ j → i ≤ bsF lt i j ∧ bsF lt i j ≤ j
  | 0, i, j, h, h2 => by rw [bsF_stop (by omega)]; omega
  | n + 1, i, j, h, h2 => by
    by_cases hij : i < j
    · rw [bsF_go hij]
      split
      · have := bsF_le (lt := lt) n ((i + j) / 2 + 1) j (by omega) (by omega); omega
      · have := bsF_le (lt := lt) n i ((i + j) / 2) (by omega) (by omega); omega
    · rw [bsF_stop hij]; omega
def fl0 : Fl := ⟨[], []⟩
def fndI (l : List Fl) (p : List Ky) : Nat := bsF (fun h => decide (cmpP (l.getD h fl0).p p < 0)) 0 l.length
def fnd (l : List Fl) (p : List Ky) : Option Fl := match l[fndI l p]? with | some x => if cmpP x.p p = 0 then some x else none | none => none
def smF (a b : List Fl) (p : List Ky) : Bool := match fnd a p, fnd b p with | some x, some y => decide (x.l = y.l) | none, none => true | _, _ => false
def sptK (k : Ky) : List UInt8 := 47 :: k.n ++ (if k.h then 58 :: Lib.itoa k.x else if k.x ≠ 0 then 63 :: Lib.itoa k.x else [])
def sptL (p : List Ky) : List UInt8 := (p.map sptK).flatten
def ddP : List (List Ky) → List (List Ky) → List (List Ky)
  | acc, [] => acc
  | acc, p :: r => if sptL p ∈ acc.map sptL then ddP acc r else ddP (acc ++ [p]) r
def insP (p : List Ky) : List (List Ky) → List (List Ky)
  | [] => [p]
  | q :: r => if cmpP q p < 0 then q :: insP p r else p :: q :: r
def srtP : List (List Ky) → List (List Ky)
  | [] => []
  | p :: r => insP p (srtP r)
def pthsF (l : List (List Fl)) : List (List Ky) := srtP (ddP [] (l.flatten.map Fl.p))
def chD (a b : List Fl) (p : List Ky) : Option Ch :=
  if smF a b p then none else some ⟨p, (fnd a p).isSome, (fnd b p).isSome, ((fnd a p).getD fl0).l, ((fnd b p).getD fl0).l⟩
def dfF (a b : List Fl) : List Ch := (pthsF [a, b]).filterMap (chD a b)
def lsF : List Fl → List (List Ky) → List Fl → List Fl × List (List Ky)
  | kept, out, [] => (kept, out)
  | kept, out, f :: r => if (fnd kept f.p.dropLast).isSome ∨ f.p.length = 1 then lsF (kept ++ [f]) out r else lsF kept (out ++ [f.p]) r
def jnF (o a b : List Fl) : List Fl → List (List Ky) → List (List Ky) → List Fl × List (List Ky)
  | all, con, [] => (all, con)
  | all, con, p :: r =>
    let st := if smF a b p ∨ smF o b p then (a, con) else if smF o a p then (b, con) else (o, con ++ [p])
    jnF o a b (match fnd st.1 p with | some f => all ++ [f] | none => all) st.2 r
def cnF (con : List (List Ky)) : List (List Ky) → List (List Ky)
  | [] => con
  | p :: r => cnF (if con.any (fun q => decide (cmpP q p = 0)) then con else con ++ [p]) r
def joF (o a b : Fo) : List Fl × List (List Ky) :=
  let l := [flsL [] o, flsL [] a, flsL [] b]
  let j := jnF (flsL [] o) (flsL [] a) (flsL [] b) [] [] (pthsF l)
  let k := lsF [] [] j.1
  (k.1, srtP (cnF j.2 k.2))
theorem insP_perm (p : List Ky) : ∀ l, (insP p l).Perm (p :: l)
  | [] => List.Perm.refl _
  | q :: r => by
    simp only [insP]
    split
    · exact ((insP_perm p r).cons q).trans (List.Perm.swap _ _ _)
    · exact List.Perm.refl _
theorem srtP_perm : ∀ l, (srtP l).Perm l
  | [] => List.Perm.refl _
  | p :: r => (insP_perm p _).trans ((srtP_perm r).cons p)
theorem insP_sorted (p : List Ky) : ∀ l : List (List Ky), l.Pairwise (fun a b => cmpP a b ≤ 0) → (insP p l).Pairwise (fun a b => cmpP a b ≤ 0)
  | [], _ => by simp [insP]
  | q :: r, h => by
    obtain ⟨h1, h2⟩ := List.pairwise_cons.1 h
    simp only [insP]
    split
    · rename_i hq
      refine List.pairwise_cons.2 ⟨fun x hx => ?_, insP_sorted p r h2⟩
      rcases List.mem_cons.1 ((insP_perm p r).mem_iff.1 hx) with rfl | hx
      · omega
      · exact h1 x hx
    · rename_i hq
      have hpq : cmpP p q ≤ 0 := by
        rcases Int.lt_trichotomy (cmpP p q) 0 with h' | h' | h'
        · omega
        · omega
        · exact absurd (cmpP_ord.flop h') hq
      refine List.pairwise_cons.2 ⟨fun x hx => ?_, h⟩
      rcases List.mem_cons.1 hx with rfl | hx
      · exact hpq
      · have := h1 x hx
        rcases Int.lt_or_eq_of_le hpq with a | a
        · rcases Int.lt_or_eq_of_le this with b | b
          · exact Int.le_of_lt (cmpP_ord.trans a b)
          · rw [← cmpP_ord.eq b]; omega
        · rw [cmpP_ord.eq a]; exact this
theorem srtP_sorted : ∀ l, (srtP l).Pairwise (fun a b => cmpP a b ≤ 0)
  | [] => List.Pairwise.nil
  | p :: r => insP_sorted p _ (srtP_sorted r)
theorem srtP_of {l l' : List (List Ky)} (hp : l'.Perm l) (hs : l'.Pairwise (fun a b => cmpP a b ≤ 0)) : l' = srtP l :=
  List.Perm.eq_of_pairwise (le := fun a b => cmpP a b ≤ 0) (fun a b _ _ h k => by
    rcases Int.lt_or_eq_of_le h with h | h
    · have := cmpP_ord.flip h; omega
    · exact cmpP_ord.eq h) hs (srtP_sorted l) (hp.trans (srtP_perm l).symm)
end Go.Proofs.LF
namespace Go.Proofs.LF
open Go.RowKit
section
variable {F : Fence} {n : Nat} {P : Program} {ops : Array Oper} {Q : Exit → Act → World → Prop} {md : Region.Mode} {S : World → Prop} {L : Nat}
def AnyT (F : Fence) (n : Nat) (P : Program) (md : Region.Mode) (ops : Array Oper) (Q : Exit → Act → World → Prop) (S : World → Prop) (L : Nat) : Nat → Array Bool → Act → World → Prop
  | 0, listed, a, w => Region.ready md ops listed = [] ∧ Q .normal a w
  | fuel + 1, listed, a, w =>
    (Region.ready md ops listed = [] → Q .normal a w) ∧
    ∀ i ∈ Region.ready md ops listed, wpOpIn F n P ops Q i (fun a' w' => if i = L then wpAnyIn F n P md ops Q fuel (listed.setIfInBounds i true) a' w' else S w' ∧ AnyT F n P md ops Q S L fuel (listed.setIfInBounds i true) a' w') a w
theorem any_of_T : ∀ (fuel : Nat) (listed : Array Bool) (a : Act) (w : World), AnyT F n P md ops Q S L fuel listed a w → wpAnyIn F n P md ops Q fuel listed a w
  | 0, _, _, _, h => h
  | fuel + 1, _, _, _, h => ⟨h.1, fun i hi => wpOpIn_mono (fun a' w' h' => by
      split at h'
      · exact h'
      · exact any_of_T fuel _ a' w' h'.2) (h.2 i hi)⟩
theorem AnyT_first (hF : ∀ f, F.fn f) (hnd : ops.all notDefer = true) {i : Nat} {oi : Oper} {v : Value} (hi : ops[i]? = some oi) (hsel : ∀ (j : Nat) (o : Oper) cs b, ops[j]? = some o → o.op ≠ .select cs b)
    (hQ : ∀ c a w, Q (.panic c) (a.put oi.dst v) w → Q (.panic c) a w) (hiL : i ≠ L) (hL : ∀ (listed : Array Bool), i ∈ Region.ready md ops listed → L ∉ Region.ready md ops listed) :
    ∀ (fuel : Nat) (listed : Array Bool) (a : Act) (w : World),
      (∀ j oj, ops[j]? = some oj → j ≠ i → listed.getD j true = false → (∀ e ∈ oj.after, Region.binds md e = true → e.on ≠ i) → oi.apart ops oj = true) →
      i ∈ Region.ready md ops listed → YIf P ops S oi v a → S w →
      AnyT F n P md ops Q S L fuel (listed.setIfInBounds i true) (a.put oi.dst v) w → AnyT F n P md ops Q S L (fuel + 1) listed a w := by
  have hno : ∀ j o, ops[j]? = some o → notDefer o = true := fun j o h => by
    rw [Array.all_eq_true] at hnd
    obtain ⟨hj, rfl⟩ := Array.getElem?_eq_some_iff.1 h
    exact hnd j hj
  intro fuel
  induction fuel with
  | zero =>
    intro listed a w _ hr hy hS H
    refine ⟨fun h => (by rw [h] at hr; cases hr), fun j hj => ?_⟩
    by_cases hji : j = i
    · subst hji; exact hy.wpOp hF hi (hno _ _ hi) hS (by rw [if_neg hiL]; exact ⟨hS, H⟩)
    · have := ready_mono hj hji
      rw [H.1] at this
      cases this
  | succ fuel ih =>
    intro listed a w hfree hr hy hS H
    refine ⟨fun h => (by rw [h] at hr; cases hr), fun j hj => ?_⟩
    by_cases hji : j = i
    · subst hji; exact hy.wpOp hF hi (hno _ _ hi) hS (by rw [if_neg hiL]; exact ⟨hS, H⟩)
    · have hjL : j ≠ L := fun e => hL listed hr (e ▸ hj)
      have h1 := H.2 j (ready_mono hj hji)
      simp only [if_neg hjL] at h1 ⊢
      obtain ⟨hjun, oj, hoj, hall⟩ := mem_ready.1 hj
      have hnot : ∀ e ∈ oj.after, Region.binds md e = true → e.on ≠ i := fun e he hb heq => by
        have h1 := hall e he hb
        have h0 := (mem_ready.1 hr).1
        rw [heq] at h1
        rcases Nat.lt_or_ge i listed.size with h' | h'
        · simp [h'] at h0 h1; rw [h0] at h1; cases h1
        · simp [Array.getElem?_eq_none h'] at h1
      have h2 := wpOpIn_putIf hoj (hno _ _ hoj) (hfree j oj hoj hji hjun hnot) (fun cs b => hsel i oi cs b hi) (fun cs b => hsel j oj cs b hoj) hQ hy h1
      have hfree' : ∀ k ok, ops[k]? = some ok → k ≠ i → (listed.setIfInBounds j true).getD k true = false →
          (∀ e ∈ ok.after, Region.binds md e = true → e.on ≠ i) → oi.apart ops ok = true := fun k ok hk hki hun hno => by
        refine hfree k ok hk hki ?_ hno
        by_cases hjk : j = k
        · subst hjk; exact hjun
        · rw [getD_set_ne true hjk] at hun; exact hun
      refine wpOpIn_mono (fun a' w' h3 => ⟨h3.2.1, ih (listed.setIfInBounds j true) a' w' hfree' (ready_mono hr (Ne.symm hji)) h3.1 h3.2.1 ?_⟩) h2
      rw [Array.setIfInBounds_comm _ _ hji]
      exact h3.2.2
def waits (md : Region.Mode) (ops : Array Oper) (L i : Nat) : Bool := match ops[L]? with | some o => o.after.any (fun e => Region.binds md e && e.on == i) | none => true
theorem waits_spec {i : Nat} (h : waits md ops L i = true) (listed : Array Bool) (hr : i ∈ Region.ready md ops listed) : L ∉ Region.ready md ops listed := fun hl => by
  obtain ⟨_, o, ho, hall⟩ := mem_ready.1 hl
  unfold waits at h
  rw [ho] at h
  simp only [Array.any_eq_true, Bool.and_eq_true, beq_iff_eq] at h
  obtain ⟨k, hk, hb, he⟩ := h
  have h1 := hall _ (Array.getElem_mem hk) hb
  have h0 := (mem_ready.1 hr).1
  rw [he] at h1
  rcases Nat.lt_or_ge i listed.size with h' | h'
  · simp [h'] at h0 h1; rw [h0] at h1; cases h1
  · simp [Array.getElem?_eq_none h'] at h1
theorem AnyT_takeD (hF : ∀ f, F.fn f) (hnd : ops.all notDefer = true) (i t : Nat) (v : Value) {oi : Oper} {fuel : Nat} {listed : Array Bool} {a : Act} {w : World} (hi : ops[i]? = some oi) (hd : oi.dst = some t)
    (hs : Region.noSelect ops = true) (hf : Region.free md ops listed i = true) (hr : (Region.ready md ops listed).contains i = true) (hiL : i ≠ L) (hw : waits md ops L i = true)
    (hQ : ∀ c a w, Q (.panic c) (a.put (some t) v) w → Q (.panic c) a w) (hy : YIf P ops S oi v a) (hS : S w)
    (h : AnyT F n P md ops Q S L fuel (listed.setIfInBounds i true) (a.put (some t) v) w) : AnyT F n P md ops Q S L (fuel + 1) listed a w :=
  AnyT_first hF hnd hi (Region.noSelect_spec hs) (by rw [hd]; exact hQ) hiL (waits_spec hw) fuel listed a w (Region.free_spec hi hf) (by simpa using hr) hy hS (by rw [hd]; exact h)
theorem AnyT_one {i : Nat} {o : Oper} {fuel : Nat} {listed : Array Bool} {a : Act} {w : World} (hr : Region.ready md ops listed = [i]) (ho : ops[i]? = some o) (hw : Region.wanted o (yielded ops a.tmps) = true) (hiL : i ≠ L)
    (h : ∀ K : Act → World → Prop, (∀ a w, S w ∧ AnyT F n P md ops Q S L fuel (listed.setIfInBounds i true) a w → K a w) → Oper.wpIn F n P o a w K Q) : AnyT F n P md ops Q S L (fuel + 1) listed a w :=
  ⟨fun h0 => (by rw [hr] at h0; cases h0), hr ▸ fun j hj => by
    obtain rfl : j = i := by simpa using hj
    unfold wpOpIn
    rw [ho]
    simp only [hw, if_true, if_neg hiL]
    exact h _ fun _ _ h => h⟩
theorem AnyT_last {o : Oper} {fuel : Nat} {listed : Array Bool} {a : Act} {w : World} (hr : Region.ready md ops listed = [L]) (ho : ops[L]? = some o) (hw : Region.wanted o (yielded ops a.tmps) = true) (hend : Region.ready md ops (listed.setIfInBounds L true) = [])
    (h : ∀ K : Act → World → Prop, (∀ a w, Q .normal a w → K a w) → Oper.wpIn F n P o a w K Q) : AnyT F n P md ops Q S L (fuel + 1) listed a w :=
  ⟨fun h0 => (by rw [hr] at h0; cases h0), hr ▸ fun j hj => by
    obtain rfl : j = L := by simpa using hj
    unfold wpOpIn
    rw [ho]
    simp only [hw, if_true]
    exact h _ fun a w hq => any_of_held (S := fun _ => True) _ _ _ _ (AnyH_done hend hq)⟩
theorem wpIn_value {o : Oper} {a : Act} {w w' : World} {v : Value} {K : Act → World → Prop} (hF : ∀ f, F.fn f) (hnd : notDefer o = true) (h : (execOp a.eval o).run P w = .ok (.value v) w') (hk : K (a.put o.dst v) w') : Oper.wpIn F n P o a w K Q := by
  simp only [Oper.wpIn, semAt_of hnd, h, Oper.uponIn]
  exact ⟨fun f _ => hF f, hk⟩
theorem exec_append {o : Oper} {a : Act} {w w' : World} {s x : Operand} {t : TypeId} {v1 v2 r : Value} (ho : o.op = .call { callee := .builtin .append, args := #[s, x], argTypes := #[t, t] }) (hs : a.eval s = v1) (hx : a.eval x = v2)
    (hr : (Builtin.append_ #[t, t] o.type #[v1, v2]).run P w = .ok r w') : (execOp a.eval o).run P w = .ok (.value r) w' := by
  unfold execOp
  simp only [ho, resolve, invoke, builtin, Sem.run_bind, Sem.run_pure, Result.andThen_ok, List.map_toArray, List.map_cons, List.map_nil, hs, hx, hr]
theorem region_T {id : Nat} {a : Act} {w : World} (S : World → Prop) (L : Nat) (hm : P.follows .mixedOrders = true)
    (h : AnyT F n P .any ops Q S L ops.size (Array.replicate ops.size false) a w.drew) : (Code.region id ops true).wpIn F n P Q a w :=
  wpIn_region_any hm (any_of_T _ _ _ _ h)
end
end Go.Proofs.LF
namespace Go.Proofs.LF
open Go.RowKit
set_option maxHeartbeats 4000000
set_option maxRecDepth 100000
theorem Tryz.info85i : (Tryz.prog.info? 85).map (fun i => (i.zero, i.size, i.bytes)) = some (some (.agg #[.string ByteArray.empty, .slice none 0 0, .slice none 0 0]), 3, 64) := by kernel_rfl
def InsR (v : Value) (n i : Nat) (cs news : List Value) (B : Nat) (w : World) (e : Ending) (w' : World) : Prop :=
  ∃ a c, e = .returned (.slice a (n + 1) c) ∧ w'.ownsRow B 85 3 (.slice a (n + 1) c) (n + 1) (cs.take (i * 3) ++ (news ++ cs.drop (i * 3))) ∧ w.grownBy w' v.ownBlock ∧ (∀ g, (Value.slice a (n + 1) c).ownBlock = some g → v.ownBlock = some g ∨ g = w.heap.size)
theorem ins_end (v : Value) (n : Nat) (cs : List Value) (x y z : Value) (vb B : Nat) (w : World) (hown : w.ownsRow B 85 3 v n cs) (hvb : w.heap[vb]? = some (.cells #[x, y, z] 85 (0, 0)))
    (h1v : ∀ u ∈ [x, y, z], u.oneCell' = true) (hn : n ≤ 1000) (hB : B ≤ w.heap.size) :
    Calls Tryz.prog 205 #[v, .int .i64 n, .slice (some ⟨vb, 0, none⟩) 1 1] w (InsR v n n cs [x, y, z] B w) := by
  obtain ⟨i0, hi0, hz0, hz1, hz2⟩ := info_parts Tryz.info85i
  have hnews : ∀ (j : Nat) (u : Value), [x, y, z][j]? = some u → w.cell? ((⟨vb, 0, none⟩ : Addr).add j) = some u := by
    have := World.news_of_block (cs := #[x, y, z]) (t := 85) (fr := (0, 0)) hvb
    exact this
  have hl := hown.1
  rcases hown.2 with ⟨rfl, rfl⟩ | ⟨g, cap, cur, rfl, hbg, hg, hnc, hcap, hcs, htk⟩
  · go_enter Tryz.func205, Tryz.ntmps205
    go_wp2_with (at_builtin; refine wpList_append_ao _ rfl _ _ _ rfl B 85 i0 _ 3 64 Tryz.underlying22 hi0 hz0 hz1 hz2 rfl (by omega) _ 0 cs rfl hown (some ⟨vb, 0, none⟩) 1 1 [x, y, z] rfl rfl (fun h => by cases h) (fun ad had => by cases had; exact hnews) h1v (by unfold maxLen; omega) (by omega) hB ?_; intro a' c' w' h2 h3 h4)
    go_ret
    exact ⟨a', c', rfl, by rw [List.take_of_length_le (by omega), List.drop_of_length_le (by omega), List.append_nil]; exact h2, h3, h4⟩
  · have hnc' : n ≤ cap := hnc
    unfold maxLen at hcap
    go_enter Tryz.func205, Tryz.ntmps205
    go_wp2_with (at_builtin; refine wpList_append_ao _ rfl _ _ _ rfl B 85 i0 _ 3 64 Tryz.underlying22 hi0 hz0 hz1 hz2 rfl (by omega) _ n cs rfl hown (some ⟨vb, 0, none⟩) 1 1 [x, y, z] rfl rfl (fun h => by cases h) (fun ad had => by cases had; exact hnews) h1v (by unfold maxLen; omega) (by omega) hB ?_; intro a' c' w' h2 h3 h4)
    all_goals (go_ret; exact ⟨a', c', rfl, by rw [List.take_of_length_le (by omega), List.drop_of_length_le (by omega), List.append_nil]; exact h2, h3, h4⟩)
end Go.Proofs.LF
namespace Go.Proofs.LF
open Go.RowKit
def rdIs : Rd (List Int) 1 where
  R S w x cs := ∃ a c, cs = [.slice a x.length c] ∧ Ints S w (.slice a x.length c) x
  len := by rintro S w x cs ⟨_, _, rfl, _⟩; rfl
  one := by rintro S w x cs ⟨_, _, rfl, _⟩ u hu; simp at hu; rcases hu with rfl; rfl
  agree := by rintro S w w' x cs ⟨a, b, rfl, h1⟩ ha; exact ⟨a, b, rfl, h1.agree ha⟩
  wide := by rintro S w w' x cs ⟨a, b, rfl, h1⟩ ha; exact ⟨a, b, rfl, h1.wide ha⟩
def TwoX (T S : Nat → Prop) (B : Nat) (W : World) (v u : Value) (ps : List (List Ky)) (ns : List (List Int)) (cs es : List Value) : Prop :=
  W.ownsRow B 65 1 v ps.length cs ∧ LCs rdPa T W ps cs ∧ W.ownsRow B 66 1 u ns.length es ∧ LCs rdIs S W ns es ∧ (∀ b, T b → B ≤ b ∧ b < W.heap.size ∧ v.ownBlock ≠ some b ∧ u.ownBlock ≠ some b) ∧ ∀ b, v.ownBlock = some b → u.ownBlock ≠ some b
structure TwoR (S : Nat → Prop) (B : Nat) (W : World) (v u : Value) (ps : List (List Ky)) (ns : List (List Int)) : Prop where
  ex : ∃ T cs es, TwoX T S B W v u ps ns cs es
variable {T S : Nat → Prop} {B : Nat} {W W' : World} {v u : Value} {ps : List (List Ky)} {ns : List (List Int)} {cs es : List Value}
theorem TwoR.nil (S : Nat → Prop) (B : Nat) (W : World) : TwoR S B W (.slice none 0 0) (.slice none 0 0) [] [] := ⟨fun _ => False, [], [], World.ownsRow_nil _ _ _ _, rfl, World.ownsRow_nil _ _ _ _, rfl, fun _ h => h.elim, fun _ h => by cases h⟩
theorem TwoX.below (h : TwoX T S B W v u ps ns cs es) (hS : ∀ b, S b → b < W.heap.size) (hb : Below W.heap.size W W') : TwoX T S B W' v u ps ns cs es := by
  obtain ⟨h1, h2, h3, h4, h5, h6⟩ := h
  exact ⟨owns_below h1 hb (Nat.le_refl _), h2.agree (Agree.of_below hb fun b hb' => (h5 b hb').2.1), owns_below h3 hb (Nat.le_refl _), h4.agree (Agree.of_below hb hS), fun b hb' => ⟨(h5 b hb').1, by have := (h5 b hb').2.1; have := hb.size; omega, (h5 b hb').2.2⟩, h6⟩
theorem TwoX.two (h : TwoX T S B W v u ps ns cs es) : TwoR S B W v u ps ns := ⟨T, cs, es, h⟩
theorem TwoX.app1 (h : TwoX T S B W v u ps ns cs es) {T' : Nat → Prop} {ps' : List (List Ky)} {news : List Value} {v' : Value} {n : Nat} (hS : ∀ b, S b → b < B) (hB : B ≤ W.heap.size) (hl : LCs rdPa T' W ps' news) (hT' : ∀ b, T' b → B ≤ b ∧ b < W.heap.size ∧ v.ownBlock ≠ some b ∧ u.ownBlock ≠ some b)
    (hn : n = ps.length + ps'.length) (hown : W'.ownsRow B 65 1 v' n (cs ++ news)) (hg : W.grownBy W' v.ownBlock) (hat : ∀ g, v'.ownBlock = some g → v.ownBlock = some g ∨ g = W.heap.size) : TwoX (fun b => T b ∨ T' b) S B W' v' u (ps ++ ps') ns (cs ++ news) es := by
  obtain ⟨h1, h2, h3, h4, h5, h6⟩ := h
  subst hn
  have hsz : W.heap.size ≤ W'.heap.size := hg.size
  refine ⟨by rw [List.length_append]; exact hown, ?_, ?_, ?_, ?_, ?_⟩
  · exact ((h2.agree (Agree.grown hg fun b hb => ⟨(h5 b hb).2.1, (h5 b hb).2.2.1⟩)).wide fun b hb => .inl hb).app ((hl.agree (Agree.grown hg fun b hb => ⟨(hT' b hb).2.1, (hT' b hb).2.2.1⟩)).wide fun b hb => .inr hb)
  · exact owns_agree h3 fun b hb => hg.block b (h3.lt b hb).2 (fun e => h6 b e.symm hb)
  · exact h4.agree (Agree.grown hg fun b hb => ⟨by have := hS b hb; omega, fun e => by have := hS b hb; have := (h1.lt b e).1; omega⟩)
  · intro b hb
    have hx : B ≤ b ∧ b < W.heap.size ∧ v.ownBlock ≠ some b ∧ u.ownBlock ≠ some b := by
      rcases hb with hb | hb
      · exact h5 b hb
      · exact hT' b hb
    refine ⟨hx.1, by omega, fun e => ?_, hx.2.2.2⟩
    rcases hat b e with h | h
    · exact hx.2.2.1 h
    · omega
  · intro b hb e
    rcases hat b hb with h | h
    · exact h6 b h e
    · have := (h3.lt b e).2; omega
theorem TwoX.app2 (h : TwoX T S B W v u ps ns cs es) {ns' : List (List Int)} {news : List Value} {u' : Value} {n : Nat} (hS : ∀ b, S b → b < B) (hB : B ≤ W.heap.size) (hl : LCs rdIs S W ns' news)
    (hn : n = ns.length + ns'.length) (hown : W'.ownsRow B 66 1 u' n (es ++ news)) (hg : W.grownBy W' u.ownBlock) (hat : ∀ g, u'.ownBlock = some g → u.ownBlock = some g ∨ g = W.heap.size) : TwoX T S B W' v u' ps (ns ++ ns') cs (es ++ news) := by
  obtain ⟨h1, h2, h3, h4, h5, h6⟩ := h
  subst hn
  have hsz : W.heap.size ≤ W'.heap.size := hg.size
  have hag : Agree S W W' := Agree.grown hg fun b hb => ⟨by have := hS b hb; omega, fun e => by have := hS b hb; have := (h3.lt b e).1; omega⟩
  refine ⟨?_, ?_, by rw [List.length_append]; exact hown, ?_, ?_, ?_⟩
  · exact owns_agree h1 fun b hb => hg.block b (h1.lt b hb).2 (fun e => h6 b hb e.symm)
  · exact h2.agree (Agree.grown hg fun b hb => ⟨(h5 b hb).2.1, (h5 b hb).2.2.2⟩)
  · exact (h4.agree hag).app (hl.agree hag)
  · intro b hb
    have hx := h5 b hb
    refine ⟨hx.1, by omega, hx.2.2.1, fun e => ?_⟩
    rcases hat b e with h | h
    · exact hx.2.2.2 h
    · omega
  · intro b hb e
    rcases hat b e with h | h
    · exact h6 b hb h
    · have := (h1.lt b hb).2; omega
theorem two_app1 {W0 : World} (h : TwoX T S B W0 v u ps ns cs es) (hS : ∀ b, S b → b < B) (hB : B ≤ W0.heap.size) (hb : Below W0.heap.size W0 W) {T' : Nat → Prop} {ps' : List (List Ky)} {news : List Value} {v' : Value} {n : Nat} (hl : LCs rdPa T' W0 ps' news) (hT' : ∀ b, T' b → B ≤ b ∧ b < W0.heap.size ∧ v.ownBlock ≠ some b ∧ u.ownBlock ≠ some b)
    (hn : n = ps.length + ps'.length) (hown : W'.ownsRow B 65 1 v' n (cs ++ news)) (hg : W.grownBy W' v.ownBlock) (hat : ∀ g, v'.ownBlock = some g → v.ownBlock = some g ∨ g = W.heap.size) :
    TwoX (fun b => T b ∨ T' b) S B W' v' u (ps ++ ps') ns (cs ++ news) es ∧ (∀ b, b < W0.heap.size → v.ownBlock ≠ some b → W'.heap[b]? = W0.heap[b]?) ∧ Below B W0 W' := by
  have hz := hb.size
  refine ⟨(h.below (fun b hb' => by have := hS b hb'; omega) hb).app1 hS (by omega) (hl.agree (Agree.of_below hb fun b hb' => (hT' b hb').2.1)) (fun b hb' => ⟨(hT' b hb').1, by have := (hT' b hb').2.1; omega, (hT' b hb').2.2⟩) hn hown hg hat, fun b hlt hne => ?_, ?_⟩
  · exact (hg.block b (by omega) (fun e => hne e.symm)).trans (hb.block b hlt)
  · exact (hb.mono hB).grown hg (by omega) (fun b hb' => (h.1.lt b hb').1)
theorem two_app2 {W0 : World} (h : TwoX T S B W0 v u ps ns cs es) (hS : ∀ b, S b → b < B) (hB : B ≤ W0.heap.size) (hb : Below W0.heap.size W0 W) {ns' : List (List Int)} {news : List Value} {u' : Value} {n : Nat} (hl : LCs rdIs S W0 ns' news)
    (hn : n = ns.length + ns'.length) (hown : W'.ownsRow B 66 1 u' n (es ++ news)) (hg : W.grownBy W' u.ownBlock) (hat : ∀ g, u'.ownBlock = some g → u.ownBlock = some g ∨ g = W.heap.size) :
    TwoX T S B W' v u' ps (ns ++ ns') cs (es ++ news) ∧ (∀ b, b < W0.heap.size → u.ownBlock ≠ some b → W'.heap[b]? = W0.heap[b]?) ∧ Below B W0 W' := by
  have hz := hb.size
  refine ⟨(h.below (fun b hb' => by have := hS b hb'; omega) hb).app2 hS (by omega) (hl.agree (Agree.of_below hb fun b hb' => by have := hS b hb'; omega)) hn hown hg hat, fun b hlt hne => ?_, ?_⟩
  · exact (hg.block b (by omega) (fun e => hne e.symm)).trans (hb.block b hlt)
  · exact (hb.mono hB).grown hg (by omega) (fun b hb' => (h.2.2.1.lt b hb').1)
theorem TwoX.pas (h : TwoX T S B W v u ps ns cs es) : PaSl (Rg B W.heap.size) W v ps := ⟨cs, SlC.of_owns h.1, h.2.1.wide fun b hb => ⟨(h.2.2.2.2.1 b hb).1, (h.2.2.2.2.1 b hb).2.1⟩⟩
end Go.Proofs.LF
