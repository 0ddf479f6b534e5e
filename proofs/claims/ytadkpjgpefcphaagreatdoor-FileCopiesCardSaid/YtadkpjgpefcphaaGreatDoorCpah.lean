/- Parts of the proof of a law of layer 11 (file): LfChg, LfHeld2, LfW40, LfKp. The conditions stand in each theorem. -/
import Derived.BigQuiet
import Derived.Deep.AppendLies
import Derived.Deep.QuietTactic
import Derived.Deep.RegionHeld3
import Derived.Laws.Externs
import Derived.Laws.ResultCell
import Derived.Laws.World
import Derived.Lib.AppendZeros
import Derived.Lib.AppendZerosOnto
import Derived.Lib.ItoaNum
import Derived.Lib.Overlaps
import Derived.Lib.Walk
import Derived.Outline
import Derived.Test.YtadkpjgpefcphaaGreatDoorProg
import Derived.WalkKit
import Derived.WalkLawsBesides
import Derived.WalkSpells
import Derived.Test.YtadkpjgpefcphaaGreatDoorCpae
import Derived.Test.YtadkpjgpefcphaaGreatDoorCpaf
set_option linter.all false
set_option linter.unusedVariables false
set_option linter.unusedSimpArgs false
namespace Go.Proofs.LF
def bsG (lt : Nat → Bool) : Nat → Nat → Nat → Nat
  | 0, i, _ => i
  | f + 1, i, j => if i < j then (if lt ((i + j) / 2) then bsG lt f ((i + j) / 2 + 1) j else bsG lt f i ((i + j) / 2)) else i
theorem bsG_fuel (lt : Nat → Bool) : ∀ (f i j : Nat), j - i ≤ f → bsG lt f i j = bsG lt (j - i) i j
  | 0, i, j, h => by rw [show j - i = 0 by omega]
  | f + 1, i, j, h => by
    by_cases hij : i < j
    · obtain ⟨d, hd⟩ : ∃ d, j - i = d + 1 := ⟨j - i - 1, by omega⟩
      rw [hd]
      simp only [bsG, hij, if_true]
      split
      · rw [bsG_fuel lt f _ _ (by omega), bsG_fuel lt d _ _ (by omega)]
      · rw [bsG_fuel lt f _ _ (by omega), bsG_fuel lt d _ _ (by omega)]
    · rw [show j - i = 0 by omega]
      simp [bsG, hij]
def bsF (lt : Nat → Bool) (i j : Nat) : Nat := bsG lt (j - i) i j
theorem bsF_stop {lt : Nat → Bool} {i j : Nat} (h : ¬ i < j) : bsF lt i j = i := by
  unfold bsF; rw [show j - i = 0 by omega]; rfl
theorem bsF_go {lt : Nat → Bool} {i j : Nat} (h : i < j) : bsF lt i j = if lt ((i + j) / 2) then bsF lt ((i + j) / 2 + 1) j else bsF lt i ((i + j) / 2) := by
  unfold bsF
  obtain ⟨d, hd⟩ : ∃ d, j - i = d + 1 := ⟨j - i - 1, by omega⟩
  rw [hd]
  simp only [bsG, h, if_true]
  rw [bsG_fuel lt d _ _ (by omega), bsG_fuel lt d _ _ (by omega)]
theorem bsF_le {lt : Nat → Bool} : ∀ (n i j : Nat), j - i ≤ n → i ≤ j → i ≤ bsF lt i j ∧ bsF lt i j ≤ j
  | 0, i, j, h, h2 => by rw [bsF_stop (by omega)]; omega
  | n + 1, i, j, h, h2 => by
    by_cases hij : i < j
    · rw [bsF_go hij]
      split
      · have := bsF_le (lt := lt) n ((i + j) / 2 + 1) j (by omega) (by omega); omega
      · have := bsF_le (lt := lt) n i ((i + j) / 2) (by omega) (by omega); omega
    · rw [bsF_stop hij]; omega
theorem bsF_at {lt : Nat → Bool} {m : Nat} (h1 : ∀ k, k < m → lt k = true) (h2 : ∀ k, m ≤ k → lt k = false) : ∀ (n i j : Nat), j - i ≤ n → i ≤ m → m ≤ j → bsF lt i j = m
  | 0, i, j, h, hi, hj => by rw [bsF_stop (by omega)]; omega
  | n + 1, i, j, h, hi, hj => by
    by_cases hij : i < j
    · rw [bsF_go hij]
      by_cases hm : (i + j) / 2 < m
      · rw [if_pos (h1 _ hm)]; exact bsF_at h1 h2 n _ _ (by omega) (by omega) hj
      · rw [if_neg (by rw [h2 _ (by omega)]; simp)]; exact bsF_at h1 h2 n _ _ (by omega) hi (by omega)
    · rw [bsF_stop hij]; omega
def fl0 : Fl := ⟨[], []⟩
def fndI (l : List Fl) (p : List Ky) : Nat := bsF (fun h => decide (cmpP (l.getD h fl0).p p < 0)) 0 l.length
def fnd (l : List Fl) (p : List Ky) : Option Fl := match l[fndI l p]? with | some x => if cmpP x.p p = 0 then some x else none | none => none
def smF (a b : List Fl) (p : List Ky) : Bool := match fnd a p, fnd b p with | some x, some y => decide (x.l = y.l) | none, none => true | _, _ => false
def sptK (k : Ky) : List UInt8 := 47 :: k.n ++ (if k.h then 58 :: Lib.itoa k.x else if k.x ≠ 0 then 63 :: Lib.itoa k.x else [])
def sptL (p : List Ky) : List UInt8 := (p.map sptK).flatten
def ddP : List (List Ky) → List (List Ky) → List (List Ky)
  | acc, [] => acc
  | acc, p :: r => if sptL p ∈ acc.map sptL then ddP acc r else ddP (acc ++ [p]) r
def insP (p : List Ky) : List (List Ky) → List (List Ky)
  | [] => [p]
  | q :: r => if cmpP q p < 0 then q :: insP p r else p :: q :: r
def srtP : List (List Ky) → List (List Ky)
  | [] => []
  | p :: r => insP p (srtP r)
def pthsF (l : List (List Fl)) : List (List Ky) := srtP (ddP [] (l.flatten.map Fl.p))
def chD (a b : List Fl) (p : List Ky) : Option Ch :=
  if smF a b p then none else some ⟨p, (fnd a p).isSome, (fnd b p).isSome, ((fnd a p).getD fl0).l, ((fnd b p).getD fl0).l⟩
def dfF (a b : List Fl) : List Ch := (pthsF [a, b]).filterMap (chD a b)
def lsF : List Fl → List (List Ky) → List Fl → List Fl × List (List Ky)
  | kept, out, [] => (kept, out)
  | kept, out, f :: r => if (fnd kept f.p.dropLast).isSome ∨ f.p.length = 1 then lsF (kept ++ [f]) out r else lsF kept (out ++ [f.p]) r
def jnF (o a b : List Fl) : List Fl → List (List Ky) → List (List Ky) → List Fl × List (List Ky)
  | all, con, [] => (all, con)
  | all, con, p :: r =>
    let st := if smF a b p ∨ smF o b p then (a, con) else if smF o a p then (b, con) else (o, con ++ [p])
    jnF o a b (match fnd st.1 p with | some f => all ++ [f] | none => all) st.2 r
def cnF (con : List (List Ky)) : List (List Ky) → List (List Ky)
  | [] => con
  | p :: r => cnF (if con.any (fun q => decide (cmpP q p = 0)) then con else con ++ [p]) r
def joF (o a b : Fo) : List Fl × List (List Ky) :=
  let l := [flsL [] o, flsL [] a, flsL [] b]
  let j := jnF (flsL [] o) (flsL [] a) (flsL [] b) [] [] (pthsF l)
  let k := lsF [] [] j.1
  (k.1, srtP (cnF j.2 k.2))
theorem insP_perm (p : List Ky) : ∀ l, (insP p l).Perm (p :: l)
  | [] => List.Perm.refl _
  | q :: r => by
    simp only [insP]
    split
    · exact ((insP_perm p r).cons q).trans (List.Perm.swap _ _ _)
    · exact List.Perm.refl _
theorem srtP_perm : ∀ l, (srtP l).Perm l
  | [] => List.Perm.refl _
  | p :: r => (insP_perm p _).trans ((srtP_perm r).cons p)
theorem insP_sorted (p : List Ky) : ∀ l : List (List Ky), l.Pairwise (fun a b => cmpP a b ≤ 0) → (insP p l).Pairwise (fun a b => cmpP a b ≤ 0)
  | [], _ => by simp [insP]
  | q :: r, h => by
    obtain ⟨h1, h2⟩ := List.pairwise_cons.1 h
    simp only [insP]
    split
    · rename_i hq
      refine List.pairwise_cons.2 ⟨fun x hx => ?_, insP_sorted p r h2⟩
      rcases List.mem_cons.1 ((insP_perm p r).mem_iff.1 hx) with rfl | hx
      · omega
      · exact h1 x hx
    · rename_i hq
      have hpq : cmpP p q ≤ 0 := by
        rcases Int.lt_trichotomy (cmpP p q) 0 with h' | h' | h'
        · omega
        · omega
        · exact absurd (cmpP_ord.flop h') hq
      refine List.pairwise_cons.2 ⟨fun x hx => ?_, h⟩
      rcases List.mem_cons.1 hx with rfl | hx
      · exact hpq
      · have := h1 x hx
        rcases Int.lt_or_eq_of_le hpq with a | a
        · rcases Int.lt_or_eq_of_le this with b | b
          · exact Int.le_of_lt (cmpP_ord.trans a b)
          · rw [← cmpP_ord.eq b]; omega
        · rw [cmpP_ord.eq a]; exact this
theorem srtP_sorted : ∀ l, (srtP l).Pairwise (fun a b => cmpP a b ≤ 0)
  | [] => List.Pairwise.nil
  | p :: r => insP_sorted p _ (srtP_sorted r)
theorem srtP_of {l l' : List (List Ky)} (hp : l'.Perm l) (hs : l'.Pairwise (fun a b => cmpP a b ≤ 0)) : l' = srtP l :=
  List.Perm.eq_of_pairwise (le := fun a b => cmpP a b ≤ 0) (fun a b _ _ h k => by
    rcases Int.lt_or_eq_of_le h with h | h
    · have := cmpP_ord.flip h; omega
    · exact cmpP_ord.eq h) hs (srtP_sorted l) (hp.trans (srtP_perm l).symm)
end Go.Proofs.LF
namespace Go.Proofs.LF
open Go.RowKit
section
variable {F : Fence} {n : Nat} {P : Program} {ops : Array Oper} {Q : Exit → Act → World → Prop} {md : Region.Mode} {S : World → Prop} {L : Nat}
def AnyT (F : Fence) (n : Nat) (P : Program) (md : Region.Mode) (ops : Array Oper) (Q : Exit → Act → World → Prop) (S : World → Prop) (L : Nat) : Nat → Array Bool → Act → World → Prop
  | 0, listed, a, w => Region.ready md ops listed = [] ∧ Q .normal a w
  | fuel + 1, listed, a, w =>
    (Region.ready md ops listed = [] → Q .normal a w) ∧
    ∀ i ∈ Region.ready md ops listed, wpOpIn F n P ops Q i (fun a' w' => if i = L then wpAnyIn F n P md ops Q fuel (listed.setIfInBounds i true) a' w' else S w' ∧ AnyT F n P md ops Q S L fuel (listed.setIfInBounds i true) a' w') a w
theorem any_of_T : ∀ (fuel : Nat) (listed : Array Bool) (a : Act) (w : World), AnyT F n P md ops Q S L fuel listed a w → wpAnyIn F n P md ops Q fuel listed a w
  | 0, _, _, _, h => h
  | fuel + 1, _, _, _, h => ⟨h.1, fun i hi => wpOpIn_mono (fun a' w' h' => by
      split at h'
      · exact h'
      · exact any_of_T fuel _ a' w' h'.2) (h.2 i hi)⟩
theorem AnyT_first (hF : ∀ f, F.fn f) (hnd : ops.all notDefer = true) {i : Nat} {oi : Oper} {v : Value} (hi : ops[i]? = some oi) (hsel : ∀ (j : Nat) (o : Oper) cs b, ops[j]? = some o → o.op ≠ .select cs b)
    (hQ : ∀ c a w, Q (.panic c) (a.put oi.dst v) w → Q (.panic c) a w) (hiL : i ≠ L) (hL : ∀ (listed : Array Bool), i ∈ Region.ready md ops listed → L ∉ Region.ready md ops listed) :
    ∀ (fuel : Nat) (listed : Array Bool) (a : Act) (w : World),
      (∀ j oj, ops[j]? = some oj → j ≠ i → listed.getD j true = false → (∀ e ∈ oj.after, Region.binds md e = true → e.on ≠ i) → oi.apart ops oj = true) →
      i ∈ Region.ready md ops listed → YIf P ops S oi v a → S w →
      AnyT F n P md ops Q S L fuel (listed.setIfInBounds i true) (a.put oi.dst v) w → AnyT F n P md ops Q S L (fuel + 1) listed a w := by
  have hno : ∀ j o, ops[j]? = some o → notDefer o = true := fun j o h => by
    rw [Array.all_eq_true] at hnd
    obtain ⟨hj, rfl⟩ := Array.getElem?_eq_some_iff.1 h
    exact hnd j hj
  intro fuel
  induction fuel with
  | zero =>
    intro listed a w _ hr hy hS H
    refine ⟨fun h => (by rw [h] at hr; cases hr), fun j hj => ?_⟩
    by_cases hji : j = i
    · subst hji; exact hy.wpOp hF hi (hno _ _ hi) hS (by rw [if_neg hiL]; exact ⟨hS, H⟩)
    · have := ready_mono hj hji
      rw [H.1] at this
      cases this
  | succ fuel ih =>
    intro listed a w hfree hr hy hS H
    refine ⟨fun h => (by rw [h] at hr; cases hr), fun j hj => ?_⟩
    by_cases hji : j = i
    · subst hji; exact hy.wpOp hF hi (hno _ _ hi) hS (by rw [if_neg hiL]; exact ⟨hS, H⟩)
    · have hjL : j ≠ L := fun e => hL listed hr (e ▸ hj)
      have h1 := H.2 j (ready_mono hj hji)
      simp only [if_neg hjL] at h1 ⊢
      obtain ⟨hjun, oj, hoj, hall⟩ := mem_ready.1 hj
      have hnot : ∀ e ∈ oj.after, Region.binds md e = true → e.on ≠ i := fun e he hb heq => by
        have h1 := hall e he hb
        have h0 := (mem_ready.1 hr).1
        rw [heq] at h1
        rcases Nat.lt_or_ge i listed.size with h' | h'
        · simp [h'] at h0 h1; rw [h0] at h1; cases h1
        · simp [Array.getElem?_eq_none h'] at h1
      have h2 := wpOpIn_putIf hoj (hno _ _ hoj) (hfree j oj hoj hji hjun hnot) (fun cs b => hsel i oi cs b hi) (fun cs b => hsel j oj cs b hoj) hQ hy h1
      have hfree' : ∀ k ok, ops[k]? = some ok → k ≠ i → (listed.setIfInBounds j true).getD k true = false →
          (∀ e ∈ ok.after, Region.binds md e = true → e.on ≠ i) → oi.apart ops ok = true := fun k ok hk hki hun hno => by
        refine hfree k ok hk hki ?_ hno
        by_cases hjk : j = k
        · subst hjk; exact hjun
        · rw [getD_set_ne true hjk] at hun; exact hun
      refine wpOpIn_mono (fun a' w' h3 => ⟨h3.2.1, ih (listed.setIfInBounds j true) a' w' hfree' (ready_mono hr (Ne.symm hji)) h3.1 h3.2.1 ?_⟩) h2
      rw [Array.setIfInBounds_comm _ _ hji]
      exact h3.2.2
def waits (md : Region.Mode) (ops : Array Oper) (L i : Nat) : Bool := match ops[L]? with | some o => o.after.any (fun e => Region.binds md e && e.on == i) | none => true
theorem waits_spec {i : Nat} (h : waits md ops L i = true) (listed : Array Bool) (hr : i ∈ Region.ready md ops listed) : L ∉ Region.ready md ops listed := fun hl => by
  obtain ⟨_, o, ho, hall⟩ := mem_ready.1 hl
  unfold waits at h
  rw [ho] at h
  simp only [Array.any_eq_true, Bool.and_eq_true, beq_iff_eq] at h
  obtain ⟨k, hk, hb, he⟩ := h
  have h1 := hall _ (Array.getElem_mem hk) hb
  have h0 := (mem_ready.1 hr).1
  rw [he] at h1
  rcases Nat.lt_or_ge i listed.size with h' | h'
  · simp [h'] at h0 h1; rw [h0] at h1; cases h1
  · simp [Array.getElem?_eq_none h'] at h1
theorem AnyT_takeD (hF : ∀ f, F.fn f) (hnd : ops.all notDefer = true) (i t : Nat) (v : Value) {oi : Oper} {fuel : Nat} {listed : Array Bool} {a : Act} {w : World} (hi : ops[i]? = some oi) (hd : oi.dst = some t)
    (hs : Region.noSelect ops = true) (hf : Region.free md ops listed i = true) (hr : (Region.ready md ops listed).contains i = true) (hiL : i ≠ L) (hw : waits md ops L i = true)
    (hQ : ∀ c a w, Q (.panic c) (a.put (some t) v) w → Q (.panic c) a w) (hy : YIf P ops S oi v a) (hS : S w)
    (h : AnyT F n P md ops Q S L fuel (listed.setIfInBounds i true) (a.put (some t) v) w) : AnyT F n P md ops Q S L (fuel + 1) listed a w :=
  AnyT_first hF hnd hi (Region.noSelect_spec hs) (by rw [hd]; exact hQ) hiL (waits_spec hw) fuel listed a w (Region.free_spec hi hf) (by simpa using hr) hy hS (by rw [hd]; exact h)
theorem AnyT_one {i : Nat} {o : Oper} {fuel : Nat} {listed : Array Bool} {a : Act} {w : World} (hr : Region.ready md ops listed = [i]) (ho : ops[i]? = some o) (hw : Region.wanted o (yielded ops a.tmps) = true) (hiL : i ≠ L)
    (h : ∀ K : Act → World → Prop, (∀ a w, S w ∧ AnyT F n P md ops Q S L fuel (listed.setIfInBounds i true) a w → K a w) → Oper.wpIn F n P o a w K Q) : AnyT F n P md ops Q S L (fuel + 1) listed a w :=
  ⟨fun h0 => (by rw [hr] at h0; cases h0), hr ▸ fun j hj => by
    obtain rfl : j = i := by simpa using hj
    unfold wpOpIn
    rw [ho]
    simp only [hw, if_true, if_neg hiL]
    exact h _ fun _ _ h => h⟩
theorem AnyT_last {o : Oper} {fuel : Nat} {listed : Array Bool} {a : Act} {w : World} (hr : Region.ready md ops listed = [L]) (ho : ops[L]? = some o) (hw : Region.wanted o (yielded ops a.tmps) = true) (hend : Region.ready md ops (listed.setIfInBounds L true) = [])
    (h : ∀ K : Act → World → Prop, (∀ a w, Q .normal a w → K a w) → Oper.wpIn F n P o a w K Q) : AnyT F n P md ops Q S L (fuel + 1) listed a w :=
  ⟨fun h0 => (by rw [hr] at h0; cases h0), hr ▸ fun j hj => by
    obtain rfl : j = L := by simpa using hj
    unfold wpOpIn
    rw [ho]
    simp only [hw, if_true]
    exact h _ fun a w hq => any_of_held (S := fun _ => True) _ _ _ _ (AnyH_done hend hq)⟩
theorem wpIn_value {o : Oper} {a : Act} {w w' : World} {v : Value} {K : Act → World → Prop} (hF : ∀ f, F.fn f) (hnd : notDefer o = true) (h : (execOp a.eval o).run P w = .ok (.value v) w') (hk : K (a.put o.dst v) w') : Oper.wpIn F n P o a w K Q := by
  simp only [Oper.wpIn, semAt_of hnd, h, Oper.uponIn]
  exact ⟨fun f _ => hF f, hk⟩
theorem exec_append {o : Oper} {a : Act} {w w' : World} {s x : Operand} {t : TypeId} {v1 v2 r : Value} (ho : o.op = .call { callee := .builtin .append, args := #[s, x], argTypes := #[t, t] }) (hs : a.eval s = v1) (hx : a.eval x = v2)
    (hr : (Builtin.append_ #[t, t] o.type #[v1, v2]).run P w = .ok r w') : (execOp a.eval o).run P w = .ok (.value r) w' := by
  unfold execOp
  simp only [ho, resolve, invoke, builtin, Sem.run_bind, Sem.run_pure, Result.andThen_ok, List.map_toArray, List.map_cons, List.map_nil, hs, hx, hr]
theorem region_T {id : Nat} {a : Act} {w : World} (S : World → Prop) (L : Nat) (hm : P.follows .mixedOrders = true)
    (h : AnyT F n P .any ops Q S L ops.size (Array.replicate ops.size false) a w.drew) : (Code.region id ops true).wpIn F n P Q a w :=
  wpIn_region_any hm (any_of_T _ _ _ _ h)
end
end Go.Proofs.LF
namespace Go.Proofs.LF
open Go.RowKit
set_option maxHeartbeats 4000000
set_option maxRecDepth 100000
theorem Tryz.info85i : (Tryz.prog.info? 85).map (fun i => (i.zero, i.size, i.bytes)) = some (some (.agg #[.string ByteArray.empty, .slice none 0 0, .slice none 0 0]), 3, 64) := by kernel_rfl
def InsR (v : Value) (n i : Nat) (cs news : List Value) (B : Nat) (w : World) (e : Ending) (w' : World) : Prop :=
  ∃ a c, e = .returned (.slice a (n + 1) c) ∧ w'.ownsRow B 85 3 (.slice a (n + 1) c) (n + 1) (cs.take (i * 3) ++ (news ++ cs.drop (i * 3))) ∧ w.grownBy w' v.ownBlock ∧ (∀ g, (Value.slice a (n + 1) c).ownBlock = some g → v.ownBlock = some g ∨ g = w.heap.size)
theorem ins_end (v : Value) (n : Nat) (cs : List Value) (x y z : Value) (vb B : Nat) (w : World) (hown : w.ownsRow B 85 3 v n cs) (hvb : w.heap[vb]? = some (.cells #[x, y, z] 85 (0, 0)))
    (h1v : ∀ u ∈ [x, y, z], u.oneCell' = true) (hn : n ≤ 1000) (hB : B ≤ w.heap.size) :
    Calls Tryz.prog 205 #[v, .int .i64 n, .slice (some ⟨vb, 0, none⟩) 1 1] w (InsR v n n cs [x, y, z] B w) := by
  obtain ⟨i0, hi0, hz0, hz1, hz2⟩ := info_parts Tryz.info85i
  have hnews : ∀ (j : Nat) (u : Value), [x, y, z][j]? = some u → w.cell? ((⟨vb, 0, none⟩ : Addr).add j) = some u := by
    have := World.news_of_block (cs := #[x, y, z]) (t := 85) (fr := (0, 0)) hvb
    exact this
  have hl := hown.1
  rcases hown.2 with ⟨rfl, rfl⟩ | ⟨g, cap, cur, rfl, hbg, hg, hnc, hcap, hcs, htk⟩
  · go_enter Tryz.func205, Tryz.ntmps205
    go_wp2_with (at_builtin; refine wpList_append_ao _ rfl _ _ _ rfl B 85 i0 _ 3 64 Tryz.underlying22 hi0 hz0 hz1 hz2 rfl (by omega) _ 0 cs rfl hown (some ⟨vb, 0, none⟩) 1 1 [x, y, z] rfl rfl (fun h => by cases h) (fun ad had => by cases had; exact hnews) h1v (by unfold maxLen; omega) (by omega) hB ?_; intro a' c' w' h2 h3 h4)
    go_ret
    exact ⟨a', c', rfl, by rw [List.take_of_length_le (by omega), List.drop_of_length_le (by omega), List.append_nil]; exact h2, h3, h4⟩
  · have hnc' : n ≤ cap := hnc
    unfold maxLen at hcap
    go_enter Tryz.func205, Tryz.ntmps205
    go_wp2_with (at_builtin; refine wpList_append_ao _ rfl _ _ _ rfl B 85 i0 _ 3 64 Tryz.underlying22 hi0 hz0 hz1 hz2 rfl (by omega) _ n cs rfl hown (some ⟨vb, 0, none⟩) 1 1 [x, y, z] rfl rfl (fun h => by cases h) (fun ad had => by cases had; exact hnews) h1v (by unfold maxLen; omega) (by omega) hB ?_; intro a' c' w' h2 h3 h4)
    all_goals (go_ret; exact ⟨a', c', rfl, by rw [List.take_of_length_le (by omega), List.drop_of_length_le (by omega), List.append_nil]; exact h2, h3, h4⟩)
end Go.Proofs.LF
namespace Go.Proofs.LF
open Go.RowKit
def Kd (u u' : Value) : Prop := u' = u ∨ (∃ x y, u = .int .i64 x ∧ u' = .int .i64 y) ∨ ∃ s t, u = .string s ∧ u' = .string t
theorem Kd.refl (u : Value) : Kd u u := .inl rfl
theorem Kd.trans {a b c : Value} (h : Kd a b) (k : Kd b c) : Kd a c := by
  rcases h with rfl | ⟨x, y, rfl, rfl⟩ | ⟨x, y, rfl, rfl⟩
  · exact k
  · rcases k with rfl | ⟨p, q, h1, rfl⟩ | ⟨p, q, h1, rfl⟩
    · exact .inr (.inl ⟨x, y, rfl, rfl⟩)
    · exact .inr (.inl ⟨x, q, rfl, rfl⟩)
    · cases h1
  · rcases k with rfl | ⟨p, q, h1, rfl⟩ | ⟨p, q, h1, rfl⟩
    · exact .inr (.inr ⟨x, y, rfl, rfl⟩)
    · cases h1
    · exact .inr (.inr ⟨x, q, rfl, rfl⟩)
theorem Kd.slice {a : Option Addr} {n c : Nat} {u : Value} (h : Kd (.slice a n c) u) : u = .slice a n c := by
  rcases h with rfl | ⟨x, y, h, _⟩ | ⟨x, y, h, _⟩
  · rfl
  · cases h
  · cases h
theorem Kd.int {x : Int} {u : Value} (h : Kd (.int .i64 x) u) : ∃ y, u = .int .i64 y := by
  rcases h with rfl | ⟨x, y, h, rfl⟩ | ⟨x, y, h, _⟩
  · exact ⟨_, rfl⟩
  · exact ⟨_, rfl⟩
  · cases h
theorem Kd.str {x : ByteArray} {u : Value} (h : Kd (.string x) u) : ∃ y, u = .string y := by
  rcases h with rfl | ⟨x, y, h, _⟩ | ⟨x, y, h, rfl⟩
  · exact ⟨_, rfl⟩
  · cases h
  · exact ⟨_, rfl⟩
def KP (w w' : World) : Prop := ∀ (b : Nat) (cs : Array Value) (t : TypeId) (fr : Nat × Nat), w.heap[b]? = some (.cells cs t fr) → ∃ cs', w'.heap[b]? = some (.cells cs' t fr) ∧ ∀ (o : Nat) u, cs[o]? = some u → ∃ u', cs'[o]? = some u' ∧ Kd u u'
theorem KP.refl (w : World) : KP w w := fun b cs t fr h => ⟨cs, h, fun o u hu => ⟨u, hu, Kd.refl u⟩⟩
theorem KP.trans {a b c : World} (h : KP a b) (k : KP b c) : KP a c := fun q cs t fr hq => by
  obtain ⟨cs1, h1, h2⟩ := h q cs t fr hq
  obtain ⟨cs2, k1, k2⟩ := k q cs1 t fr h1
  refine ⟨cs2, k1, fun o u hu => ?_⟩
  obtain ⟨u1, e1, d1⟩ := h2 o u hu
  obtain ⟨u2, e2, d2⟩ := k2 o u1 e1
  exact ⟨u2, e2, d1.trans d2⟩
theorem KP.of_below {w w' : World} (h : Below w.heap.size w w') : KP w w' := fun b cs t fr hb =>
  ⟨cs, (h.block b (Array.getElem?_eq_some_iff.1 hb).1).trans hb, fun o u hu => ⟨u, hu, Kd.refl u⟩⟩
theorem KP.cell {w w' : World} (h : KP w w') {b o : Nat} {u : Value} (hc : w.cell? ⟨b, o, none⟩ = some u) : ∃ u', w'.cell? ⟨b, o, none⟩ = some u' ∧ Kd u u' := by
  unfold World.cell? at hc ⊢
  simp only at hc ⊢
  cases hb : w.heap[b]? with
  | none => rw [hb] at hc; cases hc
  | some x =>
    rw [hb] at hc
    cases x with
    | cells cs t fr =>
      obtain ⟨cs', h1, h2⟩ := h b cs t fr hb
      rw [h1]
      simp only [Option.isSome_none, Bool.false_eq_true, if_false] at hc ⊢
      exact h2 o u hc
    | _ => cases hc
theorem KP.uf {w w' : World} (h : KP w w') {q : Nat} (hu : Uf w q) : Uf w' q := by
  obtain ⟨cs, t, hb⟩ := hu
  obtain ⟨cs', h1, _⟩ := h q cs t (0, 0) hb
  exact ⟨cs', t, h1⟩
theorem KP.setCell {w : World} {b o : Nat} {u v : Value} (hc : w.cell? ⟨b, o, none⟩ = some u) (hd : Kd u v) : KP w (w.setCell ⟨b, o, none⟩ v) := fun q cs t fr hq => by
  by_cases hqb : b = q
  · subst hqb
    refine ⟨cs.setIfInBounds o v, by simp [World.setCell, Array.getElem?_modify, hq], fun i x hx => ?_⟩
    rw [Array.getElem?_setIfInBounds]
    by_cases hi : o = i
    · subst hi
      have hlt : o < cs.size := (Array.getElem?_eq_some_iff.1 hx).1
      rw [if_pos rfl, if_pos hlt]
      unfold World.cell? at hc
      simp only [hq, Option.isSome_none, Bool.false_eq_true, if_false] at hc
      rw [hx] at hc
      cases hc
      exact ⟨v, rfl, hd⟩
    · rw [if_neg hi]
      exact ⟨x, hx, Kd.refl x⟩
  · exact ⟨cs, (Below.heap_setCell _ _ _ _ (Ne.symm hqb)).trans hq, fun i x hx => ⟨x, hx, Kd.refl x⟩⟩
theorem KP.zeros (b : Nat) : ∀ (n o : Nat) (w : World), (∀ j, j < n → ∃ x, w.cell? ⟨b, o + j, none⟩ = some (.int .i64 x)) → KP w (w.setCells b o (List.replicate n (.int .i64 0)))
  | 0, _, w, _ => KP.refl w
  | n + 1, o, w, h => by
    obtain ⟨x, hx⟩ := h 0 (by omega)
    rw [Nat.add_zero] at hx
    have h1 : KP w (w.setCell ⟨b, o, none⟩ (.int .i64 0)) := KP.setCell hx (.inr (.inl ⟨_, _, rfl, rfl⟩))
    refine h1.trans ?_
    show KP _ ((w.setCell ⟨b, o, none⟩ (.int .i64 0)).setCells b (o + 1) (List.replicate n (.int .i64 0)))
    refine KP.zeros b n (o + 1) _ fun j hj => ?_
    obtain ⟨y, hy⟩ := h (j + 1) (by omega)
    rw [show o + 1 + j = o + (j + 1) by omega]
    obtain ⟨u', k1, k2⟩ := h1.cell hy
    obtain ⟨z, rfl⟩ := k2.int
    exact ⟨z, k1⟩
theorem list_of {P : Nat → Value → Prop} : ∀ (n : Nat), (∀ j, j < n → ∃ u, P j u) → ∃ l : List Value, l.length = n ∧ ∀ j u, l[j]? = some u → P j u
  | 0, _ => ⟨[], rfl, fun j u h => by simp at h⟩
  | n + 1, h => by
    obtain ⟨l, h1, h2⟩ := list_of n fun j hj => h j (by omega)
    obtain ⟨u, hu⟩ := h n (by omega)
    refine ⟨l ++ [u], by simp [h1], fun j v hv => ?_⟩
    by_cases hj : j < l.length
    · rw [List.getElem?_append_left hj] at hv; exact h2 j v hv
    · rw [List.getElem?_append_right (by omega)] at hv
      have : j - l.length = 0 := by
        have := (List.getElem?_eq_some_iff.1 hv).1
        simp at this; omega
      rw [this] at hv
      simp only [List.getElem?_cons_zero, Option.some.injEq] at hv
      subst hv
      rw [show j = n by omega]; exact hu
theorem KP.slc {S : Nat → Prop} {w w' : World} {k n : Nat} {v : Value} {cs : List Value} (h : SlC (US S w) w k v n cs) (hk : KP w w') : ∃ cs', SlC (US S w') w' k v n cs' ∧ cs'.length = cs.length ∧ ∀ (j : Nat) (u u' : Value), cs[j]? = some u → cs'[j]? = some u' → Kd u u' := by
  obtain ⟨h0, a, c, h1, h2, h3, h4, h5⟩ := h
  rcases h5 with h5 | ⟨g, o, h6, h7, h8⟩
  · have hcs : cs = [] := List.eq_nil_of_length_eq_zero (by rw [h0, h5]; simp)
    subst hcs
    exact ⟨[], ⟨h0, a, c, h1, h2, h3, h4, .inl h5⟩, rfl, fun j u u' hj => by simp at hj⟩
  · obtain ⟨l, l1, l2⟩ := list_of (P := fun j u' => w'.cell? ⟨g, o + j, none⟩ = some u' ∧ ∀ u, cs[j]? = some u → Kd u u') cs.length fun j hj => by
      obtain ⟨u', k1, k2⟩ := hk.cell (h8 j cs[j] (by simp [hj]))
      exact ⟨u', k1, fun u hu => by rw [List.getElem?_eq_getElem hj] at hu; cases hu; exact k2⟩
    exact ⟨l, ⟨by rw [l1]; exact h0, a, c, h1, h2, h3, h4, .inr ⟨g, o, h6, ⟨h7.1, hk.uf h7.2⟩, fun j u hj => (l2 j u hj).1⟩⟩, l1, fun j u u' hj hj' => (l2 j u' hj').2 u hj⟩
theorem KP.ints {S : Nat → Prop} {w w' : World} {v : Value} {l : List Int} (h : IntU S w v l) (hk : KP w w') : ∃ l', IntU S w' v l' ∧ l'.length = l.length := by
  obtain ⟨cs', h1, h2, h3⟩ := KP.slc h hk
  rw [List.length_map] at h2
  have hex : ∃ l' : List Int, l'.length = l.length ∧ cs' = l'.map (Value.int .i64) := by
    have hall : ∀ u ∈ cs', ∃ y, u = .int .i64 y := fun u hu => by
      obtain ⟨j, hj, rfl⟩ := List.getElem_of_mem hu
      have := h3 j (.int .i64 (l[j]'(by omega))) cs'[j] (by simp [show j < l.length by omega]) (by simp [hj])
      exact this.int
    clear h1 h3
    revert h2 hall
    generalize l.length = n
    intro h2 hall
    subst h2
    induction cs' with
    | nil => exact ⟨[], rfl, rfl⟩
    | cons u cs ih =>
      obtain ⟨y, rfl⟩ := hall u (by simp)
      obtain ⟨l', e1, e2⟩ := ih (fun u hu => hall u (by simp [hu]))
      exact ⟨y :: l', by simp [e1], by simp [e2]⟩
  obtain ⟨l', e1, rfl⟩ := hex
  refine ⟨l', ?_, e1⟩
  show SlC _ _ _ _ _ _
  rw [e1]; exact h1
theorem KP.fcs {S : Nat → Prop} {w w' : World} (hk : KP w w') : ∀ (y : Fo) (cs cs' : List Value), FCsU S w y cs → cs'.length = cs.length → (∀ (j : Nat) (u u' : Value), cs[j]? = some u → cs'[j]? = some u' → Kd u u') → ∃ y', FCsU S w' y' cs' ∧ y'.len = y.len ∧ y'.cnt = y.cnt
  | .nil, cs, cs', h, hl, _ => by
    rw [show cs = [] from h] at hl
    rw [List.eq_nil_of_length_eq_zero (show cs'.length = 0 by simpa using hl)]
    exact ⟨.nil, rfl, rfl, rfl⟩
  | .cons n l s r, cs, cs', ⟨vn, vs, ds, h1, h2, ⟨es, h3, h4⟩, h5⟩, hl, hd => by
    subst h1
    match cs', hl with
    | [c0, c1, c2], hl =>
      simp only [List.length_cons, List.length_nil] at hl
      have hds : ds = [] := List.eq_nil_of_length_eq_zero (by omega)
      subst hds
      have := FCs.length h5
      have hr : r = .nil := by
        cases r with
        | nil => rfl
        | cons _ _ _ _ => simp only [List.length_nil, Fo.len] at this; omega
      subst hr
      obtain ⟨s0, e0⟩ := (hd 0 _ c0 rfl rfl).str
      obtain ⟨an, cn, rfl, _⟩ := SlC.shape h2
      obtain ⟨ab, cb, rfl, _⟩ := SlC.shape h3
      have e1 := (hd 1 _ c1 rfl rfl).slice
      have e2 := (hd 2 _ c2 rfl rfl).slice
      obtain ⟨l', k1, k2⟩ := KP.ints h2 hk
      obtain ⟨es', m1, m2, m3⟩ := KP.slc h3 hk
      obtain ⟨s', q1, q2, q3⟩ := KP.fcs hk s es es' h4 m2 m3
      subst e0 e1 e2
      refine ⟨.cons s0.data.toList l' s' .nil, ⟨_, _, [], by rw [bs_of], k1, ⟨es', by rw [q2]; exact m1, q1⟩, rfl⟩, rfl, ?_⟩
      simp only [Fo.cnt, q3]
    | c0 :: c1 :: c2 :: c3 :: ct, hl =>
      obtain ⟨s0, e0⟩ := (hd 0 _ c0 rfl rfl).str
      obtain ⟨an, cn, rfl, _⟩ := SlC.shape h2
      obtain ⟨ab, cb, rfl, _⟩ := SlC.shape h3
      have e1 := (hd 1 _ c1 rfl rfl).slice
      have e2 := (hd 2 _ c2 rfl rfl).slice
      obtain ⟨l', k1, k2⟩ := KP.ints h2 hk
      obtain ⟨es', m1, m2, m3⟩ := KP.slc h3 hk
      obtain ⟨s', q1, q2, q3⟩ := KP.fcs hk s es es' h4 m2 m3
      obtain ⟨r', p1, p2, p3⟩ := KP.fcs hk r ds (c3 :: ct) h5 (by simp only [List.length_cons] at hl ⊢; omega) (fun j u u' hj hj' => hd (j + 3) u u' (by simpa using hj) (by simpa using hj'))
      subst e0 e1 e2
      refine ⟨.cons s0.data.toList l' s' r', ⟨_, _, c3 :: ct, by rw [bs_of], k1, ⟨es', by rw [q2]; exact m1, q1⟩, p1⟩, ?_, ?_⟩
      · simp only [Fo.len, p2]
      · simp only [Fo.cnt, q3, p3]
    | [], hl => simp at hl
    | [_], hl => simp at hl
    | [_, _], hl => simp at hl
theorem KP.fsl {S : Nat → Prop} {w w' : World} {v : Value} {y : Fo} (h : FSlU S w v y) (hk : KP w w') : ∃ y', FSlU S w' v y' ∧ y'.len = y.len ∧ y'.cnt = y.cnt := by
  obtain ⟨ds, h1, h2⟩ := h
  obtain ⟨ds', k1, k2, k3⟩ := KP.slc h1 hk
  obtain ⟨y', q1, q2, q3⟩ := KP.fcs hk y ds ds' h2 k2 k3
  exact ⟨y', ⟨ds', by rw [q2]; exact k1, q1⟩, q2, q3⟩
end Go.Proofs.LF
