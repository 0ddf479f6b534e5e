/- Parts of the proof of a law of layer 11 (file): LfW3, LfChain, LfHeld3. The conditions stand in each theorem. -/
import Derived.BigQuiet
import Derived.Deep.AppendLies
import Derived.Deep.QuietTactic
import Derived.Deep.RegionHeld3
import Derived.Laws.RangeAny
import Derived.Laws.ResultCell
import Derived.Outline
import Derived.Test.YtadkpjgpefcphaaGreatDoorProg
import Derived.WalkKit
import Derived.WalkLawsBesides
import Derived.WalkSpells
import Derived.Test.YtadkpjgpefcphaaGreatDoorMdag
import Derived.Test.YtadkpjgpefcphaaGreatDoorMdah
set_option linter.all false
set_option linter.unusedVariables false
set_option linter.unusedSimpArgs false
namespace Go.Proofs.LF
open Go.RowKit
set_option maxHeartbeats 1000000
set_option maxRecDepth 100000
attribute [local go_sem] bs_toList
theorem bs_get (s : List UInt8) (k : Nat) (h : k < s.length) : (bs s)[k]'(by rw [bs_size]; exact h) = s[k] := by
  show (bs s).data[k]'_ = _
  simp [bs]
theorem named_any (s : List UInt8) (w : World) (hlen : s.length ≤ 1000000) :
    Calls Tryz.prog 154 #[.string (bs s)] w fun e w' => e = .returned (.bool (!badNm s)) ∧ Below w.heap.size w w' := by
  go_enter Tryz.func154, Tryz.ntmps154
  go_wp2_with fail
  go_loopw [4] (fun _ wr => ∃ k : Nat, k ≤ s.length ∧ wr = w.iter (bs s) k ∧ Hid (∀ j (h : j < s.length), j < k → ¬ ((s[j].toNat : Int) < 97 ∨ 122 < (s[j].toNat : Int)))) (fun _ wr => s.length - wr.iterPos w.heap.size)
  case atStart => exact ⟨0, by omega, rfl, fun j _ h => by omega⟩
  case round =>
    obtain ⟨k, hk, rfl, H2⟩ := hrel
    have hb1 : Below w.heap.size w (w.iter (bs s) k) := (Below.refl _ _).alloc (Nat.le_refl _) _
    by_cases hlt : k < s.length
    · have hg := bs_get s k hlt
      by_cases hok : (s[k].toNat : Int) < 97 ∨ 122 < (s[k].toNat : Int)
      · have hbad : badNm s = true := by
          simp only [badNm, Bool.or_eq_true, List.any_eq_true]
          exact .inl (.inl ⟨s[k]'hlt, List.getElem_mem hlt, by simpa using hok⟩)
        have HB := hid hbad
        clear hbad
        have hsz : k < (bs s).size := by rw [bs_size]; exact hlt
        by_cases ha : s[k].toNat < 128
        · have hn := fun ty => run_next_ascii (P := Tryz.prog) w (bs s) k ty hsz (by rw [hg]; exact ha)
          rw [hg] at hn
          clear hg
          by_cases h97 : (s[k].toNat : Int) < 97
          · clear hok
            go_wp2_with fail
            go_ret
            exact ⟨ret_bool (by rw [HB.out]; rfl), (Below.refl _ _).alloc (Nat.le_refl _) _⟩
          · have h122 : 122 < (s[k].toNat : Int) := by omega
            clear hok
            go_wp2_with fail
            go_ret
            exact ⟨ret_bool (by rw [HB.out]; rfl), (Below.refl _ _).alloc (Nat.le_refl _) _⟩
        · have hn := fun ty => run_next_any (P := Tryz.prog) w (bs s) k ty hsz
          have hd := (decode_high (bs s) k hsz (by rw [hg]; omega)).1
          generalize (Utf8.decode (bs s) k).1 = dc at hn hd
          have hd1 : (122 : Int) < (dc : Int) := by omega
          have hd2 : ¬ (dc : Int) < 97 := by omega
          clear hg hok hd
          go_wp2_with fail
          go_ret
          exact ⟨ret_bool (by rw [HB.out]; rfl), (Below.refl _ _).alloc (Nat.le_refl _) _⟩
      · have hn := fun ty => run_next_ascii (P := Tryz.prog) w (bs s) k ty (by rw [bs_size]; exact hlt) (by rw [hg]; omega)
        rw [hg] at hn
        have h1 : ¬ (s[k].toNat : Int) < 97 := by omega
        have h2 : ¬ 122 < (s[k].toNat : Int) := by omega
        have HO := hid hok
        clear hg hok
        go_wp2_with fail
        go_roundw
        case rel => exact ⟨k + 1, by omega, rfl, fun j hj h => by rcases Nat.lt_succ_iff_lt_or_eq.1 h with h' | h'; exact H2.out j hj h'; subst h'; exact HO.out⟩
        case measure => simp; omega
    · have hn := fun ty => run_next_end (P := Tryz.prog) w (bs s) k ty (by rw [bs_size]; exact hlt)
      go_wp2_with (go_at_call 151; refine (in_any _ _ _ _).mono ?_; rintro e w' ⟨rfl, rfl⟩)
      go_ret
      refine ⟨ret_bool ?_, hb1⟩
      have : s.any (fun c => decide ((c.toNat : Int) < 97) || decide (122 < (c.toNat : Int))) = false := by
        rw [List.any_eq_false]
        intro c hc
        obtain ⟨j, hj, rfl⟩ := List.getElem_of_mem hc
        have := H2.out j hj (by omega)
        simpa using this
      simp only [badNm, this, inB, Bool.false_or, bs_size]
      rw [Bool.eq_iff_iff]; simp
theorem every1_int (g : Nat) (hE : Enters g) (caps : List Value) (x : Value) (b : Bool) (bx : Nat) (W : World) (hbx : W.cell? ⟨bx, 0, none⟩ = some (.func (.func g) #[] caps.toArray))
    (h : Calls Tryz.prog g (x :: caps).toArray W fun e w' => e = .returned (.bool b) ∧ Below W.heap.size W w') :
    Calls Tryz.prog 209 #[x, .pointer (some ⟨bx, 0, none⟩)] W fun e w' => e = .returned (.bool (!b)) ∧ Below W.heap.size W w' := by
  have hE' : ∀ (args : Array Value) (W : World), Sem.run Tryz.prog (callFunc g args) W = .ok (.enter g args) W := hE
  have H := hid h
  clear hE h
  go_enter Tryz.func209, Tryz.ntmps209
  go_wp2_with fail
  refine H.out.mono ?_
  rintro e w' ⟨rfl, hb⟩
  go_wp2_with fail
  go_ret
  exact ⟨rfl, hb⟩
theorem enters209 : Enters 209 := by
  intro args W
  simp [go_sem]
theorem enters156 : Enters 156 := by
  intro args W
  simp [go_sem]
def allN (p : Nat → Bool) (n : Nat) : Bool := !anyN (fun i => !p i) n
theorem every_int (g : Nat) (hE : Enters g) (p : Nat → Bool) (caps : List Value) (n : Nat) (a : Option Addr) (c : Nat) (cs : List Value) (S : Nat → Prop) (w : World) (hl : SlC S w 1 (.slice a n c) n cs) (hS : ∀ b, S b → b < w.heap.size) (hlen : n ≤ 100000)
    (hp : ∀ i, i < n → PredC g caps w [elemV 1 cs i] (p i)) :
    Calls Tryz.prog 157 #[.slice a n c, .func (.func g) #[] caps.toArray] w fun e w' => e = .returned (.bool (allN p n)) ∧ Below w.heap.size w w' := by
  have HP := hid hp
  clear hp
  go_enter Tryz.func157, Tryz.ntmps157
  go_wp2_with fail
  refine (cont_int 209 enters209 (fun i => !p i) [.pointer (some ⟨w.heap.size, 0, none⟩)] n a c cs S _ (SlC.agree hl (Agree.of_below (B := w.heap.size) ((Below.refl _ _).alloc (Nat.le_refl _) _) hS)) ?_ hlen ?_).mono ?_
  · intro b hb; have := hS b hb; simp; omega
  · intro i hi W hW
    refine every1_int g hE caps _ (p i) w.heap.size W (below_cell hW (by simp) (by simp)) (HP.out i hi W ?_)
    exact ((Below.refl _ _).alloc (Nat.le_refl _) _).trans (hW.mono (by simp))
  · rintro e w' ⟨rfl, hb⟩
    go_wp2_with fail
    go_ret
    exact ⟨rfl, ((Below.refl _ _).alloc (Nat.le_refl _) _).trans (hb.mono (by simp))⟩
theorem numbers_any (l : List Int) (an : Option Addr) (cn : Nat) (S : Nat → Prop) (w : World) (hl : Ints S w (.slice an l.length cn) l) (hS : ∀ b, S b → b < w.heap.size) (hlen : l.length ≤ 1000) :
    Calls Tryz.prog 157 #[.slice an l.length cn, .func (.func 156) #[] #[]] w fun e w' => e = .returned (.bool (!badNs l)) ∧ Below w.heap.size w w' := by
  refine (every_int 156 enters156 (fun i => inB (l.getD i 0) 0 9999) [] l.length an cn _ S w hl hS (by omega) ?_).mono ?_
  · intro i hi W hW
    have : elemV 1 (l.map (Value.int .i64)) i = .int .i64 (l.getD i 0) := by simp [elemV, hi]
    rw [this]
    exact (number_any _ W).mono fun e w' ⟨he, hw⟩ => ⟨he, by rw [← hw]; exact Below.refl _ _⟩
  · rintro e w' ⟨rfl, hb⟩
    refine ⟨ret_bool ?_, hb⟩
    unfold allN badNs
    rw [anyN_list (fun x => offB x 9999) _ l (fun i hi => by simp [hi, inB, offB]; rw [Bool.eq_iff_iff]; simp)]
end Go.Proofs.LF
namespace Go.Proofs.LF
def Srt (l : List Fl) : Prop := l.Pairwise (fun a b => cmpP a.p b.p < 0)
def Clo (l : List Fl) : Prop := ∀ x ∈ l, x.p.dropLast ≠ [] → ∃ z ∈ l, z.p = x.p.dropLast
theorem cmpP_pre : ∀ (u t : List Ky), t ≠ [] → cmpP u (u ++ t) < 0
  | [], t, h => by cases t with | nil => exact absurd rfl h | cons _ _ => simp [cmpP]
  | a :: u, t, h => by simp only [List.cons_append, cmpP, byK_ord.refl, ne_eq, not_true, if_false]; exact cmpP_pre u t h
theorem cmpP_same (x y : List Ky) : ∀ (u : List Ky), cmpP (u ++ x) (u ++ y) = cmpP x y
  | [] => rfl
  | a :: u => by simp only [List.cons_append, cmpP, byK_ord.refl, ne_eq, not_true, if_false]; exact cmpP_same x y u
theorem flsL_pre : ∀ (y : Fo) (u : List Ky), ∀ x ∈ flsL u y, ∃ k t, x.p = u ++ k :: t
  | .nil, u, x, h => by simp [flsL_nil] at h
  | .cons n l s r, u, x, h => by
    rw [flsL_cons] at h
    rcases List.mem_cons.1 h with rfl | h
    · exact ⟨_, [], rfl⟩
    · rcases List.mem_append.1 h with h | h
      · obtain ⟨k, t, hp⟩ := flsL_pre s _ x h
        exact ⟨kyOf n l, k :: t, by rw [hp]; simp⟩
      · exact flsL_pre r u x h
theorem Srt.nodup {l : List Fl} (h : Srt l) : (l.map Fl.p).Nodup := by
  unfold Srt at h
  rw [List.Nodup, List.pairwise_map]
  exact h.imp fun {a b} hab e => by rw [e, cmpP_ord.refl] at hab; omega
end Go.Proofs.LF
namespace Go.Proofs.LF
open Go.RowKit
section
variable {F : Fence} {n : Nat} {P : Program} {ops : Array Oper} {Q : Exit → Act → World → Prop} {md : Region.Mode} {S : Array Bool → World → Prop}
def LstC (md : Region.Mode) (ops : Array Oper) (listed : Array Bool) : Prop := ∀ j o, ops[j]? = some o → listed.getD j false = true → ∀ e ∈ o.after, Region.binds md e = true → listed.getD e.on false = true
def lstB (md : Region.Mode) (ops : Array Oper) (listed : Array Bool) : Bool := (List.range ops.size).all fun j => !listed.getD j false || match ops[j]? with | some o => o.after.all (fun e => !Region.binds md e || listed.getD e.on false) | none => true
theorem lstB_spec {listed : Array Bool} (h : lstB md ops listed = true) : LstC md ops listed := fun j o ho hl e he hb => by
  unfold lstB at h
  rw [List.all_eq_true] at h
  have hj : j < ops.size := (Array.getElem?_eq_some_iff.1 ho).1
  have h1 := h j (List.mem_range.2 hj)
  rw [hl, ho] at h1
  simp only [Bool.not_true, Bool.false_or, Array.all_eq_true] at h1
  obtain ⟨k, hk, rfl⟩ := Array.getElem_of_mem he
  have h2 := h1 k hk
  rw [hb] at h2
  simpa using h2
theorem LstC.set {listed : Array Bool} (h : LstC md ops listed) {i : Nat} (hi : i ∈ Region.ready md ops listed) : LstC md ops (listed.setIfInBounds i true) := fun j o ho hl e he hb => by
  obtain ⟨_, o', ho', hall⟩ := mem_ready.1 hi
  by_cases hji : i = j
  · subst hji
    rw [ho] at ho'
    cases ho'
    exact getD_set_true (hall e he hb)
  · rw [getD_set_ne false hji] at hl
    exact getD_set_true (h j o ho hl e he hb)
theorem waits_at {i k : Nat} {o : Oper} (hk : ops[k]? = some o) (h : waits md ops k i = true) : ∃ e ∈ o.after, Region.binds md e = true ∧ e.on = i := by
  unfold waits at h
  rw [hk] at h
  simp only [Array.any_eq_true, Bool.and_eq_true, beq_iff_eq] at h
  obtain ⟨m, hm, hb, he⟩ := h
  exact ⟨_, Array.getElem_mem hm, hb, he⟩
def Unl (listed : Array Bool) (i : Nat) : Prop := listed.getD i false = false
theorem ready_un {listed : Array Bool} {i : Nat} (hr : i ∈ Region.ready md ops listed) : Unl listed i := by
  have h0 := (mem_ready.1 hr).1
  unfold Unl
  rcases Nat.lt_or_ge i listed.size with h' | h'
  · simp [h'] at h0 ⊢; exact h0
  · simp [Array.getElem?_eq_none h']
theorem un_next {listed : Array Bool} (hc : LstC md ops listed) {i k : Nat} {ok : Oper} (hk : ops[k]? = some ok) (h : waits md ops k i = true) (hu : Unl listed i) : Unl listed k := by
  unfold Unl at *
  cases hl : listed.getD k false with
  | false => rfl
  | true =>
    obtain ⟨e, he, hb, rfl⟩ := waits_at hk h
    have := hc _ _ hk hl e he hb
    rw [hu] at this
    cases this
theorem un_set {listed : Array Bool} {i k : Nat} (h : i ≠ k) : Unl (listed.setIfInBounds i true) k ↔ Unl listed k := by unfold Unl; rw [getD_set_ne false h]
def AnyG (F : Fence) (n : Nat) (P : Program) (md : Region.Mode) (ops : Array Oper) (Q : Exit → Act → World → Prop) (S : Array Bool → World → Prop) : Nat → Array Bool → Act → World → Prop
  | 0, listed, a, w => Region.ready md ops listed = [] ∧ Q .normal a w
  | fuel + 1, listed, a, w =>
    (Region.ready md ops listed = [] → Q .normal a w) ∧
    ∀ i ∈ Region.ready md ops listed, wpOpIn F n P ops Q i (fun a' w' => S (listed.setIfInBounds i true) w' ∧ AnyG F n P md ops Q S fuel (listed.setIfInBounds i true) a' w') a w
theorem any_of_G : ∀ (fuel : Nat) (listed : Array Bool) (a : Act) (w : World), AnyG F n P md ops Q S fuel listed a w → wpAnyIn F n P md ops Q fuel listed a w
  | 0, _, _, _, h => h
  | fuel + 1, _, _, _, h => ⟨h.1, fun i hi => wpOpIn_mono (fun a' w' h' => any_of_G fuel _ a' w' h'.2) (h.2 i hi)⟩
def AtSome (md : Region.Mode) (ops : Array Oper) (S : Array Bool → World → Prop) (i : Nat) (w : World) : Prop := ∃ listed, LstC md ops listed ∧ i ∈ Region.ready md ops listed ∧ S listed w
theorem AnyG_first (hF : ∀ f, F.fn f) (hnd : ops.all notDefer = true) {i : Nat} {oi : Oper} {v : Value} (hi : ops[i]? = some oi) (hsel : ∀ (j : Nat) (o : Oper) cs b, ops[j]? = some o → o.op ≠ .select cs b)
    (hQ : ∀ c a w, Q (.panic c) (a.put oi.dst v) w → Q (.panic c) a w) (hins : ∀ listed w, S (listed.setIfInBounds i true) w ↔ S listed w) :
    ∀ (fuel : Nat) (listed : Array Bool) (a : Act) (w : World), LstC md ops listed →
      (∀ j oj, ops[j]? = some oj → j ≠ i → listed.getD j true = false → (∀ e ∈ oj.after, Region.binds md e = true → e.on ≠ i) → oi.apart ops oj = true) →
      i ∈ Region.ready md ops listed → YIf P ops (AtSome md ops S i) oi v a → S listed w →
      AnyG F n P md ops Q S fuel (listed.setIfInBounds i true) (a.put oi.dst v) w → AnyG F n P md ops Q S (fuel + 1) listed a w := by
  have hno : ∀ j o, ops[j]? = some o → notDefer o = true := fun j o h => by
    rw [Array.all_eq_true] at hnd
    obtain ⟨hj, rfl⟩ := Array.getElem?_eq_some_iff.1 h
    exact hnd j hj
  intro fuel
  induction fuel with
  | zero =>
    intro listed a w hcl _ hr hy hS H
    refine ⟨fun h => (by rw [h] at hr; cases hr), fun j hj => ?_⟩
    by_cases hji : j = i
    · subst hji; exact hy.wpOp hF hi (hno _ _ hi) ⟨listed, hcl, hr, hS⟩ ⟨(hins _ _).2 hS, H⟩
    · have := ready_mono hj hji
      rw [H.1] at this
      cases this
  | succ fuel ih =>
    intro listed a w hcl hfree hr hy hS H
    refine ⟨fun h => (by rw [h] at hr; cases hr), fun j hj => ?_⟩
    by_cases hji : j = i
    · subst hji; exact hy.wpOp hF hi (hno _ _ hi) ⟨listed, hcl, hr, hS⟩ ⟨(hins _ _).2 hS, H⟩
    · have h1 := H.2 j (ready_mono hj hji)
      obtain ⟨hjun, oj, hoj, hall⟩ := mem_ready.1 hj
      have hnot : ∀ e ∈ oj.after, Region.binds md e = true → e.on ≠ i := fun e he hb heq => by
        have h1 := hall e he hb
        have h0 := (mem_ready.1 hr).1
        rw [heq] at h1
        rcases Nat.lt_or_ge i listed.size with h' | h'
        · simp [h'] at h0 h1; rw [h0] at h1; cases h1
        · simp [Array.getElem?_eq_none h'] at h1
      have h2 := wpOpIn_putIf hoj (hno _ _ hoj) (hfree j oj hoj hji hjun hnot) (fun cs b => hsel i oi cs b hi) (fun cs b => hsel j oj cs b hoj) hQ hy h1
      have hfree' : ∀ k ok, ops[k]? = some ok → k ≠ i → (listed.setIfInBounds j true).getD k true = false →
          (∀ e ∈ ok.after, Region.binds md e = true → e.on ≠ i) → oi.apart ops ok = true := fun k ok hk hki hun hno => by
        refine hfree k ok hk hki ?_ hno
        by_cases hjk : j = k
        · subst hjk; exact hjun
        · rw [getD_set_ne true hjk] at hun; exact hun
      refine wpOpIn_mono (fun a' w' h3 => ?_) h2
      rw [Array.setIfInBounds_comm _ _ (Ne.symm hji)] at h3
      have hs' := (hins _ _).1 h3.2.1
      exact ⟨hs', ih (listed.setIfInBounds j true) a' w' (hcl.set hj) hfree' (ready_mono hr (Ne.symm hji)) h3.1 hs' h3.2.2⟩
theorem AnyG_takeD (hF : ∀ f, F.fn f) (hnd : ops.all notDefer = true) (i t : Nat) (v : Value) {oi : Oper} {fuel : Nat} {listed : Array Bool} {a : Act} {w : World} (hi : ops[i]? = some oi) (hd : oi.dst = some t)
    (hs : Region.noSelect ops = true) (hf : Region.free md ops listed i = true) (hr : (Region.ready md ops listed).contains i = true) (hc : lstB md ops listed = true) (hins : ∀ listed w, S (listed.setIfInBounds i true) w ↔ S listed w)
    (hQ : ∀ c a w, Q (.panic c) (a.put (some t) v) w → Q (.panic c) a w) (hy : YIf P ops (AtSome md ops S i) oi v a) (hS : S listed w)
    (h : AnyG F n P md ops Q S fuel (listed.setIfInBounds i true) (a.put (some t) v) w) : AnyG F n P md ops Q S (fuel + 1) listed a w :=
  AnyG_first hF hnd hi (Region.noSelect_spec hs) (by rw [hd]; exact hQ) hins fuel listed a w (lstB_spec hc) (Region.free_spec hi hf) (by simpa using hr) hy hS (by rw [hd]; exact h)
theorem AnyG_one {i : Nat} {o : Oper} {fuel : Nat} {listed : Array Bool} {a : Act} {w : World} (hr : Region.ready md ops listed = [i]) (ho : ops[i]? = some o) (hw : Region.wanted o (yielded ops a.tmps) = true)
    (h : ∀ K : Act → World → Prop, (∀ a w, S (listed.setIfInBounds i true) w ∧ AnyG F n P md ops Q S fuel (listed.setIfInBounds i true) a w → K a w) → Oper.wpIn F n P o a w K Q) : AnyG F n P md ops Q S (fuel + 1) listed a w :=
  ⟨fun h0 => (by rw [hr] at h0; cases h0), hr ▸ fun j hj => by
    obtain rfl : j = i := by simpa using hj
    unfold wpOpIn
    rw [ho]
    simp only [hw, if_true]
    exact h _ fun _ _ h => h⟩
theorem AnyG_done {fuel : Nat} {listed : Array Bool} {a : Act} {w : World} (hr : Region.ready md ops listed = []) (h : Q .normal a w) : AnyG F n P md ops Q S fuel listed a w := by
  cases fuel with
  | zero => exact ⟨hr, h⟩
  | succ f => exact ⟨fun _ => h, fun i hi => (by rw [hr] at hi; cases hi)⟩
theorem region_G {id : Nat} {a : Act} {w : World} (S : Array Bool → World → Prop) (hm : P.follows .mixedOrders = true)
    (h : AnyG F n P .any ops Q S ops.size (Array.replicate ops.size false) a w.drew) : (Code.region id ops true).wpIn F n P Q a w :=
  wpIn_region_any hm (any_of_G _ _ _ _ h)
end
end Go.Proofs.LF
