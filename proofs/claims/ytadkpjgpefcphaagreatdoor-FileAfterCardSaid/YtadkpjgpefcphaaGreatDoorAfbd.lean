/- Parts of the proof of a law of layer 11 (file): LfW52a, LfW99, LfW82, LfTu, LfW109, LfW55a, LfW102, LfTu2, LfW60, LfW67, LfW103. The conditions stand in each theorem. -/
import Derived.Shelf.SlSortCmp.WholeK
import Derived.Test.YtadkpjgpefcphaaGreatDoorProg
import Derived.Test.YtadkpjgpefcphaaGreatDoorAfac
import Derived.Test.YtadkpjgpefcphaaGreatDoorAfad
import Derived.Test.YtadkpjgpefcphaaGreatDoorAfae
import Derived.Test.YtadkpjgpefcphaaGreatDoorAfaf
import Derived.Test.YtadkpjgpefcphaaGreatDoorAfag
import Derived.Test.YtadkpjgpefcphaaGreatDoorAfaj
import Derived.Test.YtadkpjgpefcphaaGreatDoorAfak
import Derived.Test.YtadkpjgpefcphaaGreatDoorAfal
import Derived.Test.YtadkpjgpefcphaaGreatDoorAfam
import Derived.Test.YtadkpjgpefcphaaGreatDoorAfau
import Derived.Test.YtadkpjgpefcphaaGreatDoorAfav
import Derived.Test.YtadkpjgpefcphaaGreatDoorAfaw
import Derived.Test.YtadkpjgpefcphaaGreatDoorAfaz
import Derived.Test.YtadkpjgpefcphaaGreatDoorAfba
import Derived.Test.YtadkpjgpefcphaaGreatDoorAfbb
import Derived.Test.YtadkpjgpefcphaaGreatDoorAfbc
set_option linter.all false
set_option linter.unusedVariables false
set_option linter.unusedSimpArgs false
namespace Go.Proofs.LF
open Go.RowKit Go.Sort
set_option maxHeartbeats 4000000
set_option maxRecDepth 100000
attribute [local go_sem] bs_toList bs_size bs_get
theorem Same_any (p q : List Ky) (ap aq : Option Addr) (cp cq : Nat) (S : Nat → Prop) (w : World) (hp : Pth S w (.slice ap p.length cp) p) (hq : Pth S w (.slice aq q.length cq) q) (lp : p.length ≤ 100000) (lq : q.length ≤ 100000) :
 Calls Tryz.prog 73 #[.slice ap p.length cp, .slice aq q.length cq] w fun e w' => e = .returned (.bool (decide (p = q))) ∧ Below w.heap.size w w' := by
 by_cases hne : p.length = q.length
 · have hne' : ((p.length : Int) != (q.length : Int)) = false := by simp; omega
   have HN := hid hne
   clear hne
   go_enter Tryz.func73, Tryz.ntmps73
   go_wp2_with fail
   go_loopw [5] (fun i wr => ∃ (k d : Nat), k ≤ p.length ∧ i = .int .i64 k ∧ wr = w.drewN d ∧ Hid (p.take k = q.take k)) (fun i _ => p.length - (intOf i).toNat)
   case atStart => exact ⟨0, 0, by omega, rfl, rfl, by simp [Hid]⟩
   case round =>
    obtain ⟨k, d, hk, rfl, rfl, H2⟩ := hrel
    by_cases hlt : k < p.length
    · obtain ⟨g, o, rfl, _, _, _, hcell⟩ := SlC.cells hp (by omega)
      obtain ⟨g', o', rfl, _, _, _, hcell'⟩ := SlC.cells hq (by have := HN.out; omega)
      have hlt' : k < q.length := by have := HN.out; omega
      obtain ⟨k0, k1, k2⟩ := key_cells hlt
      obtain ⟨k0', k1', k2'⟩ := key_cells hlt'
      have c0 := hcell _ _ k0
      have c1 := hcell _ _ k1
      have c2 := hcell _ _ k2
      have d0 := hcell' _ _ k0'
      have d1 := hcell' _ _ k1'
      have d2 := hcell' _ _ k2'
      rw [← Nat.add_assoc] at c1 c2 d1 d2
      have htp : p.take (k + 1) = p.take k ++ [p[k]] := List.take_succ_eq_append_getElem hlt
      have htq : q.take (k + 1) = q.take k ++ [q[k]] := List.take_succ_eq_append_getElem hlt'
      obtain ⟨a, ha⟩ : ∃ a, p[k] = a := ⟨_, rfl⟩
      obtain ⟨b, hb⟩ : ∃ b, q[k] = b := ⟨_, rfl⟩
      have HA := hid ha
      have HB := hid hb
      rw [ha] at c0 c1 c2 htp
      rw [hb] at d0 d1 d2 htq
      have HTP := hid htp
      have HTQ := hid htq
      clear hcell hcell' k0 k1 k2 k0' k1' k2' htp htq ha hb
      have i1 : (0 : Int) ≤ (k : Int) := by omega
      have i2 : (k : Int) < (p.length : Int) := by omega
      have i3 : (k : Int) < (q.length : Int) := by omega
      by_cases he : a = b
      · subst he
        go_wp2_with fail
        go_quiet (fail)
        go_wp2_with fail
        go_roundw
        case rel => exact ⟨k + 1, _, by omega, by go_num, rfl, by rw [Hid, HTP.out, HTQ.out, H2.out]⟩
        case measure => simp [intOf]; omega
      · have hdec : (a.n == b.n && (a.h == b.h && a.x == b.x)) = false := by rw [← ky_beq]; simp [he]
        have HE := hid he
        have HDEC := hid hdec
        clear he hdec
        cases hn : (a.n == b.n) <;> cases hh : (a.h == b.h) <;> cases hx : (a.x == b.x)
        all_goals first
         | (exfalso; have := HDEC.out; rw [hn, hh, hx] at this; cases this; done)
         | (go_wp2_with fail
            go_quiet (fail)
            go_wp2_with fail
            go_ret
            refine ⟨ret_bool ?_, below_drewN (below_drewN (Below.refl _ _) _) _⟩
            symm
            rw [decide_eq_false_iff_not]
            rintro rfl
            exact HE.out (HA.out.symm.trans HB.out))
    · go_wp2_with fail
      go_ret
      obtain rfl : k = p.length := by omega
      refine ⟨ret_bool ?_, below_drewN (Below.refl _ _) _⟩
      symm
      have := H2.out
      rw [List.take_length, HN.out, List.take_length] at this
      exact decide_eq_true this
 · have hne' : ((p.length : Int) != (q.length : Int)) = true := by simp; omega
   have HN := hid hne
   clear hne
   go_enter Tryz.func73, Tryz.ntmps73
   go_wp2_with fail
   go_ret
   refine ⟨ret_bool ?_, Below.refl _ _⟩
   symm
   rw [decide_eq_false_iff_not]
   rintro rfl
   exact HN.out rfl
end Go.Proofs.LF
namespace Go.Proofs.LF
open Go.RowKit Go.Sort
theorem fmK_len {α : Type} (enc : α → List Value) (k : Nat) (hk : ∀ x, (enc x).length = k) : ∀ (ds : List α), (ds.flatMap enc).length = ds.length * k
 | [] => by simp
 | x :: ds => by rw [List.flatMap_cons, List.length_append, hk, fmK_len enc k hk ds, List.length_cons, Nat.add_mul]; omega
theorem fmK_get {α : Type} [Inhabited α] (enc : α → List Value) (k : Nat) (hk : ∀ x, (enc x).length = k) (hp : 0 < k) : ∀ (ds : List α) (t : Nat), t < ds.length * k → (ds.flatMap enc)[t]! = (enc ds[t / k]!)[t % k]!
 | [], t, h => by simp at h
 | x :: ds, t, h => by
   rw [List.flatMap_cons]
   by_cases h1 : t < k
   · have h2 : t / k = 0 := Nat.div_eq_of_lt h1
     have h3 : t % k = t := Nat.mod_eq_of_lt h1
     rw [h2, h3]
     simp [List.getElem!_eq_getElem?_getD, List.getElem?_append, hk, h1]
   · obtain ⟨u, rfl⟩ : ∃ u, t = k + u := ⟨t - k, by omega⟩
     have h2 : (k + u) / k = u / k + 1 := by rw [Nat.add_comm, Nat.add_div_right _ hp]
     have h3 : (k + u) % k = u % k := by rw [Nat.add_comm, Nat.add_mod_right]
     have h4 : u < ds.length * k := by rw [List.length_cons, Nat.add_mul] at h; omega
     have := fmK_get enc k hk hp ds u h4
     rw [h2, h3]
     simp [List.getElem!_eq_getElem?_getD, List.getElem?_append, hk, show ¬ k + u < k by omega] at this ⊢
     exact this
structure FV where
 ap : Option Addr
 cp : Nat
 an : Option Addr
 cn : Nat
 f : Fl
def FV.vs (x : FV) : List Value := [.slice x.ap x.f.p.length x.cp, .slice x.an x.f.l.length x.cn]
set_option maxHeartbeats 4000000
set_option maxRecDepth 100000
theorem flatK_list {α : Type} [Inhabited α] (enc : α → List Value) (k : Nat) (hk : ∀ x, (enc x).length = k) (hp : 0 < k) (ds : List α) : (flatK enc k ds.toArray).toList = ds.flatMap enc := by
 apply List.ext_getElem
 · rw [fmK_len enc k hk]; simp
 · intro t h1 h2
   have h3 : t < ds.length * k := by rwa [fmK_len enc k hk] at h2
   have e1 := get_flatK enc k ds.toArray t (by simpa using h3)
   have e2 := fmK_get enc k hk hp ds t h3
   rw [getElem!_pos (flatK enc k ds.toArray) t (by simpa using h3)] at e1
   rw [getElem!_pos (ds.flatMap enc) t h2] at e2
   rw [Array.getElem_toList, e1, e2]
   simp
end Go.Proofs.LF
namespace Go.Proofs.LF
open Go.RowKit Go.Sort
set_option maxHeartbeats 4000000
set_option maxRecDepth 100000
attribute [local go_sem] bs_toList bs_size bs_get
theorem kp_lcs {α : Type} {k : Nat} {r : Rd α k} {S : Nat → Prop} {w : World} {xs : List α} {cs : List Value} (h : LCs r S w xs cs) {p : Nat → Bool} {pr : α → Bool} (hp : ∀ i (hi : i < xs.length), p i = pr xs[i]) : ∀ j, j ≤ xs.length → LCs r S w ((xs.take j).filter fun x => !pr x) (kpC k p cs j) ∧ kpN p j = ((xs.take j).filter fun x => !pr x).length
 | 0, _ => by simp [kpC, kpN, LCs]
 | j + 1, hj => by
   obtain ⟨h1, h2⟩ := kp_lcs h hp j (by omega)
   have hx : j < xs.length := by omega
   rw [List.take_succ_eq_append_getElem hx, List.filter_append, kpC, kpN, hp j hx]
   cases hq : pr xs[j] with
   | true => simpa [hq] using ⟨h1, h2⟩
   | false =>
     have h3 := (h.drop (i := j)).take (i := 1)
     rw [List.drop_eq_getElem_cons hx, Nat.one_mul] at h3
     simp only [List.take_succ_cons, List.take_zero] at h3
     simp only [List.filter_cons, List.filter_nil, hq, Bool.not_false, if_true, Bool.false_eq_true, if_false, List.length_append, List.length_singleton]
     exact ⟨h1.app h3, by rw [h2]⟩
def DropR (y : Fo) (q : List Ky) (w : World) (e : Ending) (w' : World) : Prop :=
 ∃ a c, e = .returned (.tuple #[.slice a (dropY y q).len c, .int .i64 (dropE y q)]) ∧ FSl (Rg w.heap.size w'.heap.size) w' (.slice a (dropY y q).len c) (dropY y q) ∧ Below w.heap.size w w'
theorem DropR.bad {y : Fo} {q : List Ky} {w w' : World} {x : Int} (hx : dropE y q = x) (h0 : x ≠ 0) (hb : Below w.heap.size w w') : DropR y q w (.returned (.tuple #[.slice none 0 0, .int .i64 x])) w' := by
 subst hx
 have h1 : dropY y q = .nil := by rw [dropY, if_neg h0]
 unfold DropR
 rw [h1]
 exact ⟨none, 0, rfl, ⟨[], ⟨rfl, _, 0, rfl, nl_ _, by simp [maxLen], fun _ => rfl, .inl rfl⟩, rfl⟩, hb⟩
end Go.Proofs.LF
namespace Go.Proofs.LF
open Go.RowKit Go.Sort
theorem turn1_u (x : Ch) (ap ao an : Option Addr) (cp co cn : Nat) (S : Nat → Prop) (w : World) (hp : Pth S w (.slice ap x.p.length cp) x.p) (ho : Ints S w (.slice ao x.old.length co) x.old) (hn : Ints S w (.slice an x.new.length cn) x.new) (hS : ∀ b, S b → b < w.heap.size) (lp : x.p.length ≤ 1000) (lo : x.old.length ≤ 1000) (ln : x.new.length ≤ 1000) :
 Calls Tryz.prog 166 #[.agg #[.slice ap x.p.length cp, .bool x.had, .bool x.has, .slice ao x.old.length co, .slice an x.new.length cn]] w fun e w' =>
  ∃ ap cp ao co an cn, e = .returned (.agg #[.slice ap x.p.length cp, .bool x.has, .bool x.had, .slice an x.new.length cn, .slice ao x.old.length co]) ∧ PthU (Rg w.heap.size w'.heap.size) w' (.slice ap x.p.length cp) x.p ∧ IntU (Rg w.heap.size w'.heap.size) w' (.slice an x.new.length cn) x.new ∧ IntU (Rg w.heap.size w'.heap.size) w' (.slice ao x.old.length co) x.old ∧ Below w.heap.size w w' :=
 turned_u x ap ao an cp co cn S w hp ho hn hS lp lo ln
theorem turn2_u (x : Ch) (ap ao an : Option Addr) (cp co cn : Nat) (S : Nat → Prop) (w : World) (hp : Pth S w (.slice ap x.p.length cp) x.p) (ho : Ints S w (.slice ao x.old.length co) x.old) (hn : Ints S w (.slice an x.new.length cn) x.new) (hS : ∀ b, S b → b < w.heap.size) (lp : x.p.length ≤ 1000) (lo : x.old.length ≤ 1000) (ln : x.new.length ≤ 1000) :
 Calls Tryz.prog 166 #[.agg #[.slice ap x.p.length cp, .bool x.has, .bool x.had, .slice an x.new.length cn, .slice ao x.old.length co]] w fun e w' =>
  ∃ v, e = .returned v ∧ ChV (Rg w.heap.size w'.heap.size) w' x v ∧ Below w.heap.size w w' := by
 refine (turned_u (turnC x) ap an ao cp cn co S w hp hn ho hS lp ln lo).mono ?_
 rintro e w' ⟨ap1, cp1, ao1, co1, an1, cn1, he, h1, h2, h3, hb⟩
 exact ⟨_, he, ⟨ap1, cp1, an1, cn1, ao1, co1, rfl, h1, h2, h3⟩, hb⟩
theorem turn2_x (x : Ch) (ap ao an : Option Addr) (cp co cn : Nat) (S : Nat → Prop) (w : World) (hp : Pth S w (.slice ap x.p.length cp) x.p) (ho : Ints S w (.slice ao x.old.length co) x.old) (hn : Ints S w (.slice an x.new.length cn) x.new) (hS : ∀ b, S b → b < w.heap.size) (lp : x.p.length ≤ 1000) (lo : x.old.length ≤ 1000) (ln : x.new.length ≤ 1000) :
 Calls Tryz.prog 166 #[.agg #[.slice ap x.p.length cp, .bool x.has, .bool x.had, .slice an x.new.length cn, .slice ao x.old.length co]] w fun e w' =>
  ∃ ap cp ao co an cn, e = .returned (.agg #[.slice ap x.p.length cp, .bool x.had, .bool x.has, .slice ao x.old.length co, .slice an x.new.length cn]) ∧ PthU (Rg w.heap.size w'.heap.size) w' (.slice ap x.p.length cp) x.p ∧ IntU (Rg w.heap.size w'.heap.size) w' (.slice ao x.old.length co) x.old ∧ IntU (Rg w.heap.size w'.heap.size) w' (.slice an x.new.length cn) x.new ∧ Below w.heap.size w w' := by
 refine (turned_u (turnC x) ap an ao cp cn co S w hp hn ho hS lp ln lo).mono ?_
 rintro e w' ⟨ap1, cp1, ao1, co1, an1, cn1, he, h1, h2, h3, hb⟩
 exact ⟨ap1, cp1, an1, cn1, ao1, co1, he, h1, h2, h3, hb⟩
theorem owns_set {w : World} {B e k n g c i : Nat} {cs : List Value} {u : Value} (h : w.ownsRow B e k (.slice (some ⟨g, 0, none⟩) n c) n cs) (hi : i < n * k) : (w.setCell ⟨g, i, none⟩ u).ownsRow B e k (.slice (some ⟨g, 0, none⟩) n c) n (cs.set i u) ∧ w.grownBy (w.setCell ⟨g, i, none⟩ u) (some g) := by
 obtain ⟨h1, ⟨he, _⟩ | ⟨g', cap, cur, he, hbg, hgg, hn, hcap, hsz, htk⟩⟩ := h
 · cases he
 · cases he
   refine ⟨⟨by simpa using h1, .inr ⟨g, c, cur.setIfInBounds i u, rfl, hbg, ?_, hn, hcap, by simpa using hsz, ?_⟩⟩, ⟨rfl, rfl, rfl, by simp [World.setCell], fun b hb hne => Below.heap_setCell _ _ _ _ (fun e => hne (by rw [e]))⟩⟩
   · simp [World.setCell, Array.getElem?_modify, hgg]
   · rw [Array.toList_setIfInBounds, List.take_set, htk]
theorem owns_cell {w : World} {B e k n g c i : Nat} {cs : List Value} {u : Value} (h : w.ownsRow B e k (.slice (some ⟨g, 0, none⟩) n c) n cs) (hi : i < n * k) (hu : cs[i]? = some u) : w.cell? ⟨g, i, none⟩ = some u ∧ w.frozen? ⟨g, i, none⟩ = false := by
 obtain ⟨h1, ⟨he, _⟩ | ⟨g', cap, cur, he, hbg, hgg, hn, hcap, hsz, htk⟩⟩ := h
 · cases he
 · cases he
   refine ⟨cg_ hgg ?_, cells_frz hgg⟩
   rw [← htk, List.getElem?_take, if_pos hi] at hu
   simpa using hu
end Go.Proofs.LF
namespace Go.Proofs.LF
open Go.RowKit Go.Sort
set_option maxHeartbeats 4000000
set_option maxRecDepth 100000
attribute [local go_sem] bs_toList bs_size bs_get
theorem dupK_c (l : List Ky) (an : Option Addr) (cn : Nat) (S : Nat → Prop) (w : World) (hl : Pth S w (.slice an l.length cn) l) (hS : ∀ b, S b → b < w.heap.size) (hlen : l.length ≤ 1000) :
 Calls Tryz.prog 50 #[.slice an l.length cn] w fun e w' => ∃ a c, e = .returned (.slice a l.length c) ∧ Pth (Rg w.heap.size w'.heap.size) w' (.slice a l.length c) l ∧ Below w.heap.size w w' :=
 (dupK_own l an cn S w hl hS hlen).mono fun _ _ ⟨a, c, he, h1, hb⟩ => ⟨a, c, he, SlC.of_owns h1, hb⟩
theorem copied_any (l : List Ch) (al : Option Addr) (cl : Nat) (S : Nat → Prop) (w : World) (hv : ChSl S w (.slice al l.length cl) l) (hS : ∀ b, S b → b < w.heap.size) (hl : l.length ≤ 1000) (hsm : ∀ x ∈ l, x.p.length ≤ 1000 ∧ x.old.length ≤ 1000 ∧ x.new.length ≤ 1000) :
 Calls Tryz.prog 64 #[.slice al l.length cl] w fun e w' => ∃ a c, e = .returned (.slice a l.length c) ∧ ChSl (Rg w.heap.size w'.heap.size) w' (.slice a l.length c) l ∧ Below w.heap.size w w' := by
 obtain ⟨i0, hi0, hz0, hz1, hz2⟩ := info_parts Tryz.info68'
 obtain ⟨al', cl', ee, _, hcm, hat⟩ := LSl.at hv
 obtain ⟨rfl, rfl⟩ : al = al' ∧ cl = cl' := by cases ee; exact ⟨rfl, rfl⟩
 have HAT := hid hat
 have HS := hid hS
 have HSM := hid hsm
 unfold maxLen at hcm
 clear hv hS hsm ee hat
 go_enter Tryz.func64, Tryz.ntmps64
 go_wp2_with fail
 go_loopw [3, 8] (fun v i wr => ∃ (k : Nat) (cs : List Value), k ≤ l.length ∧ i = .int .i64 k ∧ wr.ownsRow w.heap.size 68 5 v k cs ∧ Hid (LCs rdCh (Rx w.heap.size wr.heap.size v) wr (l.take k) cs) ∧ Hid (Below w.heap.size w wr)) (fun _ i _ => l.length - (intOf i).toNat)
 case atStart => exact ⟨0, [], by omega, rfl, World.ownsRow_nil _ _ _ _, rfl, Below.refl _ _⟩
 case round =>
  obtain ⟨k, cs, hk, rfl, hown, hlc, HB⟩ := hrel
  have hzr := HB.out.size
  by_cases hlt : k < l.length
  · have hlt' : (k : Int) < (l.length : Int) := by omega
    obtain ⟨g, o, cs1, rfl, hg, ⟨ap, cp, ao, co, an, cn, rfl, hP, hO, hN⟩, hcl⟩ := HAT.out k hlt
    have hag := Ag_b (S := S) HB.out HS.out
    have c0 := hag.cell hg (hcl 0 _ rfl)
    have c1 := hag.cell hg (hcl 1 _ rfl)
    have c2 := hag.cell hg (hcl 2 _ rfl)
    have c3 := hag.cell hg (hcl 3 _ rfl)
    have c4 := hag.cell hg (hcl 4 _ rfl)
    rw [Nat.add_zero] at c0
    simp only [← Nat.add_assoc] at c1 c2 c3 c4
    have hsm := HSM.out l[k] (List.getElem_mem hlt)
    have htk : l.take (k + 1) = l.take k ++ [l[k]] := List.take_succ_eq_append_getElem hlt
    obtain ⟨x, hx⟩ : ∃ x, l[k] = x := ⟨_, rfl⟩
    rw [hx] at hP hO hN c0 c1 c2 c3 c4 hsm htk
    obtain ⟨W4, hW4⟩ : ∃ W4, wr.alloc (.cells #[.slice ap x.p.length cp, .bool x.had, .bool x.has, .slice ao x.old.length co, .slice an x.new.length cn] 68) = W4 := ⟨_, rfl⟩
    have hz4 : W4.heap.size = wr.heap.size + 1 := by rw [← hW4]; simp
    have hb4 : Below wr.heap.size wr W4 := by rw [← hW4]; exact (Below.refl _ _).alloc (nl_ _) _
    have hnb : W4.heap[wr.heap.size]? = some (.cells #[.slice ap x.p.length cp, .bool x.had, .bool x.has, .slice ao x.old.length co, .slice an x.new.length cn] 68 (0, 0)) := by rw [← hW4]; exact heap_alloc_new _ _
    have hag4 := Ag_b (S := S) (HB.out.trans (hb4.mono hzr)).drew HS.out
    have PA := hid (dupK_c x.p ap cp S W4.drew (hP.agree hag4) (fun b hb => by have := HS.out b hb; show b < W4.heap.size; omega) hsm.1)
    have hS0 : W4.drew.cell? ⟨wr.heap.size, 0, none⟩ = some (.slice ap x.p.length cp) ∧ W4.drew.cell? ⟨wr.heap.size, 1, none⟩ = some (.bool x.had) ∧ W4.drew.cell? ⟨wr.heap.size, 2, none⟩ = some (.bool x.has) ∧ W4.drew.cell? ⟨wr.heap.size, 3, none⟩ = some (.slice ao x.old.length co) ∧ W4.drew.cell? ⟨wr.heap.size, 4, none⟩ = some (.slice an x.new.length cn) := ⟨cg_ hnb (k := 0) rfl, cg_ hnb (k := 1) rfl, cg_ hnb (k := 2) rfl, cg_ hnb (k := 3) rfl, cg_ hnb (k := 4) rfl⟩
    have how4 := ob_ hown hb4.drew (nl_ _)
    have HLC4 : Hid (LCs rdCh (Rx w.heap.size W4.heap.size u3) W4 (l.take k) cs) := (hlc.out.agree (fun b hb => hb4.block b hb.2.1)).wide fun b hb => ⟨hb.1, by have := hb.2.1; omega, hb.2.2⟩
    have HO4 := hid (hO.agree hag4)
    have HN4 := hid (hN.agree hag4)
    have HSM1 := hid hsm
    have HTK := hid htk
    have HS0 := hid hS0
    have HW4 := hid hW4
    have HB4 := hid (HB.out.trans (hb4.mono hzr))
    have hw4 : wr.heap.size < W4.heap.size := by omega
    have hul : ∀ b, u3.ownBlock = some b → w.heap.size ≤ b ∧ b < wr.heap.size := fun b hb => hown.lt b hb
    have HUL := hid hul
    have hkb : k ≤ 1000 := by omega
    clear hcl hP hO hN hx hag hag4 htk hsm hS0 hW4 hb4 hnb hz4 hlc hown hul
    go_upto_region 5 with (rw [HW4.out])
    try rw [HW4.out]
    clear c0 c1 c2 c3 c4
    refine (wpIn_wide (n := 9)).1 ?_
    refine region_held (fun w' : World => w'.cell? ⟨wr.heap.size, 0, none⟩ = some (.slice ap x.p.length cp) ∧ w'.cell? ⟨wr.heap.size, 1, none⟩ = some (.bool x.had) ∧ w'.cell? ⟨wr.heap.size, 2, none⟩ = some (.bool x.has) ∧ w'.cell? ⟨wr.heap.size, 3, none⟩ = some (.slice ao x.old.length co) ∧ w'.cell? ⟨wr.heap.size, 4, none⟩ = some (.slice an x.new.length cn)) (by kernel_rfl) ?_
    have hS0 := HS0.out
    refine tkY 0 12 (u3) rfl rfl hS0 (fun w' hs => ?_) ?_
    · go_simp
    refine tkY 1 13 (.pointer (some ⟨wr.heap.size, 0, none⟩)) rfl rfl hS0 (fun w' hs => ?_) ?_
    · go_simp
    refine tkY 2 14 (.slice ap x.p.length cp) rfl rfl hS0 (fun w' hs => ?_) ?_
    · obtain ⟨y0, y1, y2, y3, y4⟩ := hs
      go_simp
    refine tkY 4 16 (.pointer (some ⟨wr.heap.size, 1, none⟩)) rfl rfl hS0 (fun w' hs => ?_) ?_
    · go_simp
    refine tkY 5 17 (.bool x.had) rfl rfl hS0 (fun w' hs => ?_) ?_
    · obtain ⟨y0, y1, y2, y3, y4⟩ := hs
      go_simp
    refine tkY 6 18 (.pointer (some ⟨wr.heap.size, 2, none⟩)) rfl rfl hS0 (fun w' hs => ?_) ?_
    · go_simp
    refine tkY 7 19 (.bool x.has) rfl rfl hS0 (fun w' hs => ?_) ?_
    · obtain ⟨y0, y1, y2, y3, y4⟩ := hs
      go_simp
    refine tkY 8 20 (.pointer (some ⟨wr.heap.size, 3, none⟩)) rfl rfl hS0 (fun w' hs => ?_) ?_
    · go_simp
    refine tkY 9 21 (.slice ao x.old.length co) rfl rfl hS0 (fun w' hs => ?_) ?_
    · obtain ⟨y0, y1, y2, y3, y4⟩ := hs
      go_simp
    refine tkY 11 23 (.pointer (some ⟨wr.heap.size, 4, none⟩)) rfl rfl hS0 (fun w' hs => ?_) ?_
    · go_simp
    refine tkY 12 24 (.slice an x.new.length cn) rfl rfl hS0 (fun w' hs => ?_) ?_
    · obtain ⟨y0, y1, y2, y3, y4⟩ := hs
      go_simp
    refine AnyH_one (i := 3) (by kernel_rfl) rfl (by kernel_rfl) (fun K hK => ?_)
    go_simp
    refine ⟨trivial, (callsIn_wide.2 PA.out).mono ?_⟩
    rintro e w5 ⟨ap1, cp1, rfl, hp5, hb5⟩
    have hz5 : W4.heap.size ≤ w5.heap.size := hb5.size
    have hS1 : w5.cell? ⟨wr.heap.size, 0, none⟩ = some (.slice ap x.p.length cp) ∧ w5.cell? ⟨wr.heap.size, 1, none⟩ = some (.bool x.had) ∧ w5.cell? ⟨wr.heap.size, 2, none⟩ = some (.bool x.has) ∧ w5.cell? ⟨wr.heap.size, 3, none⟩ = some (.slice ao x.old.length co) ∧ w5.cell? ⟨wr.heap.size, 4, none⟩ = some (.slice an x.new.length cn) := ⟨bc_ hb5 hw4 hS0.1, bc_ hb5 hw4 hS0.2.1, bc_ hb5 hw4 hS0.2.2.1, bc_ hb5 hw4 hS0.2.2.2.1, bc_ hb5 hw4 hS0.2.2.2.2⟩
    have DO := hid (dup_any x.old ao co S w5 (HO4.out.agree (Ag_b hb5 fun b hb => by have := HS.out b hb; show b < W4.heap.size; omega)) (fun b hb => by have := HS.out b hb; omega) HSM1.out.2.1)
    have HB5 := hid hb5
    have HP5 := hid hp5
    refine hK _ _ ⟨hS1, ?_⟩
    clear hK hb5 hp5 hS0 PA
    refine AnyH_one (i := 10) (by kernel_rfl) rfl (by kernel_rfl) (fun K hK => ?_)
    go_simp
    refine ⟨trivial, (callsIn_wide.2 DO.out).mono ?_⟩
    rintro e w6 ⟨ao1, co1, rfl, ho6, hb6⟩
    have hz6 := hb6.size
    have hS2 : w6.cell? ⟨wr.heap.size, 0, none⟩ = some (.slice ap x.p.length cp) ∧ w6.cell? ⟨wr.heap.size, 1, none⟩ = some (.bool x.had) ∧ w6.cell? ⟨wr.heap.size, 2, none⟩ = some (.bool x.has) ∧ w6.cell? ⟨wr.heap.size, 3, none⟩ = some (.slice ao x.old.length co) ∧ w6.cell? ⟨wr.heap.size, 4, none⟩ = some (.slice an x.new.length cn) := ⟨bc_ hb6 (by omega) hS1.1, bc_ hb6 (by omega) hS1.2.1, bc_ hb6 (by omega) hS1.2.2.1, bc_ hb6 (by omega) hS1.2.2.2.1, bc_ hb6 (by omega) hS1.2.2.2.2⟩
    have h56 := HB5.out.trans (hb6.mono hz5)
    have DN := hid (dup_any x.new an cn S w6 (HN4.out.agree (Ag_b h56 fun b hb => by have := HS.out b hb; show b < W4.heap.size; omega)) (fun b hb => by have := HS.out b hb; omega) HSM1.out.2.2)
    have HB6 := hid hb6
    have HO6 := hid ho6
    refine hK _ _ ⟨hS2, ?_⟩
    clear hK hb6 ho6 hS1 DO h56
    refine AnyH_one (i := 13) (by kernel_rfl) rfl (by kernel_rfl) (fun K hK => ?_)
    go_simp
    refine ⟨trivial, (callsIn_wide.2 DN.out).mono ?_⟩
    rintro e w7 ⟨an1, cn1, rfl, hn7, hb7⟩
    have hz7 := hb7.size
    have hS3 : w7.cell? ⟨wr.heap.size, 0, none⟩ = some (.slice ap x.p.length cp) ∧ w7.cell? ⟨wr.heap.size, 1, none⟩ = some (.bool x.had) ∧ w7.cell? ⟨wr.heap.size, 2, none⟩ = some (.bool x.has) ∧ w7.cell? ⟨wr.heap.size, 3, none⟩ = some (.slice ao x.old.length co) ∧ w7.cell? ⟨wr.heap.size, 4, none⟩ = some (.slice an x.new.length cn) := ⟨bc_ hb7 (by omega) hS2.1, bc_ hb7 (by omega) hS2.2.1, bc_ hb7 (by omega) hS2.2.2.1, bc_ hb7 (by omega) hS2.2.2.2.1, bc_ hb7 (by omega) hS2.2.2.2.2⟩
    have h57 : Below W4.heap.size W4.drew w7 := HB5.out.trans ((HB6.out.trans (hb7.mono hz6)).mono hz5)
    have HB7 := hid hb7
    have HN7 := hid hn7
    have H57 := hid h57
    refine hK _ _ ⟨hS3, ?_⟩
    clear hK hb7 hn7 hS2 DN h57
    refine tkY 14 26 (.agg #[.slice ap1 x.p.length cp1, .bool x.had, .bool x.has, .slice ao1 x.old.length co1, .slice an1 x.new.length cn1]) rfl rfl hS3 (fun w' hs => ?_) ?_
    · go_simp
    refine AnyH_one (i := 15) (by kernel_rfl) rfl (by kernel_rfl) (fun K hK => ?_)
    go_simp
    have hbb : Below w7.heap.size w7 (w7.alloc (.cells #[.slice ap1 x.p.length cp1, .bool x.had, .bool x.has, .slice ao1 x.old.length co1, .slice an1 x.new.length cn1] 68)) := (Below.refl _ _).alloc (nl_ _) _
    have hS4 : (w7.alloc (.cells #[.slice ap1 x.p.length cp1, .bool x.had, .bool x.has, .slice ao1 x.old.length co1, .slice an1 x.new.length cn1] 68)).cell? ⟨wr.heap.size, 0, none⟩ = some (.slice ap x.p.length cp) ∧ (w7.alloc (.cells #[.slice ap1 x.p.length cp1, .bool x.had, .bool x.has, .slice ao1 x.old.length co1, .slice an1 x.new.length cn1] 68)).cell? ⟨wr.heap.size, 1, none⟩ = some (.bool x.had) ∧ (w7.alloc (.cells #[.slice ap1 x.p.length cp1, .bool x.had, .bool x.has, .slice ao1 x.old.length co1, .slice an1 x.new.length cn1] 68)).cell? ⟨wr.heap.size, 2, none⟩ = some (.bool x.has) ∧ (w7.alloc (.cells #[.slice ap1 x.p.length cp1, .bool x.had, .bool x.has, .slice ao1 x.old.length co1, .slice an1 x.new.length cn1] 68)).cell? ⟨wr.heap.size, 3, none⟩ = some (.slice ao x.old.length co) ∧ (w7.alloc (.cells #[.slice ap1 x.p.length cp1, .bool x.had, .bool x.has, .slice ao1 x.old.length co1, .slice an1 x.new.length cn1] 68)).cell? ⟨wr.heap.size, 4, none⟩ = some (.slice an x.new.length cn) := ⟨bc_ hbb (by omega) hS3.1, bc_ hbb (by omega) hS3.2.1, bc_ hbb (by omega) hS3.2.2.1, bc_ hbb (by omega) hS3.2.2.2.1, bc_ hbb (by omega) hS3.2.2.2.2⟩
    refine hK _ _ ⟨hS4, ?_⟩
    clear hK
    have how7 := ob_ how4 (HB5.out.trans ((HB6.out.trans (HB7.out.mono hz6)).mono hz5)) (nl_ _)
    obtain ⟨a9, c9, w9, hr9, hown9, hgrow9, hat9⟩ := run_append_ao (P := Tryz.prog) (w7.alloc (.cells #[.slice ap1 x.p.length cp1, .bool x.had, .bool x.has, .slice ao1 x.old.length co1, .slice an1 x.new.length cn1] 68)) 62 62 w.heap.size 68 i0 _ 5 80 Tryz.underlying62 hi0 hz0 hz1 hz2 rfl (by omega) u3 k cs (how7.alloc _) (some ⟨w7.heap.size, 0, none⟩) 1 1 [.slice ap1 x.p.length cp1, .bool x.had, .bool x.has, .slice ao1 x.old.length co1, .slice an1 x.new.length cn1] rfl (fun h => by cases h) (fun ad had => by cases had; exact World.news_of_block (cs := #[.slice ap1 x.p.length cp1, .bool x.had, .bool x.has, .slice ao1 x.old.length co1, .slice an1 x.new.length cn1]) (t := 68) (fr := (0, 0)) (heap_alloc_new _ _)) (by simp [Value.oneCell']) (by unfold maxLen; omega) (by omega) (by simp; omega)
    have hnr : u3.ownBlock ≠ some wr.heap.size := fun e => by have := (HUL.out _ e).2; omega
    have hS5 : w9.cell? ⟨wr.heap.size, 0, none⟩ = some (.slice ap x.p.length cp) ∧ w9.cell? ⟨wr.heap.size, 1, none⟩ = some (.bool x.had) ∧ w9.cell? ⟨wr.heap.size, 2, none⟩ = some (.bool x.has) ∧ w9.cell? ⟨wr.heap.size, 3, none⟩ = some (.slice ao x.old.length co) ∧ w9.cell? ⟨wr.heap.size, 4, none⟩ = some (.slice an x.new.length cn) := ⟨grown_cell hgrow9 hnr hS4.1, grown_cell hgrow9 hnr hS4.2.1, grown_cell hgrow9 hnr hS4.2.2.1, grown_cell hgrow9 hnr hS4.2.2.2.1, grown_cell hgrow9 hnr hS4.2.2.2.2⟩
    refine AnyH_one (i := 16) (by kernel_rfl) rfl (by kernel_rfl) (fun K hK => ?_)
    refine wpIn_value (fun _ => trivial) rfl (exec_append rfl rfl rfl hr9) ?_
    refine hK _ _ ⟨hS5, ?_⟩
    clear hK hr9 hS3 hS4
    refine tkY 17 3 (.slice a9 (k + 1) c9) rfl rfl hS5 (fun w' hs => ?_) ?_
    · go_simp
    refine AnyH_done (by kernel_rfl) ?_
    go_simp
    obtain ⟨g9, cap9, he9, hg9, hlt9⟩ := hown9.form (by omega)
    cases he9
    have st : Step w.heap.size W4 (w7.alloc (.cells #[.slice ap1 x.p.length cp1, .bool x.had, .bool x.has, .slice ao1 x.old.length co1, .slice an1 x.new.length cn1] 68)) w9 u3 g9 := ⟨⟨H57.out.os, H57.out.tape, H57.out.output, Nat.le_trans H57.out.size hbb.size, fun b hb => (hbb.block b (by omega)).trans (H57.out.block b hb)⟩, ⟨hgrow9.os, hgrow9.tape, hgrow9.output, hgrow9.size, hgrow9.block⟩, by omega, fun b hb => by have := HUL.out b hb; omega, hat9 g9 rfl, hlt9⟩
    have hv9 : (Value.slice (some ⟨g9, 0, none⟩) (k + 1) c9).ownBlock = some g9 := rfl
    have n1 := st.keep (Stable.lcs _ _) hv9 HLC4.out
    have n2 := st.lift (Stable.pth _ _) hv9 HP5.out (nl_ _) (by simp; omega) (((HB6.out.trans (HB7.out.mono hz6)).alloc (by omega) _))
    have n3 := st.lift (Stable.ints _ _) hv9 HO6.out (by omega) (by simp; omega) (HB7.out.alloc (by omega) _)
    have n4 := st.lift (Stable.ints _ _) hv9 HN7.out (by omega) (by simp) ((Below.refl _ _).alloc (nl_ _) _)
    have n5 := hid (st.out HB4.out)
    have n6 : Hid (LCs rdCh (Rx w.heap.size w9.heap.size (.slice (some ⟨g9, 0, none⟩) (k + 1) c9)) w9 (l.take (k + 1)) (cs ++ [.slice ap1 x.p.length cp1, .bool x.had, .bool x.has, .slice ao1 x.old.length co1, .slice an1 x.new.length cn1])) := by
     rw [Hid, HTK.out]
     exact n1.app (LCs.single ⟨ap1, cp1, ao1, co1, an1, cn1, rfl, n2, n3, n4⟩)
    have HOW9 := hid hown9
    clear n1 n2 n3 n4 st hown9 hgrow9 hat9 hS5 hbb how4 how7
    go_wp2_with fail
    go_roundw
    case rel => exact ⟨k + 1, _, by omega, by go_num, HOW9.out, n6, n5⟩
    case measure => simp [intOf]; omega
  · obtain rfl : k = l.length := by omega
    have hlt' : ¬ (l.length : Int) < (l.length : Int) := by omega
    rw [List.take_length] at hlc
    go_wp2_with fail
    obtain ⟨a9, c9, rfl, _, _⟩ := owns_shape hown
    go_ret
    exact ⟨a9, c9, rfl, ⟨cs, SlC.of_owns hown, hlc.out.wide fun b hb => ⟨hb.1, hb.2.1⟩⟩, HB.out⟩
end Go.Proofs.LF
namespace Go.Proofs.LF
open Go.RowKit Go.Sort
set_option maxHeartbeats 4000000
set_option maxRecDepth 100000
attribute [local go_sem] bs_toList bs_size bs_get
theorem Pth.key {S : Nat → Prop} {w : World} {p : List Ky} {a : Option Addr} {c k : Nat} (hp : Pth S w (.slice a p.length c) p) (hk : k < p.length) : ∃ g o, a = some ⟨g, o, none⟩ ∧ S g ∧ w.cell? ⟨g, o + k * 3, none⟩ = some (.string (bs p[k].n)) ∧ w.cell? ⟨g, o + k * 3 + 1, none⟩ = some (.bool p[k].h) ∧ w.cell? ⟨g, o + k * 3 + 2, none⟩ = some (.int .i64 p[k].x) := by
 obtain ⟨g, o, rfl, hg, _, _, hcell⟩ := SlC.cells hp (by omega)
 obtain ⟨k0, k1, k2⟩ := key_cells hk
 have c0 := hcell _ _ k0
 have c1 := hcell _ _ k1
 have c2 := hcell _ _ k2
 rw [← Nat.add_assoc] at c1 c2
 exact ⟨g, o, rfl, hg, c0, c1, c2⟩
end Go.Proofs.LF
namespace Go.Proofs
def Tryz.laysSortC_ren : Go.Shelf.Ren := ⟨fun | 6 => 170 | 15 => 199 | 14 => 213 | 28 => 237 | 29 => 238 | 20 => 251 | 21 => 252 | 22 => 253 | 23 => 254 | 24 => 255 | 25 => 256 | 26 => 257 | 27 => 258 | 46 => 284 | 47 => 276 | 48 => 277 | 49 => 285 | 50 => 286 | 57 => 302 | n => n, fun | 22 => 62 | 24 => 68 | 25 => 239 | 3 => 3 | 39 => 240 | 0 => 0 | 53 => 201 | 55 => 278 | 4 => 4 | 46 => 292 | 45 => 291 | 50 => 265 | 5 => 5 | 9 => 9 | 66 => 325 | 70 => 329 | 76 => 344 | 77 => 345 | n => n, fun | n => n⟩
theorem Tryz.laysSortC : Go.Proofs.SlLaysF0.n6 Tryz.prog Tryz.laysSortC_ren := {
 mixed := by kernel_rfl
 f6 := ⟨Tryz.f170.name, by decide, Tryz.func170.trans (congrArg some (by kernel_rfl))⟩
 f14 := ⟨Tryz.f213.name, by decide, Tryz.func213.trans (congrArg some (by kernel_rfl))⟩
 f15 := Tryz.func199.trans (congrArg some (by kernel_rfl))
 f20 := ⟨Tryz.f251.name, by decide, Tryz.func251.trans (congrArg some (by kernel_rfl))⟩
 f21 := ⟨Tryz.f252.name, by decide, Tryz.func252.trans (congrArg some (by kernel_rfl))⟩
 f22 := ⟨Tryz.f253.name, by decide, Tryz.func253.trans (congrArg some (by kernel_rfl))⟩
 f23 := ⟨Tryz.f254.name, by decide, Tryz.func254.trans (congrArg some (by kernel_rfl))⟩
 f24 := ⟨Tryz.f255.name, by decide, Tryz.func255.trans (congrArg some (by kernel_rfl))⟩
 f25 := ⟨Tryz.f256.name, by decide, Tryz.func256.trans (congrArg some (by kernel_rfl))⟩
 f26 := ⟨Tryz.f257.name, by decide, Tryz.func257.trans (congrArg some (by kernel_rfl))⟩
 f27 := ⟨Tryz.f258.name, by decide, Tryz.func258.trans (congrArg some (by kernel_rfl))⟩
 f28 := Tryz.func237.trans (congrArg some (by kernel_rfl))
 f29 := Tryz.func238.trans (congrArg some (by kernel_rfl))
 f46 := ⟨Tryz.f284.name, by decide, Tryz.func284.trans (congrArg some (by kernel_rfl))⟩
 f47 := Tryz.func276.trans (congrArg some (by kernel_rfl))
 f48 := Tryz.func277.trans (congrArg some (by kernel_rfl))
 f49 := ⟨Tryz.f285.name, by decide, Tryz.func285.trans (congrArg some (by kernel_rfl))⟩
 f50 := ⟨Tryz.f286.name, by decide, Tryz.func286.trans (congrArg some (by kernel_rfl))⟩
 f57 := ⟨Tryz.f302.name, by decide, Tryz.func302.trans (congrArg some (by kernel_rfl))⟩
 t0 := Tryz.underlying0
 a0 := Tryz.isAgg0
 z0 := Tryz.sizeOf0
 v0 := Tryz.zeroValue0
 t3 := Tryz.underlying3
 a3 := Tryz.isAgg3
 z3 := Tryz.sizeOf3
 v3 := Tryz.zeroValue3
 t4 := Tryz.underlying4
 a4 := Tryz.isAgg4
 z4 := Tryz.sizeOf4
 v4 := Tryz.zeroValue4
 t5 := Tryz.underlying5
 a5 := Tryz.isAgg5
 z5 := Tryz.sizeOf5
 v5 := Tryz.zeroValue5
 t9 := Tryz.underlying9
 a9 := Tryz.isAgg9
 z9 := Tryz.sizeOf9
 v9 := Tryz.zeroValue9
 t22 := Tryz.underlying62
 a22 := Tryz.isAgg62
 z22 := Tryz.sizeOf62
 v22 := Tryz.zeroValue62
 t25 := Tryz.underlying239
 a25 := Tryz.isAgg239
 z25 := Tryz.sizeOf239
 v25 := Tryz.zeroValue239
 t39 := Tryz.underlying240
 a39 := Tryz.isAgg240
 z39 := Tryz.sizeOf240
 v39 := Tryz.zeroValue240
 t45 := Tryz.underlying291
 a45 := Tryz.isAgg291
 z45 := Tryz.sizeOf291
 v45 := Tryz.zeroValue291
 t46 := Tryz.underlying292
 a46 := Tryz.isAgg292
 z46 := Tryz.sizeOf292
 v46 := Tryz.zeroValue292
 t50 := Tryz.underlying265
 a50 := Tryz.isAgg265
 z50 := Tryz.sizeOf265
 v50 := Tryz.zeroValue265
 t53 := Tryz.underlying201
 a53 := Tryz.isAgg201
 z53 := Tryz.sizeOf201
 v53 := Tryz.zeroValue201
 t55 := Tryz.underlying278
 a55 := Tryz.isAgg278
 z55 := Tryz.sizeOf278
 v55 := Tryz.zeroValue278
 t66 := Tryz.underlying325
 a66 := Tryz.isAgg325
 z66 := Tryz.sizeOf325
 v66 := Tryz.zeroValue325
 t70 := Tryz.underlying329
 a70 := Tryz.isAgg329
 z70 := Tryz.sizeOf329
 v70 := Tryz.zeroValue329
 t76 := Tryz.underlying344
 a76 := Tryz.isAgg344
 z76 := Tryz.sizeOf344
 v76 := Tryz.zeroValue344
 t77 := Tryz.underlying345
 a77 := Tryz.isAgg345
 z77 := Tryz.sizeOf345
 v77 := Tryz.zeroValue345 }
end Go.Proofs
namespace Go.Proofs.LF
open Go.RowKit Go.Sort
set_option maxHeartbeats 4000000
set_option maxRecDepth 100000
attribute [local go_sem] bs_toList bs_size bs_get
theorem enters171 : Enters 171 := by intro args W; simp [go_sem]
theorem cmp171g (x y : Ch) (ap aq ao ar an am : Option Addr) (cp cq co cr cn cm : Nat) (S : Nat → Prop) (w : World) (hp : Pth S w (.slice ap x.p.length cp) x.p) (hq : Pth S w (.slice aq y.p.length cq) y.p) (hS : ∀ b, S b → b < w.heap.size) (lp : x.p.length ≤ 1000) (lq : y.p.length ≤ 1000) :
 Calls Tryz.prog 171 #[.agg #[.slice ap x.p.length cp, .bool x.had, .bool x.has, .slice ao x.old.length co, .slice an x.new.length cn], .agg #[.slice aq y.p.length cq, .bool y.had, .bool y.has, .slice ar y.old.length cr, .slice am y.new.length cm]] w fun e w' => e = .returned (.int .i64 (cmpP x.p y.p)) ∧ Grw w w' := by
 have hA := (Below.refl w.heap.size w).alloc (Nat.le_refl _) (.cells #[.slice ap x.p.length cp, .bool x.had, .bool x.has, .slice ao x.old.length co, .slice an x.new.length cn] 68)
 have hbA := heap_alloc_new w (.cells #[.slice ap x.p.length cp, .bool x.had, .bool x.has, .slice ao x.old.length co, .slice an x.new.length cn] 68)
 obtain ⟨wA, hwA⟩ : ∃ wA, w.alloc (.cells #[.slice ap x.p.length cp, .bool x.had, .bool x.has, .slice ao x.old.length co, .slice an x.new.length cn] 68) = wA := ⟨_, rfl⟩
 have hzA : wA.heap.size = w.heap.size + 1 := by rw [← hwA]; simp
 rw [hwA] at hA hbA
 have hB := (Below.refl wA.heap.size wA).alloc (Nat.le_refl _) (.cells #[.slice aq y.p.length cq, .bool y.had, .bool y.has, .slice ar y.old.length cr, .slice am y.new.length cm] 68)
 have hbB := heap_alloc_new wA (.cells #[.slice aq y.p.length cq, .bool y.had, .bool y.has, .slice ar y.old.length cr, .slice am y.new.length cm] 68)
 obtain ⟨wB, hwB⟩ : ∃ wB, wA.alloc (.cells #[.slice aq y.p.length cq, .bool y.had, .bool y.has, .slice ar y.old.length cr, .slice am y.new.length cm] 68) = wB := ⟨_, rfl⟩
 rw [hwB] at hB hbB
 have hAB := hA.trans (hB.mono (by omega))
 have hbA2 : wB.heap[w.heap.size]? = some (.cells #[.slice ap x.p.length cp, .bool x.had, .bool x.has, .slice ao x.old.length co, .slice an x.new.length cn] 68 (0, 0)) := (hB.block w.heap.size (by omega)).trans hbA
 have c0 := cg_ hbA2 (k := 0) rfl
 rw [hzA] at hbB
 have d0 := cg_ hbB (k := 0) rfl
 have hc := byPath_g x.p y.p ap aq cp cq S wB (hp.agree (Ag_b hAB hS)) (hq.agree (Ag_b hAB hS)) (fun b hb => Nat.lt_of_lt_of_le (hS b hb) hAB.size) lp lq
 have HC := hid hc
 have HG : Hid (Grw w wB) := by
  rw [← hwB, ← hwA]
  exact ((Grw.refl w).alloc _).alloc _
 have HAB := hid hAB
 have HWA := hid hwA
 have HWB := hid hwB
 clear hp hq hS hA hbA hB hbB hbA2 hc hAB hwA hwB
 go_enter Tryz.func171, Tryz.ntmps171
 go_wp2_with (rw [HWA.out, HWB.out])
 refine HC.out.mono ?_
 rintro e w1 ⟨rfl, hb1⟩
 go_wp2_with fail
 go_ret
 exact ⟨rfl, HG.out.trans hb1⟩
structure CV where
 ap : Option Addr
 cp : Nat
 ao : Option Addr
 co : Nat
 an : Option Addr
 cn : Nat
 f : Ch
def CV.vs (x : CV) : List Value := [.slice x.ap x.f.p.length x.cp, .bool x.f.had, .bool x.f.has, .slice x.ao x.f.old.length x.co, .slice x.an x.f.new.length x.cn]
abbrev CVs (M : Nat → Prop) (w : World) := { x : CV // Pth M w (.slice x.ap x.f.p.length x.cp) x.f.p ∧ Ints M w (.slice x.ao x.f.old.length x.co) x.f.old ∧ Ints M w (.slice x.an x.f.new.length x.cn) x.f.new ∧ x.f.p.length ≤ 1000 }
theorem cvs_of {M : Nat → Prop} {w : World} : ∀ {ls : List Ch} {cs : List Value}, LCs rdCh M w ls cs → (∀ f ∈ ls, f.p.length ≤ 1000) → ∃ ds : List (CVs M w), ds.flatMap (·.1.vs) = cs ∧ ds.map (·.1.f) = ls
 | [], _, h, _ => ⟨[], by rw [show _ = [] from h]; rfl, rfl⟩
 | x :: ls, _, ⟨c, es, h1, ⟨ap, cp, ao, co, an, cn, h2, h3, h4, h6⟩, h5⟩, hl => by
   obtain ⟨ds, hd1, hd2⟩ := cvs_of h5 (fun q hq => hl q (by simp [hq]))
   exact ⟨⟨⟨ap, cp, ao, co, an, cn, x⟩, h3, h4, h6, hl x (by simp)⟩ :: ds, by rw [h1, h2, ← hd1]; rfl, by simp [hd2]⟩
theorem cvs_to {M : Nat → Prop} {w : World} : ∀ (ds : List (CVs M w)), LCs rdCh M w (ds.map (·.1.f)) (ds.flatMap (·.1.vs))
 | [] => rfl
 | x :: ds => ⟨x.1.vs, ds.flatMap (·.1.vs), rfl, ⟨_, _, _, _, _, _, rfl, x.2.1, x.2.2.1, x.2.2.2.1⟩, cvs_to ds⟩
theorem sortC_any (ls : List Ch) (v : Value) (B : Nat) (cs : List Value) (M : Nat → Prop) (w : World) (hown : w.ownsRow B 68 5 v ls.length cs) (hlc : LCs rdCh M w ls cs) (hM : ∀ b, M b → b < w.heap.size ∧ v.ownBlock ≠ some b) (hls : ∀ f ∈ ls, f.p.length ≤ 1000) (hl : ls.length ≤ 100000) :
 Calls Tryz.prog 170 #[v, .func (.func 171) #[] #[]] w fun e w' => e = .returned (.tuple #[]) ∧ ∃ ls' cs', ls'.Perm ls ∧ ls'.Pairwise (fun a b => cmpP a.p b.p ≤ 0) ∧ w'.ownsRow B 68 5 v ls.length cs' ∧ LCs rdCh M w' ls' cs' ∧ w.grownBy w' v.ownBlock := by
 by_cases h0 : ls.length = 0
 · obtain rfl := List.eq_nil_of_length_eq_zero h0
   obtain ⟨a, c, rfl, _, _⟩ := owns_shape hown
   refine (AnyF.slices_SortFunc_none Tryz.laysSortC a c (.func (.func 171) #[] #[]) w).mono ?_
   rintro e w' ⟨rfl, rfl⟩
   exact ⟨rfl, [], cs, List.Perm.refl _, List.Pairwise.nil, hown, hlc, World.grownBy.refl _ _⟩
 obtain ⟨h1, ⟨rfl, h2⟩ | ⟨g, cap, cur, rfl, hbg, hgg, hn, hcap, hsz, htk⟩⟩ := hown
 · omega
 · obtain ⟨ds, hd1, hd2⟩ := cvs_of hlc hls
   have hdl : ds.length = ls.length := by rw [← hd2]; simp
   have hgl : g < w.heap.size := (Array.getElem?_eq_some_iff.1 hgg).1
   haveI : Inhabited (CVs M w) := ⟨ds[0]'(by omega)⟩
   have hMg : ∀ b, M b → b ≠ g := fun b hb e => (hM b hb).2 (by simp [Value.ownBlock, e])
   have hk2 : ∀ x : CVs M w, x.1.vs.length = 5 := fun x => rfl
   have hfl := flatK_list (fun x : CVs M w => x.1.vs) 5 hk2 (by omega) ds
   rw [hd1] at hfl
   have hH : HoldsK (fun x : CVs M w => x.1.vs) 5 w g 0 ds.toArray := by
    intro j hj
    have e1 : cs[j]? = some (flatK (fun x : CVs M w => x.1.vs) 5 ds.toArray)[j] := by rw [← hfl]; simp [Array.getElem?_eq_getElem hj]
    have hj2 : j < ls.length * 5 := by rw [size_flatK] at hj; simpa [hdl] using hj
    rw [← htk, List.getElem?_take] at e1
    rw [if_pos (by omega)] at e1
    refine ⟨?_, by simp [World.frozen?, hgg]⟩
    simp only [World.cell?, hgg, Nat.zero_add]
    rw [← Array.getElem?_toList, e1]
    rw [getElem!_pos _ j hj]; rfl
   have hag : ∀ m os (dk : Array (CVs M w)), Agree M w (sortWorldK (fun x : CVs M w => x.1.vs) 5 w g 0 m dk os) := fun m os dk b hb => sortW_block (enc := id) (d := flatK (fun x : CVs M w => x.1.vs) 5 dk) (hM b hb).1 (hMg b hb)
   have hgr : ∀ m os (dk : Array (CVs M w)), w.grownBy (sortWorldK (fun x : CVs M w => x.1.vs) 5 w g 0 m dk os) (some g) := fun m os dk => sortW_grown (enc := id) (flatK (fun x : CVs M w => x.1.vs) 5 dk)
   have hcmp : CmpLays Tryz.prog 171 #[] (fun x : CVs M w => x.1.vs) 5 (fun x y => cmpP x.1.f.p y.1.f.p) g 0 ds.toArray.size w := by
    intro m os dk hs x y
    have := cmp171g x.1.f y.1.f x.1.ap y.1.ap x.1.ao y.1.ao x.1.an y.1.an x.1.cp y.1.cp x.1.co y.1.co x.1.cn y.1.cn M (sortWorldK (fun x : CVs M w => x.1.vs) 5 w g 0 m dk os) (x.2.1.agree (hag m os dk)) (y.2.1.agree (hag m os dk)) (fun b hb => by have h9 := (hgr m os dk).size; have := (hM b hb).1; omega) x.2.2.2.2 y.2.2.2.2
    simpa [Grw, CV.vs] using this
   have hcon := AnyQ.slices_SortFunc Tryz.laysSortC 5 (fun w => Tryz.isAgg68 w) (fun w => Tryz.sizeOf68 w) (fun x : CVs M w => x.1.vs) hk2 (fun x v hv => by simp [CV.vs] at hv; rcases hv with rfl | rfl | rfl | rfl | rfl <;> rfl) (fun x y => cmpP x.1.f.p y.1.f.p) (swoP fun x : CVs M w => x.1.f.p) 171 #[] g 0 cap ds.toArray w enters171 hcmp hH hgl (by simp; omega)
   have e1 : ds.toArray.size = ls.length := by simpa using hdl
   rw [e1] at hcon
   refine hcon.mono ?_
   rintro e w' ⟨rfl, d', n, os, ⟨hp1, _, hp3⟩, hs, rfl⟩
   have hd's : d'.size = ls.length := by rw [hp1, e1]
   have h3 : d'.toList.Perm ds := by
    have := hp3
    rw [← e1] at this
    rw [Array.extract_eq_self_of_le (by omega), Array.extract_eq_self_of_le (by omega)] at this
    simpa using this
   have hfl' := flatK_list (fun x : CVs M w => x.1.vs) 5 hk2 (by omega) d'.toList
   have hsz' : (flatK (fun x : CVs M w => x.1.vs) 5 d').size = ls.length * 5 := by rw [size_flatK, hd's]
   refine ⟨rfl, d'.toList.map (·.1.f), d'.toList.flatMap (·.1.vs), by rw [← hd2]; exact h3.map _, ?_, ⟨by rw [fmK_len _ 5 hk2]; simp [hd's], .inr ⟨g, cap, _, rfl, hbg, sortW_row (enc := id) (d := flatK (fun x : CVs M w => x.1.vs) 5 d') hgg, hn, hcap, by simp [putCells, hsz], ?_⟩⟩, (cvs_to d'.toList).agree (hag n os d'), hgr n os d'⟩
   · rw [List.pairwise_map, List.pairwise_iff_getElem]
     intro i j hi hj hij
     have hi' : i < d'.size := by simpa using hi
     have hj' : j < d'.size := by simpa using hj
     have := hs i j (Nat.zero_le _) hij (by omega)
     simp only [ltOf, decide_eq_false_iff_not] at this
     rw [getElem!_pos d' j hj', getElem!_pos d' i hi'] at this
     simp only [Array.getElem_toList]
     rcases Int.lt_trichotomy (cmpP d'[i].1.f.p d'[j].1.f.p) 0 with h | h | h
     · omega
     · omega
     · exact absurd (cmpP_ord.flop h) this
   · rw [← hsz', take_putC _ _ _ (by omega), List.map_id]
     simpa using hfl'
end Go.Proofs.LF
namespace Go.Proofs.LF
open Go.RowKit Go.Sort
theorem LCs.part {α : Type} {k : Nat} {r : Rd α k} {S : Nat → Prop} {w : World} : ∀ {xs ys : List α} {cs : List Value}, LCs r S w (xs ++ ys) cs → ∃ c d, cs = c ++ d ∧ LCs r S w xs c ∧ LCs r S w ys d
 | [], _, cs, h => ⟨[], cs, rfl, rfl, h⟩
 | x :: xs, ys, cs, ⟨c, ds, h1, h2, h3⟩ => by
   obtain ⟨c', d', h4, h5, h6⟩ := LCs.part (xs := xs) (ys := ys) h3
   exact ⟨c ++ c', d', by rw [h1, h4, List.append_assoc], ⟨c, c', rfl, h2, h5⟩, h6⟩
theorem CMap.same {P : Program} {k : TypeId} {q : Ch → List UInt8} {S : Nat → Prop} {b n : Nat} {L L' : List Ch} {w : World} (h : CMap P k q S b n L w) (hL : ∀ c, c ∈ L' ↔ c ∈ L) : CMap P k q S b n L' w := by
 obtain ⟨f, h1, h2, h3⟩ := h
 exact ⟨f, h1, fun c hc => h2 c ((hL c).1 hc), fun s hs => h3 s fun c hc => hs c ((hL c).2 hc)⟩
theorem last_cells {W : World} {B g c k : Nat} {cs : List Value} {M : Nat → Prop} {K : List Ch} {x : Ch} (hK : K.length = k) (hown : W.ownsRow B 68 5 (.slice (some ⟨g, 0, none⟩) (k + 1) c) (k + 1) cs) (hl : LCs rdCh (US M W) W (K ++ [x]) cs) :
 ∃ an cn, W.cell? ⟨g, k * 5 + 2, none⟩ = some (.bool x.has) ∧ W.frozen? ⟨g, k * 5 + 2, none⟩ = false ∧ W.cell? ⟨g, k * 5 + 4, none⟩ = some (.slice an x.new.length cn) ∧ W.frozen? ⟨g, k * 5 + 4, none⟩ = false := by
 obtain ⟨c0, c1, rfl, h1, h2⟩ := LCs.part hl
 obtain ⟨c2, ds, rfl, ⟨ap, cp, ao, co, an, cn, rfl, hp, ho, hn⟩, h3⟩ := h2
 have hl0 : c0.length = k * 5 := by rw [h1.length, hK]
 have e2 : (c0 ++ ([.slice ap x.p.length cp, .bool x.had, .bool x.has, .slice ao x.old.length co, .slice an x.new.length cn] ++ ds))[k * 5 + 2]? = some (.bool x.has) := by
  rw [List.getElem?_append_right (by omega), hl0]; simp
 have e4 : (c0 ++ ([.slice ap x.p.length cp, .bool x.had, .bool x.has, .slice ao x.old.length co, .slice an x.new.length cn] ++ ds))[k * 5 + 4]? = some (.slice an x.new.length cn) := by
  rw [List.getElem?_append_right (by omega), hl0]; simp
 obtain ⟨a1, a2⟩ := owns_cell hown (by omega) e2
 obtain ⟨b1, b2⟩ := owns_cell hown (by omega) e4
 exact ⟨an, cn, a1, a2, b1, b2⟩
theorem last_set {W : World} {B g c k : Nat} {cs : List Value} {M : Nat → Prop} {K : List Ch} {x y : Ch} {an : Option Addr} {cn : Nat} (hK : K.length = k) (hown : W.ownsRow B 68 5 (.slice (some ⟨g, 0, none⟩) (k + 1) c) (k + 1) cs) (hl : LCs rdCh (US M W) W (K ++ [x]) cs)
 (hM : ∀ b, M b → b ≠ g) (hMl : ∀ b, M b → b < W.heap.size) (hn : IntU M W (.slice an y.new.length cn) y.new) :
 ∃ cs', ((W.setCell ⟨g, k * 5 + 2, none⟩ (.bool y.has)).setCell ⟨g, k * 5 + 4, none⟩ (.slice an y.new.length cn)).ownsRow B 68 5 (.slice (some ⟨g, 0, none⟩) (k + 1) c) (k + 1) cs' ∧
  LCs rdCh (US M ((W.setCell ⟨g, k * 5 + 2, none⟩ (.bool y.has)).setCell ⟨g, k * 5 + 4, none⟩ (.slice an y.new.length cn))) ((W.setCell ⟨g, k * 5 + 2, none⟩ (.bool y.has)).setCell ⟨g, k * 5 + 4, none⟩ (.slice an y.new.length cn)) (K ++ [⟨x.p, x.had, y.has, x.old, y.new⟩]) cs' ∧
  W.grownBy ((W.setCell ⟨g, k * 5 + 2, none⟩ (.bool y.has)).setCell ⟨g, k * 5 + 4, none⟩ (.slice an y.new.length cn)) (some g) := by
 obtain ⟨c0, c1, rfl, h1, h2⟩ := LCs.part hl
 obtain ⟨c2, ds, rfl, ⟨ap, cp, ao, co, an0, cn0, rfl, hp, ho, _⟩, h3⟩ := h2
 have hl0 : c0.length = k * 5 := by rw [h1.length, hK]
 obtain ⟨o1, g1⟩ := owns_set (u := .bool y.has) hown (i := k * 5 + 2) (by omega)
 obtain ⟨o2, g2⟩ := owns_set (u := .slice an y.new.length cn) o1 (i := k * 5 + 4) (by omega)
 have hds : ds = [] := h3
 subst hds
 have hg : W.grownBy ((W.setCell ⟨g, k * 5 + 2, none⟩ (.bool y.has)).setCell ⟨g, k * 5 + 4, none⟩ (.slice an y.new.length cn)) (some g) :=
  ⟨rfl, rfl, rfl, by simp [World.setCell], fun b hb hne => (g2.block b (by simpa [World.setCell] using hb) hne).trans (g1.block b hb hne)⟩
 have ha : Agree M W ((W.setCell ⟨g, k * 5 + 2, none⟩ (.bool y.has)).setCell ⟨g, k * 5 + 4, none⟩ (.slice an y.new.length cn)) := Agree.grown hg fun b hb => ⟨hMl b hb, fun e => hM b hb (Option.some.inj e).symm⟩
 have hcs : ((c0 ++ (([.slice ap x.p.length cp, .bool x.had, .bool x.has, .slice ao x.old.length co, .slice an0 x.new.length cn0] : List Value) ++ [])).set (k * 5 + 2) (.bool y.has)).set (k * 5 + 4) (.slice an y.new.length cn) = c0 ++ [.slice ap x.p.length cp, .bool x.had, .bool y.has, .slice ao x.old.length co, .slice an y.new.length cn] := by
  rw [List.append_nil, List.set_append_right _ _ (by omega), List.set_append_right _ _ (by omega), hl0]
  simp
 rw [hcs] at o2
 refine ⟨_, o2, ?_, hg⟩
 have hw := US.agree ha
 refine ((h1.agree hw.1).wide hw.2).app (LCs.single ⟨ap, cp, ao, co, an, cn, rfl, (Pth.agree hp hw.1).wide hw.2, (Ints.agree ho hw.1).wide hw.2, IntU.agree hn ha⟩)
theorem cell_ne {w : World} {g i j : Nat} {v : Value} (h : i ≠ j) : (w.setCell ⟨g, i, none⟩ v).cell? ⟨g, j, none⟩ = w.cell? ⟨g, j, none⟩ ∧ (w.setCell ⟨g, i, none⟩ v).frozen? ⟨g, j, none⟩ = w.frozen? ⟨g, j, none⟩ := by
 constructor
 · simp only [World.cell?, World.setCell, Array.getElem?_modify]
   cases w.heap[g]? with
   | none => simp
   | some o => cases o <;> simp [Array.getElem?_setIfInBounds, h]
 · simp only [World.frozen?, World.setCell, Array.getElem?_modify]
   cases w.heap[g]? with
   | none => simp
   | some o => cases o <;> simp
theorem owns_heap {w w' : World} {B e k n : Nat} {v : Value} {cs : List Value} (h : w.ownsRow B e k v n cs) (e1 : w'.heap = w.heap) : w'.ownsRow B e k v n cs := owns_agree h fun g _ => by rw [e1]
theorem lcs_heap {M : Nat → Prop} {w w' : World} {xs : List Ch} {cs : List Value} (h : LCs rdCh (US M w) w xs cs) (e1 : w'.heap = w.heap) : LCs rdCh (US M w') w' xs cs := by
 have ha : Agree M w w' := fun b _ => by rw [e1]
 exact (h.agree (US.agree ha).1).wide (US.agree ha).2
end Go.Proofs.LF
namespace Go.Proofs.LF
open Go.RowKit Go.Sort
set_option maxHeartbeats 4000000
set_option maxRecDepth 100000
attribute [local go_sem] bs_toList bs_size bs_get
theorem alikeI_any (l m : List Int) (an am : Option Addr) (cn cm : Nat) (S : Nat → Prop) (w : World) (hl : Ints S w (.slice an l.length cn) l) (hm : Ints S w (.slice am m.length cm) m) (hlen : l.length ≤ 100000) (hlen2 : m.length ≤ 100000) :
 Calls Tryz.prog 149 #[.slice an l.length cn, .slice am m.length cm] w fun e w' => e = .returned (.bool (decide (l = m))) ∧ Below w.heap.size w w' := by
 by_cases hne : l.length = m.length
 · have hne' : ((l.length : Int) != (m.length : Int)) = false := by simp; omega
   have HN := hid hne
   clear hne
   go_enter Tryz.func149, Tryz.ntmps149
   go_wp2_with fail
   go_loopw [5] (fun i wr => ∃ (k d : Nat), k ≤ l.length ∧ i = .int .i64 k ∧ wr = w.drewN d ∧ Hid (l.take k = m.take k)) (fun i _ => l.length - (intOf i).toNat)
   case atStart => exact ⟨0, 0, by omega, rfl, rfl, by simp [Hid]⟩
   case round =>
    obtain ⟨k, d, hk, rfl, rfl, H2⟩ := hrel
    by_cases hlt : k < l.length
    · obtain ⟨g, o, rfl, _, _, _, hcell⟩ := SlC.cells hl (by omega)
      obtain ⟨g', o', rfl, _, _, _, hcell'⟩ := SlC.cells hm (by have := HN.out; omega)
      have hlt' : k < m.length := by have := HN.out; omega
      have hx : w.cell? ⟨g, o + k, none⟩ = some (.int .i64 l[k]) := hcell k _ (by simp [hlt])
      have hx' : w.cell? ⟨g', o' + k, none⟩ = some (.int .i64 m[k]) := hcell' k _ (by simp [hlt'])
      clear hcell hcell'
      have i1 : (0 : Int) ≤ (k : Int) := by omega
      have i2 : (k : Int) < (l.length : Int) := by omega
      have i3 : (k : Int) < (m.length : Int) := by omega
      by_cases he : l[k] = m[k]
      · have he' : (l[k] != m[k]) = false := by simpa using he
        have HE := hid he
        clear he
        go_wp2_with fail
        go_quiet (fail)
        go_wp2_with fail
        go_roundw
        case rel => exact ⟨k + 1, _, by omega, by go_num, rfl, by rw [Hid, List.take_succ_eq_append_getElem hlt, List.take_succ_eq_append_getElem hlt', H2.out, HE.out]⟩
        case measure => simp [intOf]; omega
      · have he' : (l[k] != m[k]) = true := by simpa using he
        have HE := hid he
        clear he
        go_wp2_with fail
        go_quiet (fail)
        go_wp2_with fail
        go_ret
        refine ⟨ret_bool ?_, below_drewN (below_drewN (Below.refl _ _) _) _⟩
        symm
        rw [decide_eq_false_iff_not]
        rintro rfl
        exact HE.out rfl
    · go_wp2_with fail
      go_ret
      obtain rfl : k = l.length := by omega
      refine ⟨ret_bool ?_, below_drewN (Below.refl _ _) _⟩
      symm
      have := H2.out
      rw [List.take_length, HN.out, List.take_length] at this
      exact decide_eq_true this
 · have hne' : ((l.length : Int) != (m.length : Int)) = true := by simp; omega
   have HN := hid hne
   clear hne
   go_enter Tryz.func149, Tryz.ntmps149
   go_wp2_with fail
   go_ret
   refine ⟨ret_bool ?_, Below.refl _ _⟩
   symm
   rw [decide_eq_false_iff_not]
   rintro rfl
   exact HN.out rfl
theorem Ahead_any (p q : List Ky) (ap aq : Option Addr) (cp cq : Nat) (S : Nat → Prop) (w : World) (hp : Pth S w (.slice ap p.length cp) p) (hq : Pth S w (.slice aq q.length cq) q) (hS : ∀ b, S b → b < w.heap.size) (lp : p.length ≤ 100000) (lq : q.length ≤ 100000) :
 Calls Tryz.prog 150 #[.slice ap p.length cp, .slice aq q.length cq] w fun e w' => e = .returned (.bool (decide (cmpP p q < 0))) ∧ Below w.heap.size w w' := by
 go_enter Tryz.func150, Tryz.ntmps150
 go_wp2_with fail
 go_loopw [5] (fun i wr => ∃ (k d : Nat), k ≤ p.length ∧ k ≤ q.length ∧ i = .int .i64 k ∧ wr = w.drewN d ∧ Hid (p.take k = q.take k)) (fun i _ => p.length - (intOf i).toNat)
 case atStart => exact ⟨0, 0, by omega, by omega, rfl, rfl, by simp [Hid]⟩
 case round =>
  obtain ⟨k, d, hk, hkq, rfl, rfl, H2⟩ := hrel
  have i1 : (0 : Int) ≤ (k : Int) := by omega
  by_cases hlt : k < p.length
  · have i2 : (k : Int) < (p.length : Int) := by omega
    by_cases hlt' : k < q.length
    · have i3 : (k : Int) < (q.length : Int) := by omega
      obtain ⟨g, o, rfl, hg, _, _, hcell⟩ := SlC.cells hp (by omega)
      obtain ⟨g', o', rfl, hg', _, _, hcell'⟩ := SlC.cells hq (by omega)
      obtain ⟨k0, k1, k2⟩ := key_cells hlt
      obtain ⟨k0', k1', k2'⟩ := key_cells hlt'
      have c0 := hcell _ _ k0
      have c1 := hcell _ _ k1
      have c2 := hcell _ _ k2
      have d0 := hcell' _ _ k0'
      have d1 := hcell' _ _ k1'
      have d2 := hcell' _ _ k2'
      rw [← Nat.add_assoc] at c1 c2 d1 d2
      have htp : p.take (k + 1) = p.take k ++ [p[k]] := List.take_succ_eq_append_getElem hlt
      have htq : q.take (k + 1) = q.take k ++ [q[k]] := List.take_succ_eq_append_getElem hlt'
      obtain ⟨a, ha⟩ : ∃ a, p[k] = a := ⟨_, rfl⟩
      obtain ⟨b, hb⟩ : ∃ b, q[k] = b := ⟨_, rfl⟩
      have HAT := hid (fun hne => ahead_at H2.out hlt hlt' ha hb hne)
      rw [ha] at c0 c1 c2 htp
      rw [hb] at d0 d1 d2 htq
      have HTP := hid htp
      have HTQ := hid htq
      have HG := hid (hS g hg)
      have HG' := hid (hS g' hg')
      clear hcell hcell' k0 k1 k2 k0' k1' k2' htp htq ha hb
      by_cases he : a = b
      · subst he
        go_wp2_with fail
        go_quiet (fail)
        go_wp2_with fail
        go_roundw
        case rel => exact ⟨k + 1, _, by omega, by omega, by go_num, rfl, by rw [Hid, HTP.out, HTQ.out, H2.out]⟩
        case measure => simp [intOf]; omega
      · have hdec : (a.n == b.n && (a.h == b.h && a.x == b.x)) = false := by rw [← ky_beq]; simp [he]
        have HA := hid (HAT.out he)
        have HDEC := hid hdec
        clear he hdec HAT
        cases hn : (a.n == b.n) <;> cases hh : (a.h == b.h) <;> cases hx : (a.x == b.x)
        all_goals first
         | (exfalso; have := HDEC.out; rw [hn, hh, hx] at this; cases this; done)
         | (go_wp2_with fail
            go_quiet (fail)
            go_wp2_with fail
            go_region_held3 (fun w' => w'.cell? ⟨g, o + k * 3, none⟩ = some (.string (bs a.n)) ∧ w'.cell? ⟨g, o + k * 3 + 1, none⟩ = some (.bool a.h) ∧ w'.cell? ⟨g, o + k * 3 + 2, none⟩ = some (.int .i64 a.x) ∧ w'.cell? ⟨g', o' + k * 3, none⟩ = some (.string (bs b.n)) ∧ w'.cell? ⟨g', o' + k * 3 + 1, none⟩ = some (.bool b.h) ∧ w'.cell? ⟨g', o' + k * 3 + 2, none⟩ = some (.int .i64 b.x))
             (first
               | go_keep
               | (go_split_ands; have hz9 := hb9.size; have hg9 := HG.out; have hg9' := HG'.out; simp at hz9; refine ⟨?_, ?_, ?_, ?_, ?_, ?_⟩ <;> exact bc_ hb9 (by simp; omega) (by assumption)))
             (first | (go_at_call 108; refine (before_any a b _).mono ?_; rintro e w9 ⟨rfl, hb9⟩))
            go_wp2_with fail
            go_ret
            exact ⟨ret_bool HA.out.symm, ⟨hb9.os, hb9.tape, hb9.output, hb9.size, hb9.block⟩⟩)
    · have i3 : ¬ (k : Int) < (q.length : Int) := by omega
      have HE := hid (ahead_end H2.out (.inr ⟨by omega, by omega⟩))
      go_wp2_with fail
      go_ret
      refine ⟨ret_bool ?_, below_drewN (Below.refl _ _) _⟩
      rw [HE.out]
  · have i2 : ¬ (k : Int) < (p.length : Int) := by omega
    have HE := hid (ahead_end H2.out (.inl ⟨by omega, by omega⟩))
    go_wp2_with fail
    go_ret
    refine ⟨ret_bool ?_, below_drewN (Below.refl _ _) _⟩
    rw [HE.out]
end Go.Proofs.LF
namespace Go.Proofs.LF
open Go.RowKit Go.Sort
set_option maxHeartbeats 4000000
set_option maxRecDepth 100000
attribute [local go_sem] bs_toList bs_size bs_get
def firE : List Int → Int
 | [] => 0
 | e :: r => if e ≠ 0 then e else firE r
theorem firE_yes {l : List Int} {k : Nat} {e : Int} (h : firE l = firE (l.drop k)) (hk : k < l.length) (he : l[k] = e) (h0 : e ≠ 0) : firE l = e := by
 rw [h, List.drop_eq_getElem_cons hk, he, firE, if_pos h0]
theorem firE_no {l : List Int} {k : Nat} {e : Int} (h : firE l = firE (l.drop k)) (hk : k < l.length) (he : l[k] = e) (h0 : e = 0) : firE l = firE (l.drop (k + 1)) := by
 rw [h, List.drop_eq_getElem_cons hk, he, firE, if_neg (by simpa using h0)]
theorem first_any (l : List Int) (a : Option Addr) (c : Nat) (S : Nat → Prop) (w : World) (hl : Ints S w (.slice a l.length c) l) (ll : l.length ≤ 1000) :
 Calls Tryz.prog 30 #[.slice a l.length c] w fun e w' => e = .returned (.int .i64 (firE l)) ∧ w' = w := by
 go_enter Tryz.func30, Tryz.ntmps30
 go_wp2_with fail
 go_loopw [7] (fun i wr => ∃ k : Nat, k ≤ l.length ∧ i = .int .i64 k ∧ Hid (firE l = firE (l.drop k)) ∧ wr = w) (fun i _ => l.length - (intOf i).toNat)
 case atStart => exact ⟨0, by omega, rfl, rfl, rfl⟩
 case round =>
  obtain ⟨k, hk, rfl, hf, rfl⟩ := hrel
  have i1 : (0 : Int) ≤ (k : Int) := by omega
  by_cases hlt : k < l.length
  · have i2 : (k : Int) < (l.length : Int) := by omega
    obtain ⟨g, o, rfl, _, _, _, hcell⟩ := SlC.cells hl (by omega)
    have c0 := hcell k (.int .i64 l[k]) (by simp [hlt])
    obtain ⟨e, he⟩ : ∃ e, l[k] = e := ⟨_, rfl⟩
    rw [he] at c0
    by_cases h0 : e = 0
    · have HN := hid (firE_no hf.out hlt he h0)
      have b0 : (e != 0) = false := by simpa using h0
      subst h0
      clear hcell he
      go_wp2_with fail
      go_roundw
      case rel => exact ⟨k + 1, by omega, by go_num, HN.out, by simp⟩
      case measure => simp [intOf]; omega
    · have HN := hid (firE_yes hf.out hlt he h0)
      have b0 : (e != 0) = true := by simpa using h0
      clear hcell he h0
      go_wp2_with fail
      go_ret
      exact ⟨ret_int HN.out.symm, rfl⟩
  · have i2 : ¬ (k : Int) < (l.length : Int) := by omega
    obtain rfl : k = l.length := by omega
    have hn := hf.out
    rw [List.drop_length] at hn
    have HN := hid hn
    clear hn
    go_wp2_with fail
    go_ret
    exact ⟨ret_int HN.out.symm, rfl⟩
theorem keys_snoc {p : List Ky} {k : Nat} {a : Ky} (hk : k < p.length) (ha : p[k] = a) : (p.take (k + 1)).flatMap Ky.cells = (p.take k).flatMap Ky.cells ++ [.string (bs a.n), .bool a.h, .int .i64 a.x] := by
 rw [List.take_succ_eq_append_getElem hk, ha, List.flatMap_append]; simp [Ky.cells]
theorem path_any (p : List Ky) (a : Option Addr) (c : Nat) (S : Nat → Prop) (w : World) (hp : Pth S w (.slice a p.length c) p) (hS : ∀ b, S b → b < w.heap.size) (lp : p.length ≤ 1000) :
 Calls Tryz.prog 55 #[.slice a p.length c] w fun e w' => ∃ a c, e = .returned (.slice a p.length c) ∧ Pth (Rg w.heap.size w'.heap.size) w' (.slice a p.length c) p ∧ Below w.heap.size w w' := by
 obtain ⟨j0, hj0, hy0, hy1, hy2⟩ := info_parts Tryz.info160
 go_enter Tryz.func55, Tryz.ntmps55
 go_wp2_with fail
 go_loopw [3, 8] (fun v i wr => ∃ k : Nat, k ≤ p.length ∧ i = .int .i64 k ∧ wr.ownsRow w.heap.size 160 3 v k ((p.take k).flatMap Ky.cells) ∧ Hid (Below w.heap.size w wr)) (fun _ i _ => p.length - (intOf i).toNat)
 case atStart => exact ⟨0, by omega, rfl, World.ownsRow_nil _ _ _ _, Below.refl _ _⟩
 case round =>
  obtain ⟨k, hk, rfl, hown, hB⟩ := hrel
  have i1 : (0 : Int) ≤ (k : Int) := by omega
  have hz := hB.out.size
  by_cases hlt : k < p.length
  · have i2 : (k : Int) < (p.length : Int) := by omega
    obtain ⟨g, o, rfl, hg, k0, k1, k2⟩ := hp.key hlt
    obtain ⟨x, hx⟩ : ∃ x, p[k] = x := ⟨_, rfl⟩
    rw [hx] at k0 k1 k2
    have hgl := hS g hg
    have c0 := bc_ hB.out hgl k0
    have c1 := bc_ hB.out hgl k1
    have c2 := bc_ hB.out hgl k2
    have hsn := keys_snoc hlt hx
    have HSN := hid hsn
    clear k0 k1 k2 hx hsn
    go_wp2_with (at_builtin; refine (wpList_append_ao _ rfl _ _ _ rfl w.heap.size 160 j0 _ 3 32 Tryz.underlying92 hj0 hy0 hy1 hy2 rfl (by omega) u3 k ((p.take k).flatMap Ky.cells) rfl ((hown.alloc _).alloc _) (some ⟨wr.heap.size + 1, 0, none⟩) 1 1 [.string (bs x.n), .bool x.h, .int .i64 x.x] rfl rfl (fun h => by cases h) (fun ad had => by cases had; exact World.news_of_block (cs := #[.string (bs x.n), .bool x.h, .int .i64 x.x]) (t := 160) (fr := (0, 0)) (by simpa using heap_alloc_new (wr.alloc (.cells #[.string (bs x.n), .bool x.h, .int .i64 x.x] 71)) (.cells #[.string (bs x.n), .bool x.h, .int .i64 x.x] 160))) (by simp [Value.oneCell']) (by unfold maxLen; omega) (by omega) (by simp; omega) ?_); intro a8 c8 w8 hown8 hgrow8 hat8)
    have hB8 : Hid (Below w.heap.size w w8) := ((hB.out.alloc hz _).alloc (by simp; omega) _).grown hgrow8 (by simp; omega) (fun q hq => (hown.lt q hq).1)
    rw [← HSN.out] at hown8
    go_roundw
    case rel => exact ⟨k + 1, by omega, by go_num, hown8, hB8⟩
    case measure => simp [intOf]; omega
  · have i2 : ¬ (k : Int) < (p.length : Int) := by omega
    obtain rfl : k = p.length := by omega
    obtain ⟨a9, c9, rfl, _, _⟩ := owns_shape hown
    go_wp2_with fail
    go_ret
    rw [List.take_length] at hown
    exact ⟨a9, c9, rfl, SlC.of_owns hown, hB.out⟩
end Go.Proofs.LF
namespace Go.Proofs.LF
open Go.RowKit Go.Sort
set_option maxHeartbeats 4000000
set_option maxRecDepth 100000
attribute [local go_sem] bs_toList bs_size bs_get
theorem enters169 : Enters 169 := by intro args W; simp [go_sem]
theorem nop169 (x : Ch) (ap ao an : Option Addr) (cp co cn : Nat) (S : Nat → Prop) (w : World) (ho : Ints S w (.slice ao x.old.length co) x.old) (hn : Ints S w (.slice an x.new.length cn) x.new) (hS : ∀ b, S b → b < w.heap.size) (lo : x.old.length ≤ 1000) (ln : x.new.length ≤ 1000) :
 Calls Tryz.prog 169 #[.agg #[.slice ap x.p.length cp, .bool x.had, .bool x.has, .slice ao x.old.length co, .slice an x.new.length cn]] w fun e w' => e = .returned (.bool (nopC x)) ∧ Below w.heap.size w w' := by
 obtain ⟨p, had, has, old, new⟩ := x
 simp only at ho hn lo ln ⊢
 obtain ⟨W, hW⟩ : ∃ W, w.alloc (.cells #[.slice ap p.length cp, .bool had, .bool has, .slice ao old.length co, .slice an new.length cn] 68) = W := ⟨_, rfl⟩
 have hb : Below w.heap.size w W := by rw [← hW]; exact (Below.refl _ _).alloc (nl_ _) _
 have hnew : W.heap[w.heap.size]? = some (.cells #[.slice ap p.length cp, .bool had, .bool has, .slice ao old.length co, .slice an new.length cn] 68 (0, 0)) := by rw [← hW]; exact heap_alloc_new _ _
 have c1 := cg_ hnew (k := 1) rfl
 have c2 := cg_ hnew (k := 2) rfl
 have c3 := cg_ hnew (k := 3) rfl
 have c4 := cg_ hnew (k := 4) rfl
 have HB := hid hb
 have EQ := hid (eqInts_any old new ao an co cn S W (ho.agree (Ag_b hb hS)) (hn.agree (Ag_b hb hS)) (by omega) (by omega))
 have HW := hid hW
 clear ho hn hb hnew hW
 go_enter Tryz.func169, Tryz.ntmps169
 cases had <;> cases has
 all_goals
  go_wp2_with (rw [HW.out])
  first
   | (go_ret
      exact ⟨by simp [nopC], HB.out⟩)
   | (refine EQ.out.mono ?_
      rintro e w1 ⟨rfl, hb1⟩
      go_wp2_with fail
      go_ret
      exact ⟨by simp [nopC], HB.out.trans (hb1.mono HB.out.size)⟩)
theorem chg_cells {S : Nat → Prop} {w : World} {ls : List Ch} {cs : List Value} (h : LCs rdCh S w ls cs) {i : Nat} (hi : i < ls.length) : ∃ ap cp ao co an cn, cs.getD (i * 5) undef = .slice ap ls[i].p.length cp ∧ cs.getD (i * 5 + 1) undef = .bool ls[i].had ∧ cs.getD (i * 5 + 2) undef = .bool ls[i].has ∧ cs.getD (i * 5 + 3) undef = .slice ao ls[i].old.length co ∧ cs.getD (i * 5 + 4) undef = .slice an ls[i].new.length cn ∧
 Ints S w (.slice ao ls[i].old.length co) ls[i].old ∧ Ints S w (.slice an ls[i].new.length cn) ls[i].new := by
 have h3 := h.drop (i := i)
 rw [List.drop_eq_getElem_cons hi] at h3
 obtain ⟨cc, ee, he, ⟨ap, cp, ao, co, an, cn, rfl, hp, ho, hn⟩, _⟩ := h3
 have e0 := congrArg (fun l => l[0]?) he
 have e1 := congrArg (fun l => l[1]?) he
 have e2 := congrArg (fun l => l[2]?) he
 have e3 := congrArg (fun l => l[3]?) he
 have e4 := congrArg (fun l => l[4]?) he
 simp [List.getElem?_drop] at e0 e1 e2 e3 e4
 exact ⟨ap, cp, ao, co, an, cn, by rw [List.getD_eq_getElem?_getD, e0]; rfl, by rw [List.getD_eq_getElem?_getD, e1]; rfl, by rw [List.getD_eq_getElem?_getD, e2]; rfl, by rw [List.getD_eq_getElem?_getD, e3]; rfl, by rw [List.getD_eq_getElem?_getD, e4]; rfl, ho, hn⟩
def ch0 : Ch := ⟨[], false, false, [], []⟩
theorem delC_any (ls : List Ch) (a : Option Addr) (c B : Nat) (cs : List Value) (M : Nat → Prop) (w : World) (hown : w.ownsRow B 68 5 (.slice a ls.length c) ls.length cs) (hlc : LCs rdCh M w ls cs) (hM : ∀ b, M b → b < w.heap.size ∧ (Value.slice a ls.length c).ownBlock ≠ some b) (hl : ls.length ≤ 1000) (hls : ∀ x ∈ ls, x.old.length ≤ 1000 ∧ x.new.length ≤ 1000) :
 Calls Tryz.prog 168 #[.slice a ls.length c, .func (.func 169) #[] #[]] w fun e w' => ∃ cs', e = .returned (.slice a (ls.filter fun x => !nopC x).length c) ∧ w'.ownsRow B 68 5 (.slice a (ls.filter fun x => !nopC x).length c) (ls.filter fun x => !nopC x).length cs' ∧ LCs rdCh M w' (ls.filter fun x => !nopC x) cs' ∧ w.grownBy w' (Value.slice a ls.length c).ownBlock := by
 by_cases h0 : ls.length = 0
 · obtain rfl := List.eq_nil_of_length_eq_zero h0
   simp only [List.length_nil, List.filter_nil] at hown hlc hM hls ⊢
   obtain ⟨h1, ⟨he, _⟩ | ⟨g, cap, cur, he, hbg, hg, hn, hcap, hsz, htk⟩⟩ := id hown
   all_goals
    cases he
    have IX := hid (idx_chg 169 enters169 (fun _ => false) [] 0 _ _ [] (fun q => q < w.heap.size) w (by
     have := SlC.of_owns hown
     rw [show cs = [] by simpa using hown.1] at this
     exact this.wide fun b hb => hb.2) (fun b hb => hb) (by omega) (fun i hi => by omega))
    clear hlc hM hls
    have HOW := hid hown
    clear hown h1
    try clear hg hbg hn hcap hsz htk
   · go_enter Tryz.func168, Tryz.ntmps168
     go_wp2_with fail
     refine IX.out.mono ?_
     rintro e w1 ⟨rfl, hb1⟩
     have hi : idxN (fun _ => false) 0 = -1 := rfl
     rw [hi]
     have HG := hid (show w.grownBy w1 none from ⟨hb1.os, hb1.tape, hb1.output, hb1.size, fun i hi _ => hb1.block i hi⟩)
     have HO1 := hid (ob_ HOW.out hb1 (nl_ _))
     clear hb1 hi
     go_wp2_with fail
     go_ret
     exact ⟨cs, rfl, HO1.out, by rw [show cs = [] by simpa using HO1.out.1]; rfl, HG.out⟩
   · go_enter Tryz.func168, Tryz.ntmps168
     go_wp2_with fail
     refine IX.out.mono ?_
     rintro e w1 ⟨rfl, hb1⟩
     have hi : idxN (fun _ => false) 0 = -1 := rfl
     rw [hi]
     have HG := hid (show w.grownBy w1 (some g) from ⟨hb1.os, hb1.tape, hb1.output, hb1.size, fun i hi _ => hb1.block i hi⟩)
     have HO1 := hid (ob_ HOW.out hb1 (nl_ _))
     clear hb1 hi
     go_wp2_with fail
     go_ret
     exact ⟨cs, rfl, HO1.out, by rw [show cs = [] by simpa using HO1.out.1]; rfl, HG.out⟩
 · obtain ⟨_, ⟨_, h00⟩ | ⟨gg, cap, cur, he, hbg, hg, hnc, hcap, _, _⟩⟩ := id hown
   · omega
   cases he
   have DEL := del_chg 169 enters169 (fun i => nopC (ls.getD i ch0)) [] ls.length B gg c cs w hown (fun j hj => by
    obtain ⟨ap, cp, ao, co, an, cn, e0, e1, e2, e3, e4, _⟩ := chg_cells hlc hj
    exact ⟨ap, _, cp, _, _, ao, _, co, an, _, cn, e0, e1, e2, e3, e4⟩) (by omega) (fun i hi W hW => by
    obtain ⟨ap, cp, ao, co, an, cn, e0, e1, e2, e3, e4, ho, hn⟩ := chg_cells hlc hi
    have hgd : ls.getD i ch0 = ls[i] := by simp [List.getD_eq_getElem?_getD, hi]
    have hel : elemV 5 cs i = .agg #[.slice ap ls[i].p.length cp, .bool ls[i].had, .bool ls[i].has, .slice ao ls[i].old.length co, .slice an ls[i].new.length cn] := by simp [elemV, List.range_succ, e0, e1, e2, e3, e4, -List.getD_eq_getElem?_getD]
    rw [hel, hgd]
    have ha : Agree M w W := fun b hb => hW.block b (hM b hb).1 (fun e => (hM b hb).2 (by rw [e]; rfl))
    exact nop169 ls[i] ap ao an cp co cn M W (ho.agree ha) (hn.agree ha) (fun b hb => by have := (hM b hb).1; have := hW.size; omega) (hls _ (List.getElem_mem hi)).1 (hls _ (List.getElem_mem hi)).2)
   refine DEL.mono ?_
   rintro e w4 ⟨rfl, hown4, hgr4⟩
   obtain ⟨k1, k2⟩ := kp_lcs (hlc.agree (w' := w4) fun b hb => hgr4.block b (hM b hb).1 (fun e => (hM b hb).2 (by rw [e]; rfl))) (p := fun i => nopC (ls.getD i ch0)) (pr := nopC) (fun i hi => by simp [List.getD_eq_getElem?_getD, hi]) ls.length (nl_ _)
   rw [List.take_length] at k1 k2
   rw [k2] at hown4
   exact ⟨_, by rw [k2], hown4, k1, hgr4⟩
end Go.Proofs.LF
