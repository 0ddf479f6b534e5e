/- Parts of the proof of a law of layer 11 (file): LfW98, LfW82, LfTu2, LfW52a, LfCm, LfW99, LfW55a. The conditions stand in each theorem. -/
import Derived.Test.YtadkpjgpefcphaaGreatDoorProg
import Derived.Test.YtadkpjgpefcphaaGreatDoorCkad
import Derived.Test.YtadkpjgpefcphaaGreatDoorCkae
import Derived.Test.YtadkpjgpefcphaaGreatDoorCkag
import Derived.Test.YtadkpjgpefcphaaGreatDoorCkai
import Derived.Test.YtadkpjgpefcphaaGreatDoorCkal
import Derived.Test.YtadkpjgpefcphaaGreatDoorCkam
import Derived.Test.YtadkpjgpefcphaaGreatDoorCkan
import Derived.Test.YtadkpjgpefcphaaGreatDoorCkao
import Derived.Test.YtadkpjgpefcphaaGreatDoorCkaw
import Derived.Test.YtadkpjgpefcphaaGreatDoorCkax
import Derived.Test.YtadkpjgpefcphaaGreatDoorCkbc
import Derived.Test.YtadkpjgpefcphaaGreatDoorCkbd
import Derived.Test.YtadkpjgpefcphaaGreatDoorCkbf
import Derived.Test.YtadkpjgpefcphaaGreatDoorCkbh
import Derived.Test.YtadkpjgpefcphaaGreatDoorCkbi
set_option linter.all false
set_option linter.unusedVariables false
set_option linter.unusedSimpArgs false
namespace Go.Proofs.LF
open Go.RowKit Go.Sort
set_option maxHeartbeats 4000000
set_option maxRecDepth 100000
attribute [local go_sem] bs_toList bs_size bs_get
theorem enters165 : Enters 165 := by intro args W; simp [go_sem]
theorem cmp165g (x y : Fl) (ap aq an am : Option Addr) (cp cq ln cn lm cm : Nat) (S : Nat → Prop) (w : World) (hp : Pth S w (.slice ap x.p.length cp) x.p) (hq : Pth S w (.slice aq y.p.length cq) y.p) (hS : ∀ b, S b → b < w.heap.size) (lp : x.p.length ≤ 1000) (lq : y.p.length ≤ 1000) :
 Calls Tryz.prog 165 #[.agg #[.slice ap x.p.length cp, .slice an ln cn], .agg #[.slice aq y.p.length cq, .slice am lm cm]] w fun e w' => e = .returned (.int .i64 (cmpP x.p y.p)) ∧ Grw w w' := by
 obtain ⟨vn, hvn⟩ : ∃ vn, Value.slice an ln cn = vn := ⟨_, rfl⟩
 obtain ⟨vm, hvm⟩ : ∃ vm, Value.slice am lm cm = vm := ⟨_, rfl⟩
 have hA := (Below.refl w.heap.size w).alloc (nl_ _) (.cells #[.slice ap x.p.length cp, .slice an ln cn] 171)
 have hbA := heap_alloc_new w (.cells #[.slice ap x.p.length cp, .slice an ln cn] 171)
 obtain ⟨wA, hwA⟩ : ∃ wA, w.alloc (.cells #[.slice ap x.p.length cp, .slice an ln cn] 171) = wA := ⟨_, rfl⟩
 have hzA : wA.heap.size = w.heap.size + 1 := by rw [← hwA]; simp
 rw [hwA] at hA hbA
 have hB := (Below.refl wA.heap.size wA).alloc (nl_ _) (.cells #[.slice aq y.p.length cq, .slice am lm cm] 171)
 have hbB := heap_alloc_new wA (.cells #[.slice aq y.p.length cq, .slice am lm cm] 171)
 obtain ⟨wB, hwB⟩ : ∃ wB, wA.alloc (.cells #[.slice aq y.p.length cq, .slice am lm cm] 171) = wB := ⟨_, rfl⟩
 rw [hwB] at hB hbB
 have hAB := hA.trans (hB.mono (by omega))
 have hbA2 : wB.heap[w.heap.size]? = some (.cells #[.slice ap x.p.length cp, .slice an ln cn] 171 (0, 0)) := (hB.block w.heap.size (by omega)).trans hbA
 have c0 := cg_ hbA2 (k := 0) rfl
 rw [hzA] at hbB
 have d0 := cg_ hbB (k := 0) rfl
 have hc := byPath_g x.p y.p ap aq cp cq S wB (hp.agree (Ag_b hAB hS)) (hq.agree (Ag_b hAB hS)) (fun b hb => Nat.lt_of_lt_of_le (hS b hb) hAB.size) lp lq
 have HC := hid hc
 have HG : Hid (Grw w wB) := by
  rw [← hwB, ← hwA]
  exact ((Grw.refl w).alloc _).alloc _
 have HAB := hid hAB
 have HWA := hid hwA
 have HWB := hid hwB
 clear hp hq hS hA hbA hB hbB hbA2 hc hAB hwA hwB hvn hvm
 go_enter Tryz.func165, Tryz.ntmps165
 go_wp2_with (rw [HWA.out, HWB.out])
 refine HC.out.mono ?_
 rintro e w1 ⟨rfl, hb1⟩
 go_wp2_with fail
 go_ret
 exact ⟨rfl, HG.out.trans hb1⟩
end Go.Proofs.LF
namespace Go.Proofs.LF
open Go.RowKit Go.Sort
set_option maxHeartbeats 4000000
set_option maxRecDepth 100000
attribute [local go_sem] bs_toList bs_size bs_get
theorem kp_lcs {α : Type} {k : Nat} {r : Rd α k} {S : Nat → Prop} {w : World} {xs : List α} {cs : List Value} (h : LCs r S w xs cs) {p : Nat → Bool} {pr : α → Bool} (hp : ∀ i (hi : i < xs.length), p i = pr xs[i]) : ∀ j, j ≤ xs.length → LCs r S w ((xs.take j).filter fun x => !pr x) (kpC k p cs j) ∧ kpN p j = ((xs.take j).filter fun x => !pr x).length
 | 0, _ => by simp [kpC, kpN, LCs]
 | j + 1, hj => by
   obtain ⟨h1, h2⟩ := kp_lcs h hp j (by omega)
   have hx : j < xs.length := by omega
   rw [List.take_succ_eq_append_getElem hx, List.filter_append, kpC, kpN, hp j hx]
   cases hq : pr xs[j] with
   | true => simpa [hq] using ⟨h1, h2⟩
   | false =>
     have h3 := (h.drop (i := j)).take (i := 1)
     rw [List.drop_eq_getElem_cons hx, Nat.one_mul] at h3
     simp only [List.take_succ_cons, List.take_zero] at h3
     simp only [List.filter_cons, List.filter_nil, hq, Bool.not_false, if_true, Bool.false_eq_true, if_false, List.length_append, List.length_singleton]
     exact ⟨h1.app h3, by rw [h2]⟩
def DropR (y : Fo) (q : List Ky) (w : World) (e : Ending) (w' : World) : Prop :=
 ∃ a c, e = .returned (.tuple #[.slice a (dropY y q).len c, .int .i64 (dropE y q)]) ∧ FSl (Rg w.heap.size w'.heap.size) w' (.slice a (dropY y q).len c) (dropY y q) ∧ Below w.heap.size w w'
theorem DropR.bad {y : Fo} {q : List Ky} {w w' : World} {x : Int} (hx : dropE y q = x) (h0 : x ≠ 0) (hb : Below w.heap.size w w') : DropR y q w (.returned (.tuple #[.slice none 0 0, .int .i64 x])) w' := by
 subst hx
 have h1 : dropY y q = .nil := by rw [dropY, if_neg h0]
 unfold DropR
 rw [h1]
 exact ⟨none, 0, rfl, ⟨[], ⟨rfl, _, 0, rfl, nl_ _, by simp [maxLen], fun _ => rfl, .inl rfl⟩, rfl⟩, hb⟩
end Go.Proofs.LF
namespace Go.Proofs.LF
open Go.RowKit Go.Sort
theorem LCs.part {α : Type} {k : Nat} {r : Rd α k} {S : Nat → Prop} {w : World} : ∀ {xs ys : List α} {cs : List Value}, LCs r S w (xs ++ ys) cs → ∃ c d, cs = c ++ d ∧ LCs r S w xs c ∧ LCs r S w ys d
 | [], _, cs, h => ⟨[], cs, rfl, rfl, h⟩
 | x :: xs, ys, cs, ⟨c, ds, h1, h2, h3⟩ => by
   obtain ⟨c', d', h4, h5, h6⟩ := LCs.part (xs := xs) (ys := ys) h3
   exact ⟨c ++ c', d', by rw [h1, h4, List.append_assoc], ⟨c, c', rfl, h2, h5⟩, h6⟩
theorem CMap.same {P : Program} {k : TypeId} {q : Ch → List UInt8} {S : Nat → Prop} {b n : Nat} {L L' : List Ch} {w : World} (h : CMap P k q S b n L w) (hL : ∀ c, c ∈ L' ↔ c ∈ L) : CMap P k q S b n L' w := by
 obtain ⟨f, h1, h2, h3⟩ := h
 exact ⟨f, h1, fun c hc => h2 c ((hL c).1 hc), fun s hs => h3 s fun c hc => hs c ((hL c).2 hc)⟩
theorem last_cells {W : World} {B g c k : Nat} {cs : List Value} {M : Nat → Prop} {K : List Ch} {x : Ch} (hK : K.length = k) (hown : W.ownsRow B 68 5 (.slice (some ⟨g, 0, none⟩) (k + 1) c) (k + 1) cs) (hl : LCs rdCh (US M W) W (K ++ [x]) cs) :
 ∃ an cn, W.cell? ⟨g, k * 5 + 2, none⟩ = some (.bool x.has) ∧ W.frozen? ⟨g, k * 5 + 2, none⟩ = false ∧ W.cell? ⟨g, k * 5 + 4, none⟩ = some (.slice an x.new.length cn) ∧ W.frozen? ⟨g, k * 5 + 4, none⟩ = false := by
 obtain ⟨c0, c1, rfl, h1, h2⟩ := LCs.part hl
 obtain ⟨c2, ds, rfl, ⟨ap, cp, ao, co, an, cn, rfl, hp, ho, hn⟩, h3⟩ := h2
 have hl0 : c0.length = k * 5 := by rw [h1.length, hK]
 have e2 : (c0 ++ ([.slice ap x.p.length cp, .bool x.had, .bool x.has, .slice ao x.old.length co, .slice an x.new.length cn] ++ ds))[k * 5 + 2]? = some (.bool x.has) := by
  rw [List.getElem?_append_right (by omega), hl0]; simp
 have e4 : (c0 ++ ([.slice ap x.p.length cp, .bool x.had, .bool x.has, .slice ao x.old.length co, .slice an x.new.length cn] ++ ds))[k * 5 + 4]? = some (.slice an x.new.length cn) := by
  rw [List.getElem?_append_right (by omega), hl0]; simp
 obtain ⟨a1, a2⟩ := owns_cell hown (by omega) e2
 obtain ⟨b1, b2⟩ := owns_cell hown (by omega) e4
 exact ⟨an, cn, a1, a2, b1, b2⟩
theorem last_set {W : World} {B g c k : Nat} {cs : List Value} {M : Nat → Prop} {K : List Ch} {x y : Ch} {an : Option Addr} {cn : Nat} (hK : K.length = k) (hown : W.ownsRow B 68 5 (.slice (some ⟨g, 0, none⟩) (k + 1) c) (k + 1) cs) (hl : LCs rdCh (US M W) W (K ++ [x]) cs)
 (hM : ∀ b, M b → b ≠ g) (hMl : ∀ b, M b → b < W.heap.size) (hn : IntU M W (.slice an y.new.length cn) y.new) :
 ∃ cs', ((W.setCell ⟨g, k * 5 + 2, none⟩ (.bool y.has)).setCell ⟨g, k * 5 + 4, none⟩ (.slice an y.new.length cn)).ownsRow B 68 5 (.slice (some ⟨g, 0, none⟩) (k + 1) c) (k + 1) cs' ∧
  LCs rdCh (US M ((W.setCell ⟨g, k * 5 + 2, none⟩ (.bool y.has)).setCell ⟨g, k * 5 + 4, none⟩ (.slice an y.new.length cn))) ((W.setCell ⟨g, k * 5 + 2, none⟩ (.bool y.has)).setCell ⟨g, k * 5 + 4, none⟩ (.slice an y.new.length cn)) (K ++ [⟨x.p, x.had, y.has, x.old, y.new⟩]) cs' ∧
  W.grownBy ((W.setCell ⟨g, k * 5 + 2, none⟩ (.bool y.has)).setCell ⟨g, k * 5 + 4, none⟩ (.slice an y.new.length cn)) (some g) := by
 obtain ⟨c0, c1, rfl, h1, h2⟩ := LCs.part hl
 obtain ⟨c2, ds, rfl, ⟨ap, cp, ao, co, an0, cn0, rfl, hp, ho, _⟩, h3⟩ := h2
 have hl0 : c0.length = k * 5 := by rw [h1.length, hK]
 obtain ⟨o1, g1⟩ := owns_set (u := .bool y.has) hown (i := k * 5 + 2) (by omega)
 obtain ⟨o2, g2⟩ := owns_set (u := .slice an y.new.length cn) o1 (i := k * 5 + 4) (by omega)
 have hds : ds = [] := h3
 subst hds
 have hg : W.grownBy ((W.setCell ⟨g, k * 5 + 2, none⟩ (.bool y.has)).setCell ⟨g, k * 5 + 4, none⟩ (.slice an y.new.length cn)) (some g) :=
  ⟨rfl, rfl, rfl, by simp [World.setCell], fun b hb hne => (g2.block b (by simpa [World.setCell] using hb) hne).trans (g1.block b hb hne)⟩
 have ha : Agree M W ((W.setCell ⟨g, k * 5 + 2, none⟩ (.bool y.has)).setCell ⟨g, k * 5 + 4, none⟩ (.slice an y.new.length cn)) := Agree.grown hg fun b hb => ⟨hMl b hb, fun e => hM b hb (Option.some.inj e).symm⟩
 have hcs : ((c0 ++ (([.slice ap x.p.length cp, .bool x.had, .bool x.has, .slice ao x.old.length co, .slice an0 x.new.length cn0] : List Value) ++ [])).set (k * 5 + 2) (.bool y.has)).set (k * 5 + 4) (.slice an y.new.length cn) = c0 ++ [.slice ap x.p.length cp, .bool x.had, .bool y.has, .slice ao x.old.length co, .slice an y.new.length cn] := by
  rw [List.append_nil, List.set_append_right _ _ (by omega), List.set_append_right _ _ (by omega), hl0]
  simp
 rw [hcs] at o2
 refine ⟨_, o2, ?_, hg⟩
 have hw := US.agree ha
 refine ((h1.agree hw.1).wide hw.2).app (LCs.single ⟨ap, cp, ao, co, an, cn, rfl, (Pth.agree hp hw.1).wide hw.2, (Ints.agree ho hw.1).wide hw.2, IntU.agree hn ha⟩)
theorem cell_ne {w : World} {g i j : Nat} {v : Value} (h : i ≠ j) : (w.setCell ⟨g, i, none⟩ v).cell? ⟨g, j, none⟩ = w.cell? ⟨g, j, none⟩ ∧ (w.setCell ⟨g, i, none⟩ v).frozen? ⟨g, j, none⟩ = w.frozen? ⟨g, j, none⟩ := by
 constructor
 · simp only [World.cell?, World.setCell, Array.getElem?_modify]
   cases w.heap[g]? with
   | none => simp
   | some o => cases o <;> simp [Array.getElem?_setIfInBounds, h]
 · simp only [World.frozen?, World.setCell, Array.getElem?_modify]
   cases w.heap[g]? with
   | none => simp
   | some o => cases o <;> simp
theorem owns_heap {w w' : World} {B e k n : Nat} {v : Value} {cs : List Value} (h : w.ownsRow B e k v n cs) (e1 : w'.heap = w.heap) : w'.ownsRow B e k v n cs := owns_agree h fun g _ => by rw [e1]
theorem lcs_heap {M : Nat → Prop} {w w' : World} {xs : List Ch} {cs : List Value} (h : LCs rdCh (US M w) w xs cs) (e1 : w'.heap = w.heap) : LCs rdCh (US M w') w' xs cs := by
 have ha : Agree M w w' := fun b _ => by rw [e1]
 exact (h.agree (US.agree ha).1).wide (US.agree ha).2
end Go.Proofs.LF
namespace Go.Proofs.LF
open Go.RowKit Go.Sort
set_option maxHeartbeats 4000000
set_option maxRecDepth 100000
attribute [local go_sem] bs_toList bs_size bs_get
theorem Same_any (p q : List Ky) (ap aq : Option Addr) (cp cq : Nat) (S : Nat → Prop) (w : World) (hp : Pth S w (.slice ap p.length cp) p) (hq : Pth S w (.slice aq q.length cq) q) (lp : p.length ≤ 100000) (lq : q.length ≤ 100000) :
 Calls Tryz.prog 73 #[.slice ap p.length cp, .slice aq q.length cq] w fun e w' => e = .returned (.bool (decide (p = q))) ∧ Below w.heap.size w w' := by
 by_cases hne : p.length = q.length
 · have hne' : ((p.length : Int) != (q.length : Int)) = false := by simp; omega
   have HN := hid hne
   clear hne
   go_enter Tryz.func73, Tryz.ntmps73
   go_wp2_with fail
   go_loopw [5] (fun i wr => ∃ (k d : Nat), k ≤ p.length ∧ i = .int .i64 k ∧ wr = w.drewN d ∧ Hid (p.take k = q.take k)) (fun i _ => p.length - (intOf i).toNat)
   case atStart => exact ⟨0, 0, by omega, rfl, rfl, by simp [Hid]⟩
   case round =>
    obtain ⟨k, d, hk, rfl, rfl, H2⟩ := hrel
    by_cases hlt : k < p.length
    · obtain ⟨g, o, rfl, _, _, _, hcell⟩ := SlC.cells hp (by omega)
      obtain ⟨g', o', rfl, _, _, _, hcell'⟩ := SlC.cells hq (by have := HN.out; omega)
      have hlt' : k < q.length := by have := HN.out; omega
      obtain ⟨k0, k1, k2⟩ := key_cells hlt
      obtain ⟨k0', k1', k2'⟩ := key_cells hlt'
      have c0 := hcell _ _ k0
      have c1 := hcell _ _ k1
      have c2 := hcell _ _ k2
      have d0 := hcell' _ _ k0'
      have d1 := hcell' _ _ k1'
      have d2 := hcell' _ _ k2'
      rw [← Nat.add_assoc] at c1 c2 d1 d2
      have htp : p.take (k + 1) = p.take k ++ [p[k]] := List.take_succ_eq_append_getElem hlt
      have htq : q.take (k + 1) = q.take k ++ [q[k]] := List.take_succ_eq_append_getElem hlt'
      obtain ⟨a, ha⟩ : ∃ a, p[k] = a := ⟨_, rfl⟩
      obtain ⟨b, hb⟩ : ∃ b, q[k] = b := ⟨_, rfl⟩
      have HA := hid ha
      have HB := hid hb
      rw [ha] at c0 c1 c2 htp
      rw [hb] at d0 d1 d2 htq
      have HTP := hid htp
      have HTQ := hid htq
      clear hcell hcell' k0 k1 k2 k0' k1' k2' htp htq ha hb
      have i1 : (0 : Int) ≤ (k : Int) := by omega
      have i2 : (k : Int) < (p.length : Int) := by omega
      have i3 : (k : Int) < (q.length : Int) := by omega
      by_cases he : a = b
      · subst he
        go_wp2_with fail
        go_quiet (fail)
        go_wp2_with fail
        go_roundw
        case rel => exact ⟨k + 1, _, by omega, by go_num, rfl, by rw [Hid, HTP.out, HTQ.out, H2.out]⟩
        case measure => simp [intOf]; omega
      · have hdec : (a.n == b.n && (a.h == b.h && a.x == b.x)) = false := by rw [← ky_beq]; simp [he]
        have HE := hid he
        have HDEC := hid hdec
        clear he hdec
        cases hn : (a.n == b.n) <;> cases hh : (a.h == b.h) <;> cases hx : (a.x == b.x)
        all_goals first
         | (exfalso; have := HDEC.out; rw [hn, hh, hx] at this; cases this; done)
         | (go_wp2_with fail
            go_quiet (fail)
            go_wp2_with fail
            go_ret
            refine ⟨ret_bool ?_, below_drewN (below_drewN (Below.refl _ _) _) _⟩
            symm
            rw [decide_eq_false_iff_not]
            rintro rfl
            exact HE.out (HA.out.symm.trans HB.out))
    · go_wp2_with fail
      go_ret
      obtain rfl : k = p.length := by omega
      refine ⟨ret_bool ?_, below_drewN (Below.refl _ _) _⟩
      symm
      have := H2.out
      rw [List.take_length, HN.out, List.take_length] at this
      exact decide_eq_true this
 · have hne' : ((p.length : Int) != (q.length : Int)) = true := by simp; omega
   have HN := hid hne
   clear hne
   go_enter Tryz.func73, Tryz.ntmps73
   go_wp2_with fail
   go_ret
   refine ⟨ret_bool ?_, Below.refl _ _⟩
   symm
   rw [decide_eq_false_iff_not]
   rintro rfl
   exact HN.out rfl
end Go.Proofs.LF
namespace Go.Proofs.LF
theorem nop_chR {a b : List Fl} {p : List Ky} : nopC (chR a b p) = eqR a b p := by
 unfold nopC chR eqR
 cases rfd a p <;> cases rfd b p <;> simp [fl0]
theorem chR_same {a b c : List Fl} {p : List Ky} (h : eqR b c p = true) : chR a b p = chR a c p := by
 unfold chR; rw [rfd_same h]
theorem chR_same' {a b c : List Fl} {p : List Ky} (h : eqR a b p = true) : chR a c p = chR b c p := by
 unfold chR; rw [rfd_same h]
theorem dif_fd {y x : Fo} (hy : chkY y = 0) (hx : chkY x = 0) (p : List Ky) : fdC (difL y x) p = if (p ∈ (flsL [] y).map Fl.p ∨ p ∈ (flsL [] x).map Fl.p) ∧ eqR (flsL [] y) (flsL [] x) p = false then some (chR (flsL [] y) (flsL [] x) p) else none := by
 split
 · rename_i h
   exact fdC_mem (dif_srt hy hx) ((dif_mem hy hx (c := chR (flsL [] y) (flsL [] x) p)).2 ⟨h.1, h.2, rfl⟩)
 · rename_i h
   cases hf : fdC (difL y x) p with
   | none => rfl
   | some c =>
     obtain ⟨h1, h2⟩ := fdC_some hf
     obtain ⟨h3, h4, _⟩ := (dif_mem hy hx).1 h1
     rw [h2] at h3 h4
     exact absurd ⟨h3, h4⟩ h
theorem eqR_no_mem {a b : List Fl} {p : List Ky} (h : eqR a b p = false) : p ∈ a.map Fl.p ∨ p ∈ b.map Fl.p := by
 by_cases h1 : p ∈ a.map Fl.p
 · exact .inl h1
 · by_cases h2 : p ∈ b.map Fl.p
   · exact .inr h2
   · rw [eqR_rfd (by rw [rfd_no h1, rfd_no h2])] at h; cases h
theorem dif_fd' {y x : Fo} (hy : chkY y = 0) (hx : chkY x = 0) (p : List Ky) : fdC (difL y x) p = if eqR (flsL [] y) (flsL [] x) p = false then some (chR (flsL [] y) (flsL [] x) p) else none := by
 rw [dif_fd hy hx]
 by_cases h : eqR (flsL [] y) (flsL [] x) p = false
 · rw [if_pos ⟨eqR_no_mem h, h⟩, if_pos h]
 · rw [if_neg (fun q => h q.2), if_neg h]
theorem dif_mem' {y x : Fo} (hy : chkY y = 0) (hx : chkY x = 0) {c : Ch} : c ∈ difL y x ↔ eqR (flsL [] y) (flsL [] x) c.p = false ∧ c = chR (flsL [] y) (flsL [] x) c.p :=
 (dif_mem hy hx).trans ⟨fun h => h.2, fun h => ⟨eqR_no_mem h.1, h⟩⟩
theorem aft_dif {y x z : Fo} (hy : chkY y = 0) (hx : chkY x = 0) (hz : chkY z = 0) : aftE (difL y x) (difL x z) = 0 ∧ aftL (difL y x) (difL x z) = difL y z := by
 have k1 := dif_ck hy hx
 have k2 := dif_ck hx hz
 have hcl : (difL y x).any (claC (difL x z)) = false := by
  rw [List.any_eq_false]
  intro a ha
  obtain ⟨_, h2⟩ := (dif_mem' hy hx).1 ha
  unfold claC
  rw [dif_fd' hx hz]
  by_cases h : eqR (flsL [] x) (flsL [] z) a.p = false
  · rw [if_pos h, h2]; simp [chR]
  · rw [if_neg h]; simp
 have hmem : ∀ c, c ∈ aftO (difL y x) (difL x z) ↔ c ∈ difL y z := by
  intro c
  rw [dif_mem' hy hz, aftO, List.mem_filter, List.mem_append, List.mem_map, remC_mem]
  have mr : ∀ p, eqR (flsL [] y) (flsL [] x) p = false → mrgC (difL x z) (chR (flsL [] y) (flsL [] x) p) = chR (flsL [] y) (flsL [] z) p := by
   intro p _
   unfold mrgC
   rw [dif_fd' hx hz]
   by_cases h : eqR (flsL [] x) (flsL [] z) (chR (flsL [] y) (flsL [] x) p).p = false
   · rw [if_pos h]; rfl
   · rw [if_neg h]; exact chR_same (by simpa [chR] using h)
  constructor
  · rintro ⟨⟨a, ha, rfl⟩ | ⟨h1, h2⟩, hn⟩
    · obtain ⟨h3, h4⟩ := (dif_mem' hy hx).1 ha
      have e := mr a.p h3
      rw [← h4] at e
      rw [e] at hn ⊢
      refine ⟨?_, rfl⟩
      rw [nop_chR] at hn
      simpa [chR] using hn
    · obtain ⟨h3, h4⟩ := (dif_mem' hx hz).1 h1
      have he : eqR (flsL [] y) (flsL [] x) c.p = true := by
       cases hq : eqR (flsL [] y) (flsL [] x) c.p with
       | true => rfl
       | false => exact absurd rfl (h2 (chR (flsL [] y) (flsL [] x) c.p) ((dif_mem' hy hx).2 ⟨hq, rfl⟩))
      have e := chR_same' (c := flsL [] z) he
      rw [← h4] at e
      refine ⟨?_, e.symm⟩
      rw [← e, nop_chR] at hn
      simpa [chR] using hn
  · rintro ⟨h1, h2⟩
    refine ⟨?_, by rw [h2, nop_chR]; simpa [chR] using h1⟩
    by_cases hq : eqR (flsL [] y) (flsL [] x) c.p = false
    · left
      exact ⟨chR (flsL [] y) (flsL [] x) c.p, (dif_mem' hy hx).2 ⟨hq, rfl⟩, by rw [mr c.p hq]; exact h2.symm⟩
    · right
      have hq' : eqR (flsL [] y) (flsL [] x) c.p = true := by simpa using hq
      refine ⟨(dif_mem' hx hz).2 ⟨?_, by rw [← chR_same' hq']; exact h2⟩, fun a ha e => ?_⟩
      · cases he : eqR (flsL [] x) (flsL [] z) c.p with
        | false => rfl
        | true => rw [eqR_trans hq' he] at h1; cases h1
      · obtain ⟨h3, _⟩ := (dif_mem' hy hx).1 ha
        rw [e, hq'] at h3; cases h3
 have hnd := aft_nodup (dif_srt hy hx) (dif_srt hx hz)
 have hs : srtCh (aftO (difL y x) (difL x z)) = difL y z := srtC_ext (srtCh_srt hnd) (dif_srt hy hz) fun c => by rw [srtCh_mem]; exact hmem c
 have hlen : (aftO (difL y x) (difL x z)).length = (difL y z).length := by
  rw [show (aftO (difL y x) (difL x z)).length = ((aftO (difL y x) (difL x z)).map Ch.p).length by rw [List.length_map], show (difL y z).length = ((difL y z).map Ch.p).length by rw [List.length_map]]
  refine List.Perm.length_eq ((List.perm_ext_iff_of_nodup hnd (SrtC.nodup (dif_srt hy hz))).2 fun p => ?_)
  simp only [List.mem_map, hmem]
 have hE : aftE (difL y x) (difL x z) = 0 := by
  unfold aftE
  rw [if_neg (by simpa using k1), if_neg (by simpa using k2), if_neg (by rw [hcl]; simp), if_neg (by rw [hlen]; have := dif_len hy hz; omega)]
 exact ⟨hE, by rw [aftL, if_pos hE, hs]⟩
theorem dif_self {y : Fo} (hy : chkY y = 0) : difL y y = [] := by
 rw [List.eq_nil_iff_forall_not_mem]
 intro c hc
 have := ((dif_mem' hy hy).1 hc).1
 rw [eqR_rfd rfl] at this
 cases this
theorem eqR_fit {a b : List Fl} {p : List Ky} (h : ((rfd b p).isSome == (rfd a p).isSome && decide (((rfd b p).getD fl0).l = ((rfd a p).getD fl0).l)) = true) : eqR a b p = true := by
 unfold eqR
 cases ha : rfd a p <;> cases hb : rfd b p <;> rw [ha, hb] at h <;> simp [fl0] at h ⊢
 exact h.symm
theorem mk_misfit {y x : Fo} (hy : chkY y = 0) (hx : chkY x = 0) : mkE x (difL y x) = if difL y x = [] then 0 else 7 := by
 split
 · rename_i h
   have := (mk_dif hx hx).1
   rw [dif_self hx] at this
   rw [h]; exact this
 · rename_i h
   obtain ⟨c, hc⟩ := List.exists_mem_of_ne_nil _ h
   obtain ⟨h1, h2⟩ := (dif_mem' hy hx).1 hc
   have hf : (difL y x).all (fitC (flsL [] x)) = false := by
    rw [List.all_eq_false]
    refine ⟨c, hc, fun hfit => ?_⟩
    unfold fitC at hfit
    rw [fnd_rfd (fls_srt hx), congrArg Ch.had h2, congrArg Ch.old h2] at hfit
    simp only [chR] at hfit
    have := eqR_fit hfit
    rw [this] at h1; cases h1
   unfold mkE
   rw [if_neg (by simpa using hx), if_neg (by simpa using dif_ck hy hx), if_pos hf]
end Go.Proofs.LF
namespace Go.Proofs.LF
open Go.RowKit Go.Sort
theorem fmK_len {α : Type} (enc : α → List Value) (k : Nat) (hk : ∀ x, (enc x).length = k) : ∀ (ds : List α), (ds.flatMap enc).length = ds.length * k
 | [] => by simp
 | x :: ds => by rw [List.flatMap_cons, List.length_append, hk, fmK_len enc k hk ds, List.length_cons, Nat.add_mul]; omega
theorem fmK_get {α : Type} [Inhabited α] (enc : α → List Value) (k : Nat) (hk : ∀ x, (enc x).length = k) (hp : 0 < k) : ∀ (ds : List α) (t : Nat), t < ds.length * k → (ds.flatMap enc)[t]! = (enc ds[t / k]!)[t % k]!
 | [], t, h => by simp at h
 | x :: ds, t, h => by
   rw [List.flatMap_cons]
   by_cases h1 : t < k
   · have h2 : t / k = 0 := Nat.div_eq_of_lt h1
     have h3 : t % k = t := Nat.mod_eq_of_lt h1
     rw [h2, h3]
     simp [List.getElem!_eq_getElem?_getD, List.getElem?_append, hk, h1]
   · obtain ⟨u, rfl⟩ : ∃ u, t = k + u := ⟨t - k, by omega⟩
     have h2 : (k + u) / k = u / k + 1 := by rw [Nat.add_comm, Nat.add_div_right _ hp]
     have h3 : (k + u) % k = u % k := by rw [Nat.add_comm, Nat.add_mod_right]
     have h4 : u < ds.length * k := by rw [List.length_cons, Nat.add_mul] at h; omega
     have := fmK_get enc k hk hp ds u h4
     rw [h2, h3]
     simp [List.getElem!_eq_getElem?_getD, List.getElem?_append, hk, show ¬ k + u < k by omega] at this ⊢
     exact this
structure FV where
 ap : Option Addr
 cp : Nat
 an : Option Addr
 cn : Nat
 f : Fl
def FV.vs (x : FV) : List Value := [.slice x.ap x.f.p.length x.cp, .slice x.an x.f.l.length x.cn]
abbrev FVs (M : Nat → Prop) (w : World) := { x : FV // Pth M w (.slice x.ap x.f.p.length x.cp) x.f.p ∧ Ints M w (.slice x.an x.f.l.length x.cn) x.f.l ∧ x.f.p.length ≤ 1000 }
theorem fvs_of {M : Nat → Prop} {w : World} : ∀ {ls : List Fl} {cs : List Value}, LCs rdFl M w ls cs → (∀ f ∈ ls, f.p.length ≤ 1000) → ∃ ds : List (FVs M w), ds.flatMap (·.1.vs) = cs ∧ ds.map (·.1.f) = ls
 | [], _, h, _ => ⟨[], by rw [show _ = [] from h]; rfl, rfl⟩
 | x :: ls, _, ⟨c, es, h1, ⟨ap, cp, an, cn, h2, h3, h4⟩, h5⟩, hl => by
   obtain ⟨ds, hd1, hd2⟩ := fvs_of h5 (fun q hq => hl q (by simp [hq]))
   exact ⟨⟨⟨ap, cp, an, cn, x⟩, h3, h4, hl x (by simp)⟩ :: ds, by rw [h1, h2, ← hd1]; rfl, by simp [hd2]⟩
theorem fvs_to {M : Nat → Prop} {w : World} : ∀ (ds : List (FVs M w)), LCs rdFl M w (ds.map (·.1.f)) (ds.flatMap (·.1.vs))
 | [] => rfl
 | x :: ds => ⟨x.1.vs, ds.flatMap (·.1.vs), rfl, ⟨_, _, _, _, rfl, x.2.1, x.2.2.1⟩, fvs_to ds⟩
set_option maxHeartbeats 4000000
set_option maxRecDepth 100000
theorem flatK_list {α : Type} [Inhabited α] (enc : α → List Value) (k : Nat) (hk : ∀ x, (enc x).length = k) (hp : 0 < k) (ds : List α) : (flatK enc k ds.toArray).toList = ds.flatMap enc := by
 apply List.ext_getElem
 · rw [fmK_len enc k hk]; simp
 · intro t h1 h2
   have h3 : t < ds.length * k := by rwa [fmK_len enc k hk] at h2
   have e1 := get_flatK enc k ds.toArray t (by simpa using h3)
   have e2 := fmK_get enc k hk hp ds t h3
   rw [getElem!_pos (flatK enc k ds.toArray) t (by simpa using h3)] at e1
   rw [getElem!_pos (ds.flatMap enc) t h2] at e2
   rw [Array.getElem_toList, e1, e2]
   simp
theorem sortF_any (ls : List Fl) (v : Value) (B : Nat) (cs : List Value) (M : Nat → Prop) (w : World) (hown : w.ownsRow B 171 2 v ls.length cs) (hlc : LCs rdFl M w ls cs) (hM : ∀ b, M b → b < w.heap.size ∧ v.ownBlock ≠ some b) (hls : ∀ f ∈ ls, f.p.length ≤ 1000) (hl : ls.length ≤ 100000) :
 Calls Tryz.prog 164 #[v, .func (.func 165) #[] #[]] w fun e w' => e = .returned (.tuple #[]) ∧ ∃ ls' cs', ls'.Perm ls ∧ ls'.Pairwise (fun a b => cmpP a.p b.p ≤ 0) ∧ w'.ownsRow B 171 2 v ls.length cs' ∧ LCs rdFl M w' ls' cs' ∧ w.grownBy w' v.ownBlock := by
 by_cases h0 : ls.length = 0
 · obtain rfl := List.eq_nil_of_length_eq_zero h0
   obtain ⟨a, c, rfl, _, _⟩ := owns_shape hown
   refine (AnyF.slices_SortFunc_none Tryz.laysSortQ a c (.func (.func 165) #[] #[]) w).mono ?_
   rintro e w' ⟨rfl, rfl⟩
   exact ⟨rfl, [], cs, List.Perm.refl _, List.Pairwise.nil, hown, hlc, World.grownBy.refl _ _⟩
 obtain ⟨h1, ⟨rfl, h2⟩ | ⟨g, cap, cur, rfl, hbg, hgg, hn, hcap, hsz, htk⟩⟩ := hown
 · omega
 · obtain ⟨ds, hd1, hd2⟩ := fvs_of hlc hls
   have hdl : ds.length = ls.length := by rw [← hd2]; simp
   have hgl : g < w.heap.size := (Array.getElem?_eq_some_iff.1 hgg).1
   haveI : Inhabited (FVs M w) := ⟨ds[0]'(by omega)⟩
   have hMg : ∀ b, M b → b ≠ g := fun b hb e => (hM b hb).2 (by simp [Value.ownBlock, e])
   have hk2 : ∀ x : FVs M w, x.1.vs.length = 2 := fun x => rfl
   have hfl := flatK_list (fun x : FVs M w => x.1.vs) 2 hk2 (by omega) ds
   rw [hd1] at hfl
   have hH : HoldsK (fun x : FVs M w => x.1.vs) 2 w g 0 ds.toArray := by
    intro j hj
    have e1 : cs[j]? = some (flatK (fun x : FVs M w => x.1.vs) 2 ds.toArray)[j] := by rw [← hfl]; simp [Array.getElem?_eq_getElem hj]
    have hj2 : j < ls.length * 2 := by rw [size_flatK] at hj; simpa [hdl] using hj
    rw [← htk, List.getElem?_take] at e1
    rw [if_pos (by omega)] at e1
    refine ⟨?_, by simp [World.frozen?, hgg]⟩
    simp only [World.cell?, hgg, Nat.zero_add]
    rw [← Array.getElem?_toList, e1]
    rw [getElem!_pos _ j hj]; rfl
   have hag : ∀ m os (dk : Array (FVs M w)), Agree M w (sortWorldK (fun x : FVs M w => x.1.vs) 2 w g 0 m dk os) := fun m os dk b hb => sortW_block (enc := id) (d := flatK (fun x : FVs M w => x.1.vs) 2 dk) (hM b hb).1 (hMg b hb)
   have hgr : ∀ m os (dk : Array (FVs M w)), w.grownBy (sortWorldK (fun x : FVs M w => x.1.vs) 2 w g 0 m dk os) (some g) := fun m os dk => sortW_grown (enc := id) (flatK (fun x : FVs M w => x.1.vs) 2 dk)
   have hcmp : CmpLays Tryz.prog 165 #[] (fun x : FVs M w => x.1.vs) 2 (fun x y => cmpP x.1.f.p y.1.f.p) g 0 ds.toArray.size w := by
    intro m os dk hs x y
    have := cmp165g x.1.f y.1.f x.1.ap y.1.ap x.1.an y.1.an x.1.cp y.1.cp x.1.f.l.length x.1.cn y.1.f.l.length y.1.cn M (sortWorldK (fun x : FVs M w => x.1.vs) 2 w g 0 m dk os) (x.2.1.agree (hag m os dk)) (y.2.1.agree (hag m os dk)) (fun b hb => by have h9 := (hgr m os dk).size; have := (hM b hb).1; omega) x.2.2.2 y.2.2.2
    simpa [Grw, FV.vs] using this
   have hcon := AnyQ.slices_SortFunc Tryz.laysSortQ 2 (fun w => Tryz.isAgg171 w) (fun w => Tryz.sizeOf171 w) (fun x : FVs M w => x.1.vs) hk2 (fun x v hv => by simp [FV.vs] at hv; rcases hv with rfl | rfl <;> rfl) (fun x y => cmpP x.1.f.p y.1.f.p) (swoP fun x : FVs M w => x.1.f.p) 165 #[] g 0 cap ds.toArray w enters165 hcmp hH hgl (by simp; omega)
   have e1 : ds.toArray.size = ls.length := by simpa using hdl
   rw [e1] at hcon
   refine hcon.mono ?_
   rintro e w' ⟨rfl, d', n, os, ⟨hp1, _, hp3⟩, hs, rfl⟩
   have hd's : d'.size = ls.length := by rw [hp1, e1]
   have h3 : d'.toList.Perm ds := by
    have := hp3
    rw [← e1] at this
    rw [Array.extract_eq_self_of_le (by omega), Array.extract_eq_self_of_le (by omega)] at this
    simpa using this
   have hfl' := flatK_list (fun x : FVs M w => x.1.vs) 2 hk2 (by omega) d'.toList
   have hsz' : (flatK (fun x : FVs M w => x.1.vs) 2 d').size = ls.length * 2 := by rw [size_flatK, hd's]
   refine ⟨rfl, d'.toList.map (·.1.f), d'.toList.flatMap (·.1.vs), by rw [← hd2]; exact h3.map _, ?_, ⟨by rw [fmK_len _ 2 hk2]; simp [hd's], .inr ⟨g, cap, _, rfl, hbg, sortW_row (enc := id) (d := flatK (fun x : FVs M w => x.1.vs) 2 d') hgg, hn, hcap, by simp [putCells, hsz], ?_⟩⟩, (fvs_to d'.toList).agree (hag n os d'), hgr n os d'⟩
   · rw [List.pairwise_map, List.pairwise_iff_getElem]
     intro i j hi hj hij
     have hi' : i < d'.size := by simpa using hi
     have hj' : j < d'.size := by simpa using hj
     have := hs i j (Nat.zero_le _) hij (by omega)
     simp only [ltOf, decide_eq_false_iff_not] at this
     rw [getElem!_pos d' j hj', getElem!_pos d' i hi'] at this
     simp only [Array.getElem_toList]
     rcases Int.lt_trichotomy (cmpP d'[i].1.f.p d'[j].1.f.p) 0 with h | h | h
     · omega
     · omega
     · exact absurd (cmpP_ord.flop h) this
   · rw [← hsz', take_putC _ _ _ (by omega), List.map_id]
     simpa using hfl'
end Go.Proofs.LF
namespace Go.Proofs.LF
open Go.RowKit Go.Sort
set_option maxHeartbeats 4000000
set_option maxRecDepth 100000
attribute [local go_sem] bs_toList bs_size bs_get
theorem Pth.key {S : Nat → Prop} {w : World} {p : List Ky} {a : Option Addr} {c k : Nat} (hp : Pth S w (.slice a p.length c) p) (hk : k < p.length) : ∃ g o, a = some ⟨g, o, none⟩ ∧ S g ∧ w.cell? ⟨g, o + k * 3, none⟩ = some (.string (bs p[k].n)) ∧ w.cell? ⟨g, o + k * 3 + 1, none⟩ = some (.bool p[k].h) ∧ w.cell? ⟨g, o + k * 3 + 2, none⟩ = some (.int .i64 p[k].x) := by
 obtain ⟨g, o, rfl, hg, _, _, hcell⟩ := SlC.cells hp (by omega)
 obtain ⟨k0, k1, k2⟩ := key_cells hk
 have c0 := hcell _ _ k0
 have c1 := hcell _ _ k1
 have c2 := hcell _ _ k2
 rw [← Nat.add_assoc] at c1 c2
 exact ⟨g, o, rfl, hg, c0, c1, c2⟩
end Go.Proofs.LF
