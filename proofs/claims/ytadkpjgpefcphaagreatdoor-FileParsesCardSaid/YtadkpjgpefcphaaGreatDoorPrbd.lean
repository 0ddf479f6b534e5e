/- Parts of the proof of a law of layer 11 (file): LfW38. The conditions stand in each theorem. -/
import Derived.BigQuiet
import Derived.Deep.AppendLies
import Derived.Deep.QuietTactic
import Derived.Deep.RegionHeld3
import Derived.Laws.ResultCell
import Derived.Outline
import Derived.Test.YtadkpjgpefcphaaGreatDoorProg
import Derived.WalkKit
import Derived.WalkLawsBesides
import Derived.WalkSpells
import Derived.Test.YtadkpjgpefcphaaGreatDoorPral
import Derived.Test.YtadkpjgpefcphaaGreatDoorPrau
import Derived.Test.YtadkpjgpefcphaaGreatDoorPraz
set_option linter.all false
set_option linter.unusedVariables false
set_option linter.unusedSimpArgs false
namespace Go.Proofs.LF
open Go.RowKit Go.Sort
set_option maxHeartbeats 4000000
set_option maxRecDepth 100000
attribute [local go_sem] bs_toList bs_size bs_get
theorem fstK_sm {k : Ky} {n : List UInt8} {l : List Int} {s : Fo} : ∀ {y : Fo}, y.Sm → fstK k y = some (n, l, s) → n.length ≤ 1000 ∧ l.length ≤ 1000 ∧ s.len ≤ 1000 ∧ s.Sm
  | .nil, _, h => by cases h
  | .cons n' l' s' r, ⟨h1, h2, h3, h4, h5⟩, h => by
    simp only [fstK] at h
    split at h
    · cases h; exact ⟨h1, h2, h3, h4⟩
    · exact fstK_sm h5 h
theorem atF_sm {n : List UInt8} {l : List Int} {s : Fo} : ∀ {p : List Ky} {y : Fo}, y.Sm → atF y p = some (n, l, s) → n.length ≤ 1000 ∧ l.length ≤ 1000 ∧ s.len ≤ 1000 ∧ s.Sm
  | [], y, _, h => by cases y <;> cases h
  | k :: r, y, hy, h => by
    have e : atF y (k :: r) = match fstK k y with | none => none | some x => if r = [] then some x else atF x.2.2 r := by cases y <;> rfl
    rw [e] at h
    cases hk : fstK k y with
    | none => rw [hk] at h; cases h
    | some x =>
      rw [hk] at h
      obtain ⟨n', l', s'⟩ := x
      simp only at h
      split at h
      · cases h; exact fstK_sm hy hk
      · exact atF_sm (fstK_sm hy hk).2.2.2 h
theorem fstK_cnt {k : Ky} {n : List UInt8} {l : List Int} {s : Fo} : ∀ {y : Fo}, fstK k y = some (n, l, s) → s.cnt < y.cnt
  | .nil, h => by cases h
  | .cons n' l' s' r, h => by
    simp only [fstK] at h
    split at h
    · cases h; simp only [Fo.cnt]; omega
    · have := fstK_cnt h; simp only [Fo.cnt]; omega
theorem one_node {S : Nat → Prop} {w : World} {b : Nat} {n : List UInt8} {l : List Int} {s : Fo} {vn vs : Value} {t : TypeId} {fr : Nat × Nat} (hb : w.heap[b]? = some (.cells #[.string (bs n), vn, vs] t fr)) (h1 : Ints S w vn l) (h2 : FSl S w vs s) :
    FSl (fun x => S x ∨ x = b) w (.slice (some ⟨b, 0, none⟩) 1 1) (.cons n l s .nil) := by
  obtain ⟨ds, h3, h4⟩ := h2
  refine ⟨[.string (bs n), vn, vs], ⟨by rfl, some ⟨b, 0, none⟩, 1, rfl, Nat.le_refl _, by simp [maxLen], (fun h => by cases h), .inr ⟨b, 0, rfl, .inr rfl, fun j u hj => ?_⟩⟩, vn, vs, [], rfl, h1.wide (fun _ h => .inl h), ⟨ds, h3.wide (fun _ h => .inl h), h4.wide (fun _ h => .inl h)⟩, rfl⟩
  rw [Nat.zero_add]
  simp only [World.cell?, hb]
  simpa using hj
def getE (y : Fo) (p : List Ky) : Int := if chkY y ≠ 0 then chkY y else if (atF y p).isSome then 0 else 1
def getN (y : Fo) (p : List Ky) : List UInt8 × List Int × Fo := if getE y p = 0 then (atF y p).getD ([], [], .nil) else ([], [], .nil)
theorem ret56 {tmps : Array Value} {W : World} {b : Nat} {x y z t5 : Value} (h : W.heap[b]? = some (.cells #[x, y, z] 85 (0, 0))) (h2 : tmps.getD 4 undef = .pointer (some ⟨b, 0, none⟩)) (h3 : tmps.getD 5 undef = t5) :
    (results Tryz.f56 tmps).run Tryz.prog W = .ok (.tuple #[.agg #[x, y, z], t5]) W := by
  have h0 := cells_get h (k := 0) rfl
  have h1 := cells_get h (k := 1) rfl
  have h4 := cells_get h (k := 2) rfl
  rw [results_cell_tmp rfl, h2, h3]
  simp [go_sem, h0, h1, h4]
theorem below_set3 {lo b : Nat} {w W : World} {x y z : Value} (h : Below lo w W) (hb : lo ≤ b) : Below lo w (((W.setCell ⟨b, 0, none⟩ x).setCell ⟨b, 1, none⟩ y).setCell ⟨b, 2, none⟩ z) :=
  Below.setCell (Below.setCell (Below.setCell h (p := ⟨b, 0, none⟩) hb _) (p := ⟨b, 1, none⟩) hb _) (p := ⟨b, 2, none⟩) hb _
def GetR (y : Fo) (p : List Ky) (w : World) (e : Ending) (w' : World) : Prop :=
  ∃ n l s an cn ab cb, getN y p = (n, l, s) ∧ e = .returned (.tuple #[.agg #[.string (bs n), .slice an l.length cn, .slice ab s.len cb], .int .i64 (getE y p)]) ∧
    Ints (Rg w.heap.size w'.heap.size) w' (.slice an l.length cn) l ∧ FSl (Rg w.heap.size w'.heap.size) w' (.slice ab s.len cb) s ∧ Below w.heap.size w w'
theorem GetR.bad {y : Fo} {p : List Ky} {w w' : World} {x : Int} (hx : getE y p = x) (h0 : x ≠ 0) (hb : Below w.heap.size w w') : GetR y p w (.returned (.tuple #[.agg #[.string { data := #[] }, .slice none 0 0, .slice none 0 0], .int .i64 x])) w' := by
  subst hx
  exact ⟨[], [], .nil, none, 0, none, 0, by simp [getN, h0], rfl, ⟨rfl, _, 0, rfl, Nat.le_refl _, by simp [maxLen], fun _ => rfl, .inl rfl⟩, ⟨[], ⟨rfl, _, 0, rfl, Nat.le_refl _, by simp [maxLen], fun _ => rfl, .inl rfl⟩, rfl⟩, hb⟩
theorem own_one (n : List UInt8) (l : List Int) (s : Fo) (vn vs : Value) (b : Nat) (t : TypeId) (fr : Nat × Nat) (S : Nat → Prop) (W : World) (hb : W.heap[b]? = some (.cells #[.string (bs n), vn, vs] t fr)) (h1 : Ints S W vn l) (h2 : FSl S W vs s)
    (hS : ∀ b, S b → b < W.heap.size) (s1 : n.length ≤ 1000) (s2 : l.length ≤ 1000) (s3 : s.len ≤ 1000) (s4 : s.Sm) :
    Calls Tryz.prog 133 #[.slice (some ⟨b, 0, none⟩) 1 1] W fun e w' => ∃ g o c an cn ab cb, e = .returned (.slice (some ⟨g, o, none⟩) 1 c) ∧ 1 ≤ c ∧ W.heap.size ≤ g ∧ w'.cell? ⟨g, o, none⟩ = some (.string (bs n)) ∧ w'.cell? ⟨g, o + 1, none⟩ = some (.slice an l.length cn) ∧ w'.cell? ⟨g, o + 2, none⟩ = some (.slice ab s.len cb) ∧
      Ints (Rg W.heap.size w'.heap.size) w' (.slice an l.length cn) l ∧ FSl (Rg W.heap.size w'.heap.size) w' (.slice ab s.len cb) s ∧ Below W.heap.size W w' := by
  have hlt : b < W.heap.size := (Array.getElem?_eq_some_iff.1 hb).1
  refine (own_any _ (.cons n l s .nil) (some ⟨b, 0, none⟩) 1 (fun x => S x ∨ x = b) W (Nat.lt_succ_self _) (one_node hb h1 h2) (fun x hx => hx.elim (hS x) (fun h => by omega)) (by simp [Fo.len]) ⟨s1, s2, s3, s4, trivial⟩).mono ?_
  rintro e w' ⟨a, c, rfl, hF, hbel⟩
  obtain ⟨a', c', he, hc1, _, hat⟩ := hF.fsl.at
  cases he
  obtain ⟨g, o, n', l', s', r', an, cn, ab, cb, rfl, hg, hd, m0, m1, m2, hI, hFs⟩ := hat 0 (by simp [Fo.len])
  simp only [Fo.drop, Fo.cons.injEq] at hd
  obtain ⟨rfl, rfl, rfl, rfl⟩ := hd
  simp only [Nat.zero_mul, Nat.add_zero] at m0 m1 m2
  exact ⟨g, o, c, an, cn, ab, cb, rfl, hc1, hg.1, m0, m1, m2, hI, hFs, hbel⟩
theorem Get_any (y : Fo) (p : List Ky) (ay ap : Option Addr) (cy cp : Nat) (S T : Nat → Prop) (w : World) (hv : FSl S w (.slice ay y.len cy) y) (hS : ∀ b, S b → b < w.heap.size) (hp : Pth T w (.slice ap p.length cp) p) (hT : ∀ b, T b → b < w.heap.size)
    (hlen : y.len ≤ 1000) (hsm : y.Sm) (hcnt : y.cnt ≤ 900) (lp : p.length ≤ 1000) :
    Calls Tryz.prog 56 #[.slice ay y.len cy, .slice ap p.length cp] w (GetR y p w) := by
  have hb0 : Below w.heap.size w (w.alloc (.cells #[.string { data := #[] }, .slice none 0 0, .slice none 0 0] 85)) := (Below.refl _ _).alloc (Nat.le_refl _) _
  have hR0 := hid (heap_alloc_new w (.cells #[.string { data := #[] }, .slice none 0 0, .slice none 0 0] 85))
  have HC := hid (Check_any y ay cy S _ (hv.agree (Agree.of_below hb0 hS)) (fun b hb => by have := hS b hb; simp; omega) hlen hsm hcnt)
  have HB0 := hid hb0
  have HV := hid hv
  have HP := hid hp
  have HS := hid hS
  have HT := hid hT
  have HSM := hid hsm
  clear hb0 hv hp hS hT hsm
  by_cases hc : chkY y = 0
  · go_enter Tryz.func56, Tryz.ntmps56
    go_wp2_with fail
    refine HC.out.mono ?_
    rintro e w1 ⟨rfl, hb1⟩
    have hB1 := HB0.out.trans (hb1.mono (by simp))
    have hR1 := hid ((hb1.block w.heap.size (by simp)).trans hR0.out)
    have hsz1 := hb1.size
    simp only [World.size_alloc] at hsz1
    have HA := hid (at_any y p ay ap cy cp S T w1 (HV.out.agree (Agree.of_below hB1 HS.out)) (fun b hb => by have := HS.out b hb; omega) (HP.out.agree (Agree.of_below hB1 HT.out)) (fun b hb => by have := HT.out b hb; omega) hlen HSM.out lp)
    rw [hc]
    have HB1 := hid hB1
    clear hb1 hB1
    go_wp2_with fail
    refine HA.out.mono ?_
    rintro e w2 ⟨n, l, s, an, cn, ab, cb, hat, rfl, hI, hF, hb2⟩
    have hB2 := HB1.out.trans (hb2.mono (by omega))
    have hR2 := hid ((hb2.block w.heap.size (by omega)).trans hR1.out)
    have hsz2 := hb2.size
    have q0 := cells_get hR2.out (k := 0) rfl
    have q1 := cells_get hR2.out (k := 1) rfl
    have q2 := cells_get hR2.out (k := 2) rfl
    have f0 := cells_frz hR2.out (k := 0)
    have f1 := cells_frz hR2.out (k := 1)
    have f2 := cells_frz hR2.out (k := 2)
    have hlt2 : w.heap.size < w2.heap.size := by omega
    have hne2 : w.heap.size ≠ w2.heap.size := by omega
    have HI := hid hI
    have HF := hid hF
    have HB2 := hid hB2
    clear hI hF hb2 hB2
    cases hat' : atF y p with
    | none =>
      have hE := hid (show getE y p = 1 by simp [getE, hc, hat'])
      clear hat
      go_wp2_with fail
      refine bodyPost_ret (v := .tuple #[.agg #[.string { data := #[] }, .slice none 0 0, .slice none 0 0], .int .i64 1]) (ret56 ((heap_alloc_old _ _ (by simpa using hlt2)).trans (node_set hR2.out)) rfl rfl) rfl ?_
      exact GetR.bad hE.out (by decide) ((below_set3 HB2.out (Nat.le_refl _)).alloc (by simp; omega) _)
    | some x =>
      have hE := hid (show getE y p = 0 by simp [getE, hc, hat'])
      obtain rfl : x = (n, l, s) := by rw [hat'] at hat; exact hat
      have hG := hid (show getN y p = (n, l, s) by simp [getN, hE.out, hat'])
      obtain ⟨s1, s2, s3, s4⟩ := atF_sm HSM.out hat'
      clear hat hat'
      go_wp2_with fail
      have hBw : Below w.heap.size w ((w2.alloc (.cells #[.string (bs n), .slice an l.length cn, .slice ab s.len cb] 85)).alloc (.cells #[.string (bs n), .slice an l.length cn, .slice ab s.len cb] 85)) := (HB2.out.alloc (by omega) _).alloc (by simp; omega) _
      have hag : Agree S w2 ((w2.alloc (.cells #[.string (bs n), .slice an l.length cn, .slice ab s.len cb] 85)).alloc (.cells #[.string (bs n), .slice an l.length cn, .slice ab s.len cb] 85)) := Agree.of_below (((Below.refl w2.heap.size w2).alloc (Nat.le_refl _) _).alloc (by simp) _) (fun b hb => by have := HS.out b hb; omega)
      have hnb := heap_alloc_new (w2.alloc (.cells #[.string (bs n), .slice an l.length cn, .slice ab s.len cb] 85)) (.cells #[.string (bs n), .slice an l.length cn, .slice ab s.len cb] 85)
      rw [World.size_alloc] at hnb
      refine (own_one n l s _ _ _ _ _ S _ hnb (HI.out.agree hag) (HF.out.agree hag) (fun b hb => by have := HS.out b hb; simp; omega) s1 s2 s3 s4).mono ?_
      rintro e w3 ⟨g3, o3, c3, an3, cn3, ab3, cb3, rfl, hc3, hg3, m0, m1, m2, hI3, hF3, hb3⟩
      have hB3 := hBw.trans (hb3.mono (by simp; omega))
      have hR3 : w3.heap[w.heap.size]? = _ := (hb3.block w.heap.size (by simp; omega)).trans ((heap_alloc_old _ _ (by simp; omega)).trans ((heap_alloc_old _ _ (by omega)).trans hR2.out))
      have e0 := cells_get hR3 (k := 0) rfl
      have e1 := cells_get hR3 (k := 1) rfl
      have e2 := cells_get hR3 (k := 2) rfl
      have p0 := cells_frz hR3 (k := 0)
      have p1 := cells_frz hR3 (k := 1)
      have p2 := cells_frz hR3 (k := 2)
      have hst : Agree (Rg ((w2.alloc (.cells #[.string (bs n), .slice an l.length cn, .slice ab s.len cb] 85)).alloc (.cells #[.string (bs n), .slice an l.length cn, .slice ab s.len cb] 85)).heap.size w3.heap.size) w3 (((w3.setCell ⟨w.heap.size, 0, none⟩ (.string (bs n))).setCell ⟨w.heap.size, 1, none⟩ (.slice an3 l.length cn3)).setCell ⟨w.heap.size, 2, none⟩ (.slice ab3 s.len cb3)) := fun b hb => by
        have h1 := hb.1
        simp only [World.size_alloc] at h1
        have hn : b ≠ w.heap.size := by omega
        rw [Below.heap_setCell _ _ _ _ hn, Below.heap_setCell _ _ _ _ hn, Below.heap_setCell _ _ _ _ hn]
      have HI3 := hid (hI3.agree hst)
      have HF3 := hid (hF3.agree hst)
      have hR3' := hid hR3
      have HB3 := hid hB3
      clear hI3 hF3 hst hR3 hBw hag hnb hB3
      go_wp2_with fail
      refine bodyPost_ret (v := .tuple #[.agg #[.string (bs n), .slice an3 l.length cn3, .slice ab3 s.len cb3], .int .i64 0]) (ret56 (node_set hR3'.out) rfl rfl) rfl ?_
      refine ⟨n, l, s, an3, cn3, ab3, cb3, hG.out, by rw [hE.out], ?_, ?_, below_set3 HB3.out (Nat.le_refl _)⟩
      · exact HI3.out.wide (fun b hb => ⟨by have := hb.1; simp at this; omega, by simpa using hb.2⟩)
      · exact HF3.out.wide (fun b hb => ⟨by have := hb.1; simp at this; omega, by simpa using hb.2⟩)
  · go_enter Tryz.func56, Tryz.ntmps56
    go_wp2_with fail
    refine HC.out.mono ?_
    rintro e w1 ⟨rfl, hb1⟩
    have hB1 := HB0.out.trans (hb1.mono (by simp))
    have hR1 := (hb1.block w.heap.size (by simp)).trans hR0.out
    have q0 := cells_get hR1 (k := 0) rfl
    have q1 := cells_get hR1 (k := 1) rfl
    have q2 := cells_get hR1 (k := 2) rfl
    have f0 := cells_frz hR1 (k := 0)
    have f1 := cells_frz hR1 (k := 1)
    have f2 := cells_frz hR1 (k := 2)
    have hsz1 := hb1.size
    simp only [World.size_alloc] at hsz1
    have hb : (chkY y == 0) = false := by simpa using hc
    go_wp2_with fail
    refine bodyPost_ret (v := .tuple #[.agg #[.string { data := #[] }, .slice none 0 0, .slice none 0 0], .int .i64 (chkY y)]) (ret56 (node_set hR1) rfl rfl) rfl ?_
    exact GetR.bad (by simp [getE, hc]) hc (below_set3 hB1 (Nat.le_refl _))
end Go.Proofs.LF
