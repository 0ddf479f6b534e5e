/- Parts of the proof of a law of layer 11 (file): LfW63, LfW64. The conditions stand in each theorem. -/
import Derived.BigQuiet
import Derived.Deep.AppendLies
import Derived.Deep.Cut
import Derived.Deep.CutBlock
import Derived.Deep.CutRange
import Derived.Deep.QuietTactic
import Derived.Deep.RegionHeld3
import Derived.Laws.ResultCell
import Derived.Outline
import Derived.Test.YtadkpjgpefcphaaGreatDoorProg
import Derived.WalkKit
import Derived.WalkLawsBesides
import Derived.WalkSpells
import Derived.Test.YtadkpjgpefcphaaGreatDoorCpav
import Derived.Test.YtadkpjgpefcphaaGreatDoorCpbk
import Derived.Test.YtadkpjgpefcphaaGreatDoorCpbq
import Derived.Test.YtadkpjgpefcphaaGreatDoorCpbr
set_option linter.all false
set_option linter.unusedVariables false
set_option linter.unusedSimpArgs false
namespace Go.Proofs.LF
open Go.RowKit Go.Sort
set_option maxHeartbeats 4000000
set_option maxRecDepth 100000
attribute [local go_sem] bs_toList bs_size bs_get
theorem putR_length (x : Fl) : ∀ (l : List Fl), (putR x l).length = l.length + 1
  | [] => rfl
  | y :: l => by
    simp only [putR]
    split
    · rfl
    · simp [putR_length x l]
theorem union_any (a b : List Fl) (aa ab : Option Addr) (ca cb : Nat) (S : Nat → Prop) (w : World) (ha : LSl rdFl S w (.slice aa a.length ca) a) (hb : LSl rdFl S w (.slice ab b.length cb) b) (hS : ∀ b, S b → b < w.heap.size)
    (la : a.length ≤ 10000 ∧ ∀ x ∈ a, x.p.length ≤ 1000 ∧ x.l.length ≤ 1000) (lb : b.length ≤ 10000 ∧ ∀ x ∈ b, x.p.length ≤ 1000 ∧ x.l.length ≤ 1000) :
    Calls Tryz.prog 111 #[.slice aa a.length ca, .slice ab b.length cb] w fun e w' => ∃ av cv, e = .returned (.slice av (unR a b).length cv) ∧ LSl rdFl (fun q => S q ∨ Rg w.heap.size w'.heap.size q) w' (.slice av (unR a b).length cv) (unR a b) ∧ (unR a b).length ≤ a.length + b.length ∧ Below w.heap.size w w' := by
  obtain ⟨_, _, he, _, hmb, hbt⟩ := hb.at
  cases he
  unfold maxLen at hmb
  have HA := hid ha
  have HBT := hid hbt
  have HS := hid hS
  have HLA := hid la.2
  have HLB := hid lb.2
  obtain ⟨la, _⟩ := la
  obtain ⟨lb, _⟩ := lb
  clear ha hb hbt hS
  go_enter Tryz.func111, Tryz.ntmps111
  go_wp2_with fail
  go_loopw [5, 6] (fun v iv wr => ∃ (k : Nat) (out : List Fl) (ao : Option Addr) (co : Nat), k ≤ b.length ∧ iv = .int .i64 k ∧ v = .slice ao out.length co ∧ out.length ≤ a.length + k ∧ Hid (LSl rdFl (fun q => S q ∨ Rg w.heap.size wr.heap.size q) wr (.slice ao out.length co) out) ∧ Hid (∀ x ∈ out, x.p.length ≤ 1000 ∧ x.l.length ≤ 1000) ∧ Hid (unR a b = unR out (b.drop k)) ∧ Hid (Below w.heap.size w wr)) (fun _ i _ => b.length - (intOf i).toNat)
  case atStart => exact ⟨0, a, aa, ca, by omega, rfl, rfl, by omega, HA.out.wide fun q hq => .inl hq, HLA.out, rfl, Below.refl _ _⟩
  case round =>
    obtain ⟨k, out, ao, co, hk, rfl, rfl, hol, hL, hX, hU, hB⟩ := hrel
    have hz := hB.out.size
    have i1 : (0 : Int) ≤ (k : Int) := by omega
    by_cases hlt : k < b.length
    · have hlt' : (k : Int) < (b.length : Int) := by omega
      obtain ⟨g, o, cs1, rfl, hg, ⟨ax, cx, an, cn, rfl, hP, hI⟩, hcell⟩ := HBT.out k hlt
      have hdk : b.drop k = b[k] :: b.drop (k + 1) := List.drop_eq_getElem_cons hlt
      have hmem : b[k] ∈ b := List.getElem_mem hlt
      obtain ⟨x, hx⟩ : ∃ x, b[k] = x := ⟨_, rfl⟩
      rw [hx] at hP hI hcell hdk hmem
      have lx := HLB.out x hmem
      have e0 := hcell 0 _ rfl
      have e1 := hcell 1 _ rfl
      rw [Nat.add_zero] at e0
      rw [← Nat.add_assoc] at e1
      have hgl := HS.out g hg
      have c0 := below_cell hB.out hgl e0
      have c1 := below_cell hB.out hgl e1
      have hu := hU.out
      rw [hdk, unR] at hu
      have hSw : ∀ q, (S q ∨ Rg w.heap.size wr.heap.size q) → q < wr.heap.size := fun q hq => by
        rcases hq with hq | hq
        · have := HS.out q hq; omega
        · exact hq.2
      have hPr := (hP.agree (Agree.of_below hB.out HS.out)).wide (S' := fun q => S q ∨ Rg w.heap.size wr.heap.size q) (fun q hq => .inl hq)
      have hIr := (hI.agree (Agree.of_below hB.out HS.out)).wide (S' := fun q => S q ∨ Rg w.heap.size wr.heap.size q) (fun q hq => .inl hq)
      have FA := hid (Find_any out x.p ao ax co cx _ wr hL.out hPr hSw (by omega) (fun y hy => (hX.out y hy).1) lx.1)
      have HSW := hid hSw
      have HPR := hid hPr
      have HIR := hid hIr
      have HDK := hid hdk
      have HMX := hid (show ∀ y, y = x → y.p.length ≤ 1000 ∧ y.l.length ≤ 1000 from fun y e => by rw [e]; exact lx)
      clear hcell hP hI hdk hmem hx hSw hPr hIr
      rcases fi_cases out x.p with ⟨j, hj, f1, f2, _⟩ | ⟨f1, f2⟩
      · rw [f1] at FA
        rw [f2] at hu
        simp only [Option.isSome_some, if_true] at hu
        have HU := hid hu
        have v5 : ¬ (j : Int) < 0 := by omega
        have v6 : (0 : Int) ≤ (j : Int) := by omega
        clear f1 f2 hu
        go_wp2_with fail
        refine FA.out.mono ?_
        rintro e w1 ⟨rfl, hb1⟩
        go_wp2_with fail
        go_roundw
        case rel => exact ⟨k + 1, out, ao, co, by omega, by go_num, rfl, by omega, (hL.out.agree (Agree.of_below hb1 HSW.out)).wide (fun q hq => hq.imp id fun h => ⟨h.1, by have := h.2; have := hb1.size; omega⟩), hX, HU, hB.out.trans (hb1.mono hz)⟩
        case measure => simp [intOf]; omega
      · rw [f1] at FA
        rw [f2] at hu
        simp only [Option.isSome_none, Bool.false_eq_true, if_false] at hu
        have HU := hid hu
        clear f1 f2 hu
        go_wp2_with fail
        refine FA.out.mono ?_
        rintro e w1 ⟨rfl, hb1⟩
        have hz1 := hb1.size
        have c01 := below_cell hb1 (by omega) c0
        have c11 := below_cell hb1 (by omega) c1
        have PU := hid (putR_any out x ao ax an co cx cn _ w1 (hL.out.agree (Agree.of_below hb1 HSW.out)) (HPR.out.agree (Agree.of_below hb1 HSW.out)) (HIR.out.agree (Agree.of_below hb1 HSW.out)) (fun q hq => by have := HSW.out q hq; omega) (by omega) (fun y hy => (hX.out y hy).1) lx.1)
        have HB1 := hid (hB.out.trans (hb1.mono hz))
        clear hb1 c0 c1
        go_wp2_with fail
        refine PU.out.mono ?_
        rintro e w2 ⟨v, rfl, hrow, hb2⟩
        obtain ⟨a2, c2, rfl, _, _⟩ := hrow.shape
        have hz2 := hb2.size
        have hL2 := hid ((hrow.lsl).wide (S' := fun q => S q ∨ Rg w.heap.size w2.heap.size q) (fun q hq => by
          rcases hq with (h | h) | h
          · exact .inl h
          · exact .inr ⟨h.1, by have := h.2; omega⟩
          · exact .inr ⟨by have := h.1; omega, h.2⟩))
        have hX2 : Hid (∀ y ∈ putR x out, y.p.length ≤ 1000 ∧ y.l.length ≤ 1000) := fun y hy => by
          rcases putR_mem.1 hy with h | h
          · exact HMX.out y h
          · exact hX.out y h
        have hpl := hid (putR_length x out)
        clear hrow
        go_wp2_with fail
        go_roundw
        case rel => exact ⟨k + 1, putR x out, a2, c2, by omega, by go_num, rfl, by have := hpl.out; omega, hL2, hX2, HU, HB1.out.trans (hb2.mono (by omega))⟩
        case measure => simp [intOf]; omega
    · have hlt' : ¬ (k : Int) < (b.length : Int) := by omega
      obtain rfl : k = b.length := by omega
      have hu := hU.out
      rw [List.drop_length, unR] at hu
      have HU := hid hu
      clear hu
      go_wp2_with fail
      go_ret
      rw [HU.out]
      exact ⟨ao, co, rfl, hL.out, by omega, hB.out⟩
end Go.Proofs.LF
namespace Go.Proofs.LF
open Go.RowKit Go.Sort
set_option maxHeartbeats 4000000
set_option maxRecDepth 100000
attribute [local go_sem] bs_toList bs_size bs_get
theorem unR_mem : ∀ {b a : List Fl} {x : Fl}, x ∈ unR a b → x ∈ a ∨ x ∈ b
  | [], a, x, h => .inl h
  | y :: b, a, x, h => by
    rw [unR] at h
    rcases unR_mem h with h | h
    · split at h
      · exact .inl h
      · rcases putR_mem.1 h with h | h
        · exact .inr (by rw [h]; simp)
        · exact .inl h
    · exact .inr (by simp [h])
theorem lines_fls (u : List Ky) (y : Fo) : linesL u y = flsL u y := rfl
theorem Tryz.info92 : (Tryz.prog.info? 92).map (fun i => (i.zero, i.size, i.bytes)) = some (some (.slice none 0 0), 1, 24) := by kernel_rfl
def SmL (l : List Fl) : Prop := l.length ≤ 500 ∧ ∀ x ∈ l, x.p.length ≤ 1000 ∧ x.l.length ≤ 1000
theorem SmL.big {l : List Fl} (h : SmL l) : l.length ≤ 100000 ∧ ∀ x ∈ l, x.p.length ≤ 1000 ∧ x.l.length ≤ 1000 := ⟨by have := h.1; omega, h.2⟩
theorem SmL.mid {l : List Fl} (h : SmL l) : l.length ≤ 10000 ∧ ∀ x ∈ l, x.p.length ≤ 1000 ∧ x.l.length ≤ 1000 := ⟨by have := h.1; omega, h.2⟩
theorem fls_sml {y : Fo} (h : chkY y = 0) (hs : y.Sm) : (flsL [] y).length ≤ 60 ∧ SmL (flsL [] y) := by
  obtain ⟨h1, h2, h3⟩ := fls_ok h
  exact ⟨h3, by omega, fun x hx => ⟨(h2 x hx).1, (h1 x hx).2.1⟩⟩
def alU (o a b : List Fl) : List Fl := unR (unR o a) b
def alL (o a b : List Fl) : List (List Ky) := ((alU o a b).map Fl.p).filter (alR o a b)
theorem filt_take {l : List Fl} {f : List Ky → Bool} {k : Nat} {x : Fl} (hk : k < l.length) (hx : l[k] = x) : ((l.take (k + 1)).map Fl.p).filter f = ((l.take k).map Fl.p).filter f ++ (if f x.p then [x.p] else []) := by
  rw [List.take_succ_eq_append_getElem hk, hx, List.map_append, List.filter_append]
  simp only [List.map_cons, List.map_nil, List.filter_cons, List.filter_nil]
theorem Lines_at (x : Fo) (ax : Option Addr) (cx : Nat) (w : World) (hx : FSl (fun q => q < w.heap.size) w (.slice ax x.len cx) x) (lx : x.len ≤ 1000 ∧ x.Sm ∧ x.cnt ≤ 400) :
    Calls Tryz.prog 96 #[.slice ax x.len cx, .slice none 0 0] w fun e w' => ∃ a c, e = .returned (.slice a (flsL [] x).length c) ∧ LSl rdFl (fun q => q < w'.heap.size) w' (.slice a (flsL [] x).length c) (flsL [] x) ∧ Below w.heap.size w w' := by
  have h := Lines_any (x.cnt + 1) x [] ax cx none 0 _ w (Nat.lt_succ_self _) hx ⟨rfl, none, 0, rfl, Nat.le_refl _, by simp [maxLen], fun _ => rfl, .inl rfl⟩ (fun b hb => hb) lx.1 lx.2.1 (by simp; omega)
  rw [lines_fls] at h
  refine h.mono ?_
  rintro e w' ⟨a, c, rfl, h1, h2⟩
  refine ⟨a, c, rfl, h1.wide fun q hq => ?_, h2⟩
  rcases hq with hq | hq
  · exact Nat.lt_of_lt_of_le hq h2.size
  · exact hq.2
theorem un_at (a b : List Fl) (aa ab : Option Addr) (ca cb : Nat) (w : World) (ha : LSl rdFl (fun q => q < w.heap.size) w (.slice aa a.length ca) a) (hb : LSl rdFl (fun q => q < w.heap.size) w (.slice ab b.length cb) b) (la : SmL a) (lb : SmL b) :
    Calls Tryz.prog 111 #[.slice aa a.length ca, .slice ab b.length cb] w fun e w' => ∃ av cv, e = .returned (.slice av (unR a b).length cv) ∧ LSl rdFl (fun q => q < w'.heap.size) w' (.slice av (unR a b).length cv) (unR a b) ∧ (unR a b).length ≤ a.length + b.length ∧ Below w.heap.size w w' := by
  refine (union_any a b aa ab ca cb _ w ha hb (fun b hb => hb) la.mid lb.mid).mono ?_
  rintro e w' ⟨av, cv, rfl, h1, h2, h3⟩
  refine ⟨av, cv, rfl, h1.wide fun q hq => ?_, h2, h3⟩
  rcases hq with hq | hq
  · exact Nat.lt_of_lt_of_le hq h3.size
  · exact hq.2
theorem LSl.on {α : Type} {k : Nat} {r : Rd α k} {w w' : World} {v : Value} {xs : List α} (h : LSl r (fun q => q < w.heap.size) w v xs) (hb : Below w.heap.size w w') : LSl r (fun q => q < w'.heap.size) w' v xs :=
  (h.agree (Agree.of_below hb fun q hq => hq)).wide fun q hq => Nat.lt_of_lt_of_le hq hb.size
theorem FSl.on {w w' : World} {v : Value} {y : Fo} (h : FSl (fun q => q < w.heap.size) w v y) (hb : Below w.heap.size w w') : FSl (fun q => q < w'.heap.size) w' v y :=
  (h.agree (Agree.of_below hb fun q hq => hq)).wide fun q hq => Nat.lt_of_lt_of_le hq hb.size
theorem Pth.on {w w' : World} {v : Value} {p : List Ky} (h : Pth (fun q => q < w.heap.size) w v p) (hb : Below w.heap.size w w') : Pth (fun q => q < w'.heap.size) w' v p :=
  (h.agree (Agree.of_below hb fun q hq => hq)).wide fun q hq => Nat.lt_of_lt_of_le hq hb.size
theorem eq_at (a b : List Fl) (p : List Ky) (aa ab ap : Option Addr) (ca cb cp : Nat) (w : World) (ha : LSl rdFl (fun q => q < w.heap.size) w (.slice aa a.length ca) a) (hb : LSl rdFl (fun q => q < w.heap.size) w (.slice ab b.length cb) b) (hp : Pth (fun q => q < w.heap.size) w (.slice ap p.length cp) p) (la : SmL a) (lb : SmL b) (lp : p.length ≤ 1000) :
    ∀ w1, Below w.heap.size w w1 → Calls Tryz.prog 112 #[.slice aa a.length ca, .slice ab b.length cb, .slice ap p.length cp] w1 fun e w' => e = .returned (.bool (eqR a b p)) ∧ Below w1.heap.size w1 w' := fun w1 h =>
  equal_any a b p aa ab ap ca cb cp _ w1 (ha.on h) (hb.on h) (hp.on h) (fun b hb => hb) la.big lb.big lp
theorem RefAlike_any (x y z : Fo) (ax ay az : Option Addr) (cx cy cz : Nat) (w : World) (hx : FSl (fun q => q < w.heap.size) w (.slice ax x.len cx) x) (hy : FSl (fun q => q < w.heap.size) w (.slice ay y.len cy) y) (hz : FSl (fun q => q < w.heap.size) w (.slice az z.len cz) z)
    (lx : x.len ≤ 1000 ∧ x.Sm ∧ x.cnt ≤ 400) (ly : y.len ≤ 1000 ∧ y.Sm ∧ y.cnt ≤ 400) (lz : z.len ≤ 1000 ∧ z.Sm ∧ z.cnt ≤ 400) (kx : chkY x = 0) (ky : chkY y = 0) (kz : chkY z = 0) :
    Calls Tryz.prog 32 #[.slice ax x.len cx, .slice ay y.len cy, .slice az z.len cz] w fun e w' => ∃ a c, e = .returned (.slice a (alL (flsL [] x) (flsL [] y) (flsL [] z)).length c) ∧ PaSl (fun q => q < w'.heap.size) w' (.slice a (alL (flsL [] x) (flsL [] y) (flsL [] z)).length c) (alL (flsL [] x) (flsL [] y) (flsL [] z)) ∧ Below w.heap.size w w' := by
  obtain ⟨i0, hi0, hz0, hz1, hz2⟩ := info_parts Tryz.info92
  have L1 := Lines_at x ax cx w hx lx
  have L2 := fun w1 (h : Below w.heap.size w w1) => Lines_at y ay cy w1 (hy.on h) ly
  have L3 := fun w1 (h : Below w.heap.size w w1) => Lines_at z az cz w1 (hz.on h) lz
  obtain ⟨mo, so⟩ := fls_sml kx lx.2.1
  obtain ⟨ma, sa⟩ := fls_sml ky ly.2.1
  obtain ⟨mb, sb⟩ := fls_sml kz lz.2.1
  generalize flsL [] x = o at *
  generalize flsL [] y = a at *
  generalize flsL [] z = b at *
  have L1 := hid L1
  have L2 := hid L2
  have L3 := hid L3
  have SO := hid so
  have SA := hid sa
  have SB := hid sb
  clear hx hy hz lx ly lz kx ky kz so sa sb
  go_enter Tryz.func32, Tryz.ntmps32
  go_wp2_with fail
  refine L1.out.mono ?_
  rintro e w1 ⟨a1, c1, rfl, h1, hb1⟩
  have H1 := hid h1
  have B1 := hid hb1
  clear h1 hb1
  go_wp2_with fail
  refine (L2.out w1 B1.out).mono ?_
  rintro e w2 ⟨a2, c2, rfl, h2, hb2⟩
  have H2 := hid h2
  have H1 := hid (H1.out.on hb2)
  have B2 := hid (B1.out.trans (hb2.mono B1.out.size))
  clear h2 hb2
  go_wp2_with fail
  refine (L3.out w2 B2.out).mono ?_
  rintro e w3 ⟨a3, c3, rfl, h3, hb3⟩
  have H3 := hid h3
  have H2 := hid (H2.out.on hb3)
  have H1 := hid (H1.out.on hb3)
  have B3 := hid (B2.out.trans (hb3.mono B2.out.size))
  clear h3 hb3
  go_wp2_with fail
  refine (un_at o a a1 a2 c1 c2 w3 H1.out H2.out SO.out SA.out).mono ?_
  rintro e w4 ⟨a4, c4, rfl, h4, hl4, hb4⟩
  have H4 := hid h4
  have H3 := hid (H3.out.on hb4)
  have H2 := hid (H2.out.on hb4)
  have H1 := hid (H1.out.on hb4)
  have B4 := hid (B3.out.trans (hb4.mono B3.out.size))
  have S4 : SmL (unR o a) := ⟨by omega, fun q hq => by
    rcases unR_mem hq with h | h
    · exact SO.out.2 q h
    · exact SA.out.2 q h⟩
  have S4 := hid S4
  clear h4 hb4
  go_wp2_with fail
  refine (un_at (unR o a) b a4 a3 c4 c3 w4 H4.out H3.out S4.out SB.out).mono ?_
  rintro e w5 ⟨a5, c5, rfl, h5, hl5, hb5⟩
  have H3 := hid (H3.out.on hb5)
  have H2 := hid (H2.out.on hb5)
  have H1 := hid (H1.out.on hb5)
  have B5 := hid (B4.out.trans (hb5.mono B4.out.size))
  have S5 : SmL (unR (unR o a) b) := ⟨by omega, fun q hq => by
    rcases unR_mem hq with h | h
    · exact S4.out.2 q h
    · exact SB.out.2 q h⟩
  obtain ⟨_, _, he, hc5, hm5, hat⟩ := h5.at
  cases he
  unfold maxLen at hm5
  have HAT := hid hat
  obtain ⟨al, hal⟩ : ∃ al, unR (unR o a) b = al := ⟨_, rfl⟩
  have hlen : (alL o a b) = (al.map Fl.p).filter (alR o a b) := by rw [alL, alU, hal]
  have HLEN := hid hlen
  rw [hal] at HAT S5 hl5 hc5 ⊢
  have S5' := S5.1
  have S5 := hid S5
  clear h5 hb5 hat hal hlen H4 S4
  go_wp2_with fail
  go_loopw [11, 12] (fun v iv wr => ∃ (k : Nat) (acc : List (List Ky)), k ≤ al.length ∧ iv = .int .i64 k ∧ RowS rdPa 92 (fun q => q < w5.heap.size) w5.heap.size wr v acc ∧ acc.length ≤ k ∧ Hid (acc = ((al.take k).map Fl.p).filter (alR o a b)) ∧ Hid (Below w5.heap.size w5 wr)) (fun _ i _ => al.length - (intOf i).toNat)
  case atStart => exact ⟨0, [], by omega, rfl, RowS.nil _, by simp, rfl, Below.refl _ _⟩
  case round =>
    obtain ⟨k, acc, hk, rfl, hrow, hacc, hA, hB⟩ := hrel
    have i1 : (0 : Int) ≤ (k : Int) := by omega
    by_cases hlt : k < al.length
    · have hlt' : (k : Int) < (al.length : Int) := by omega
      obtain ⟨g, o', cs1, rfl, hg, ⟨ap, cp, an, cn, rfl, hP, _⟩, hcell⟩ := HAT.out k hlt
      have hmem : al[k] ∈ al := List.getElem_mem hlt
      have e0 := hcell 0 _ rfl
      obtain ⟨xx, hx⟩ : ∃ x, al[k] = x := ⟨_, rfl⟩
      have hft := filt_take (f := alR o a b) hlt hx
      rw [hx] at hP e0 hmem
      have lp := (S5.out.2 xx hmem).1
      rw [Nat.add_zero] at e0
      have c0 := below_cell hB.out hg e0
      obtain ⟨p, hp⟩ : ∃ p, xx.p = p := ⟨_, rfl⟩
      rw [hp] at hP c0 lp hft
      have hzr := hB.out.size
      have hrow0 := hid hrow
      have E1 := hid (eq_at a b p a2 a3 ap c2 c3 cp w5 H2.out H3.out hP SA.out SB.out lp)
      have E2 := hid (eq_at o a p a1 a2 ap c1 c2 cp w5 H1.out H2.out hP SO.out SA.out lp)
      have HP := hid hP
      obtain ⟨q1, hq1⟩ : ∃ q, eqR a b p = q := ⟨_, rfl⟩
      obtain ⟨q2, hq2⟩ : ∃ q, eqR o a p = q := ⟨_, rfl⟩
      have hal : alR o a b p = (q1 && !q2) := by rw [alR, hq1, hq2]
      rw [hq1] at E1
      rw [hq2] at E2
      rw [hal] at hft
      have HFT := hid hft
      clear hcell hmem hx hp hP hq1 hq2 hal hft e0 hrow
      cases q1 with
      | false =>
        go_wp2_with fail
        refine (E1.out wr hB.out).mono ?_
        rintro e w6 ⟨rfl, hb6⟩
        have hrow6 := hid (hrow0.out.below (fun q hq => by omega) hb6)
        go_wp2_with fail
        go_roundw
        case rel => exact ⟨k + 1, acc, by omega, by go_num, hrow6.out, by omega, by rw [Hid, HFT.out, ← hA.out]; simp, hB.out.trans (hb6.mono hzr)⟩
        case measure => simp [intOf]; omega
      | true =>
        cases q2 with
        | true =>
          go_wp2_with fail
          refine (E1.out wr hB.out).mono ?_
          rintro e w6 ⟨rfl, hb6⟩
          have hrow6 := hid (hrow0.out.below (fun q hq => by omega) hb6)
          have B6 := hid (hB.out.trans (hb6.mono hzr))
          have hz6 := hb6.size
          clear hb6
          go_wp2_with fail
          refine (E2.out w6 B6.out).mono ?_
          rintro e w7 ⟨rfl, hb7⟩
          have hrow7 := hid (hrow6.out.below (fun q hq => by omega) hb7)
          go_wp2_with fail
          go_roundw
          case rel => exact ⟨k + 1, acc, by omega, by go_num, hrow7.out, by omega, by rw [Hid, HFT.out, ← hA.out]; simp, B6.out.trans (hb7.mono (by omega))⟩
          case measure => simp [intOf]; omega
        | false =>
          go_wp2_with fail
          refine (E1.out wr hB.out).mono ?_
          rintro e w6 ⟨rfl, hb6⟩
          have hrow6 := hid (hrow0.out.below (fun q hq => by omega) hb6)
          have B6 := hid (hB.out.trans (hb6.mono hzr))
          have hz6 := hb6.size
          clear hb6
          go_wp2_with fail
          refine (E2.out w6 B6.out).mono ?_
          rintro e w7 ⟨rfl, hb7⟩
          have hrow7 := hid (hrow6.out.below (fun q hq => by omega) hb7)
          have B7 := hid (B6.out.trans (hb7.mono (by omega)))
          have hz7 := hb7.size
          clear hb7
          go_wp2_with (at_builtin; (refine (wpList_push (r := rdPa) (e := 92) (S := fun q => q < w5.heap.size) (lo := w5.heap.size) rfl _ _ _ rfl i0 _ 24 Tryz.underlying45 hi0 hz0 hz1 hz2 rfl (by omega) rfl (hrow7.out.below (fun q hq => by omega) ((Below.refl _ _).alloc (Nat.le_refl _) _)) (fun q hq => hq) ?_ p [.slice ap p.length cp] w7.heap.size rfl ?_ ⟨ap, cp, rfl, HP.out.agree (Agree.of_below (B7.out.alloc (by omega) _) (fun q hq => hq))⟩ ?_ ?_ ?_); (simp; omega); exact heap_alloc_new _ _; (unfold maxLen; omega); omega; intro V1 W1 HR1 HG1 HT1 HL1))
          go_roundw
          case rel => exact ⟨k + 1, acc ++ [p], by omega, by go_num, HR1, by simp; omega, by rw [Hid, HFT.out, ← hA.out]; simp, HL1 _ (B7.out.alloc (by omega) _)⟩
          case measure => simp [intOf]; omega
    · have hlt' : ¬ (k : Int) < (al.length : Int) := by omega
      obtain rfl : k = al.length := by omega
      have ha := hA.out
      rw [List.take_length, ← HLEN.out] at ha
      have HA9 := hid ha
      obtain ⟨a9, c9, hv9, _, _⟩ := hrow.shape
      subst hv9
      have hls := hid hrow.lsl
      clear ha hrow
      go_wp2_with fail
      go_ret
      have hls9 := hls.out
      rw [HA9.out] at hls9
      rw [HA9.out]
      refine ⟨a9, c9, rfl, hls9.wide fun q hq => ?_, B5.out.trans (hB.out.mono B5.out.size)⟩
      rcases hq with hq | hq
      · exact Nat.lt_of_lt_of_le hq hB.out.size
      · exact hq.2
end Go.Proofs.LF
