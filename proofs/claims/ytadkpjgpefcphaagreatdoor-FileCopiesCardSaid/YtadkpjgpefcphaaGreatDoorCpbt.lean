/- Parts of the proof of a law of layer 11 (file): LfW65, LfCop. The conditions stand in each theorem. -/
import Derived.BigQuiet
import Derived.Deep.AppendLies
import Derived.Deep.Cut
import Derived.Deep.CutBlock
import Derived.Deep.CutRange
import Derived.Deep.QuietTactic
import Derived.Deep.RegionHeld3
import Derived.Laws.ResultCell
import Derived.Outline
import Derived.Test.YtadkpjgpefcphaaGreatDoorProg
import Derived.WalkKit
import Derived.WalkLawsBesides
import Derived.WalkSpells
import Derived.Test.YtadkpjgpefcphaaGreatDoorCpbj
import Derived.Test.YtadkpjgpefcphaaGreatDoorCpbl
import Derived.Test.YtadkpjgpefcphaaGreatDoorCpbo
import Derived.Test.YtadkpjgpefcphaaGreatDoorCpbp
import Derived.Test.YtadkpjgpefcphaaGreatDoorCpbs
set_option linter.all false
set_option linter.unusedVariables false
set_option linter.unusedSimpArgs false
namespace Go.Proofs.LF
open Go.RowKit Go.Sort
set_option maxHeartbeats 4000000
set_option maxRecDepth 100000
attribute [local go_sem] bs_toList bs_size bs_get
theorem RowS.other {α β : Type} {k k2 : Nat} {r : Rd α k} {e : TypeId} {S : Nat → Prop} {lo : Nat} {W W' : World} {v v2 : Value} {xs : List α} (h : RowS r e S lo W v2 xs) (hS : ∀ b, S b → b < lo) (hlo : lo ≤ W.heap.size) (hg : W.grownBy W' v.ownBlock) (hv : ∀ q, v.ownBlock = some q → lo ≤ q) (hd : ∀ q, v2.ownBlock = some q → v.ownBlock ≠ some q) : RowS r e S lo W' v2 xs :=
  h.kept0 hS hlo hg hv (by
    cases h2 : v2.ownBlock with
    | none => exact .inl rfl
    | some q => exact .inr fun e => hd q h2 e.symm)
theorem dis_push {v v2 v' : Value} {W : World} (hd : ∀ q, v2.ownBlock = some q → v.ownBlock ≠ some q) (ht : ∀ g, v'.ownBlock = some g → v.ownBlock = some g ∨ g = W.heap.size) (hlt : ∀ q, v2.ownBlock = some q → q < W.heap.size) : ∀ q, v2.ownBlock = some q → v'.ownBlock ≠ some q := fun q hq e => by
  rcases ht q e with h | h
  · exact hd q hq h
  · have := hlt q hq; omega
theorem dis_symm {v v2 : Value} (hd : ∀ q, v2.ownBlock = some q → v.ownBlock ≠ some q) : ∀ q, v.ownBlock = some q → v2.ownBlock ≠ some q := fun q hq e => hd q e hq
theorem jnR_none {o a b : List Fl} {p : List Ky} {ps : List (List Ky)} {kept : List Fl} {named : List (List Ky)} (h : frR o a b p = none) : jnR o a b (p :: ps) kept named = jnR o a b ps kept (if clB o a b p then named ++ [p] else named) := by rw [jnR, h]
theorem jnR_loose {o a b : List Fl} {p : List Ky} {ps : List (List Ky)} {kept : List Fl} {named : List (List Ky)} {x : Fl} (h : frR o a b p = some x) (h1 : 1 < p.length) (h2 : rfd kept p.dropLast = none) : jnR o a b (p :: ps) kept named = jnR o a b ps kept (named ++ [p]) := by rw [jnR, h]; simp [h1, h2]
theorem jnR_keep {o a b : List Fl} {p : List Ky} {ps : List (List Ky)} {kept : List Fl} {named : List (List Ky)} {x : Fl} (h : frR o a b p = some x) (h1 : ¬ (1 < p.length ∧ (rfd kept p.dropLast).isNone)) : jnR o a b (p :: ps) kept named = jnR o a b ps (kept ++ [x]) (if clB o a b p then named ++ [p] else named) := by
  rw [jnR, h]
  simp only
  rw [if_neg (by simpa using h1)]
def jnK (o a b : List Fl) : List Fl × List (List Ky) := jnR o a b ((alU o a b).map Fl.p) [] []
def rjE (o a b : List Fl) : Int := if 60 < (jnK o a b).1.length then 2 else 0
def rjY (o a b : List Fl) : Fo := if 60 < (jnK o a b).1.length then .nil else treR 4 (jnK o a b).1 []
def rjP (o a b : List Fl) : List (List Ky) := if 60 < (jnK o a b).1.length then [] else (jnK o a b).2
theorem RefJoin_any (x y z : Fo) (ax ay az : Option Addr) (cx cy cz : Nat) (w : World) (hx : FSl (fun q => q < w.heap.size) w (.slice ax x.len cx) x) (hy : FSl (fun q => q < w.heap.size) w (.slice ay y.len cy) y) (hz : FSl (fun q => q < w.heap.size) w (.slice az z.len cz) z)
    (lx : x.len ≤ 1000 ∧ x.Sm ∧ x.cnt ≤ 400) (ly : y.len ≤ 1000 ∧ y.Sm ∧ y.cnt ≤ 400) (lz : z.len ≤ 1000 ∧ z.Sm ∧ z.cnt ≤ 400) (kx : chkY x = 0) (ky : chkY y = 0) (kz : chkY z = 0) :
    Calls Tryz.prog 31 #[.slice ax x.len cx, .slice ay y.len cy, .slice az z.len cz] w fun e w' => ∃ a c a' c', e = .returned (.tuple #[.slice a (rjY (flsL [] x) (flsL [] y) (flsL [] z)).len c, .slice a' (rjP (flsL [] x) (flsL [] y) (flsL [] z)).length c', .int .i64 (rjE (flsL [] x) (flsL [] y) (flsL [] z))]) ∧ FSl (fun q => q < w'.heap.size) w' (.slice a (rjY (flsL [] x) (flsL [] y) (flsL [] z)).len c) (rjY (flsL [] x) (flsL [] y) (flsL [] z)) ∧ PaSl (fun q => q < w'.heap.size) w' (.slice a' (rjP (flsL [] x) (flsL [] y) (flsL [] z)).length c') (rjP (flsL [] x) (flsL [] y) (flsL [] z)) ∧ Below w.heap.size w w' := by
  obtain ⟨i0, hi0, hz0, hz1, hz2⟩ := info_parts Tryz.info92
  obtain ⟨j0, hj0, hy0, hy1, hy2⟩ := info_parts Tryz.info159
  have four := fun q hq => fls4 kx q hq
  have four2 := fun q hq => fls4 ky q hq
  have four3 := fun q hq => fls4 kz q hq
  have num1 := fun q hq => fls_num kx q hq
  have num2 := fun q hq => fls_num ky q hq
  have num3 := fun q hq => fls_num kz q hq
  have ne1 : ∀ q ∈ flsL [] x, q.p ≠ [] := fun q hq => flsL_ne q hq
  have ne2 : ∀ q ∈ flsL [] y, q.p ≠ [] := fun q hq => flsL_ne q hq
  have ne3 : ∀ q ∈ flsL [] z, q.p ≠ [] := fun q hq => flsL_ne q hq
  have L1 := Lines_at x ax cx w hx lx
  have L2 := fun w1 (h : Below w.heap.size w w1) => Lines_at y ay cy w1 (hy.on h) ly
  have L3 := fun w1 (h : Below w.heap.size w w1) => Lines_at z az cz w1 (hz.on h) lz
  obtain ⟨mo, so⟩ := fls_sml kx lx.2.1
  obtain ⟨ma, sa⟩ := fls_sml ky ly.2.1
  obtain ⟨mb, sb⟩ := fls_sml kz lz.2.1
  generalize flsL [] x = o at *
  generalize flsL [] y = a at *
  generalize flsL [] z = b at *
  have L1 := hid L1
  have L2 := hid L2
  have L3 := hid L3
  have SO := hid so
  have SA := hid sa
  have SB := hid sb
  have NUM : Hid (∀ q, q ∈ o ∨ q ∈ a ∨ q ∈ b → q.l.length ≤ 900) := fun q hq => by
    rcases hq with h | h | h
    · exact num1 q h
    · exact num2 q h
    · exact num3 q h
  have FOUR : Hid (∀ q, q ∈ o ∨ q ∈ a ∨ q ∈ b → q.p.length ≤ 4 ∧ q.p ≠ []) := fun q hq => by
    rcases hq with h | h | h
    · exact ⟨four q h, ne1 q h⟩
    · exact ⟨four2 q h, ne2 q h⟩
    · exact ⟨four3 q h, ne3 q h⟩
  clear hx hy hz lx ly lz kx ky kz so sa sb four four2 four3 ne1 ne2 ne3 num1 num2 num3
  go_enter Tryz.func31, Tryz.ntmps31
  go_wp2_with fail
  refine L1.out.mono ?_
  rintro e w1 ⟨a1, c1, rfl, h1, hb1⟩
  have H1 := hid h1
  have B1 := hid hb1
  clear h1 hb1
  go_wp2_with fail
  refine (L2.out w1 B1.out).mono ?_
  rintro e w2 ⟨a2, c2, rfl, h2, hb2⟩
  have H2 := hid h2
  have H1 := hid (H1.out.on hb2)
  have B2 := hid (B1.out.trans (hb2.mono B1.out.size))
  clear h2 hb2
  go_wp2_with fail
  refine (L3.out w2 B2.out).mono ?_
  rintro e w3 ⟨a3, c3, rfl, h3, hb3⟩
  have H3 := hid h3
  have H2 := hid (H2.out.on hb3)
  have H1 := hid (H1.out.on hb3)
  have B3 := hid (B2.out.trans (hb3.mono B2.out.size))
  clear h3 hb3
  go_wp2_with fail
  refine (un_at o a a1 a2 c1 c2 w3 H1.out H2.out SO.out SA.out).mono ?_
  rintro e w4 ⟨a4, c4, rfl, h4, hl4, hb4⟩
  have H4 := hid h4
  have H3 := hid (H3.out.on hb4)
  have H2 := hid (H2.out.on hb4)
  have H1 := hid (H1.out.on hb4)
  have B4 := hid (B3.out.trans (hb4.mono B3.out.size))
  have S4 : SmL (unR o a) := ⟨by omega, fun q hq => by
    rcases unR_mem hq with h | h
    · exact SO.out.2 q h
    · exact SA.out.2 q h⟩
  have S4 := hid S4
  clear h4 hb4
  go_wp2_with fail
  refine (un_at (unR o a) b a4 a3 c4 c3 w4 H4.out H3.out S4.out SB.out).mono ?_
  rintro e w5 ⟨a5, c5, rfl, h5, hl5, hb5⟩
  have H3 := hid (H3.out.on hb5)
  have H2 := hid (H2.out.on hb5)
  have H1 := hid (H1.out.on hb5)
  have B5 := hid (B4.out.trans (hb5.mono B4.out.size))
  have S5 : SmL (unR (unR o a) b) := ⟨by omega, fun q hq => by
    rcases unR_mem hq with h | h
    · exact S4.out.2 q h
    · exact SB.out.2 q h⟩
  obtain ⟨_, _, he, hc5, hm5, hat⟩ := h5.at
  cases he
  unfold maxLen at hm5
  have HAT := hid hat
  obtain ⟨al, hal⟩ : ∃ al, unR (unR o a) b = al := ⟨_, rfl⟩
  have hAL : jnK o a b = jnR o a b (al.map Fl.p) [] [] := by rw [jnK, alU, hal]
  have HALM : Hid (∀ q ∈ al, q ∈ o ∨ q ∈ a ∨ q ∈ b) := fun q hq => by
    rw [← hal] at hq
    rcases unR_mem hq with h | h
    · rcases unR_mem h with h | h
      · exact .inl h
      · exact .inr (.inl h)
    · exact .inr (.inr h)
  have HALQ := hid hAL
  rw [hal] at HAT S5 hl5 hc5 ⊢
  have S5' := S5.1
  have S5 := hid S5
  clear h5 hb5 hat hal hAL H4 S4
  go_wp2_with fail
  go_loopw [13, 14, 15] (fun vk vn iv wr => ∃ (k : Nat) (kept : List Fl) (named : List (List Ky)), k ≤ al.length ∧ iv = .int .i64 k ∧ kept.length ≤ k ∧ named.length ≤ k ∧ Hid (RowS rdFl 159 (fun q => q < w5.heap.size) w5.heap.size wr vk kept) ∧ Hid (RowS rdPa 92 (fun q => q < w5.heap.size) w5.heap.size wr vn named) ∧ Hid (∀ q, vk.ownBlock = some q → vn.ownBlock ≠ some q) ∧ Hid (∀ x ∈ kept, x ∈ o ∨ x ∈ a ∨ x ∈ b) ∧ Hid (jnR o a b (al.map Fl.p) [] [] = jnR o a b ((al.drop k).map Fl.p) kept named) ∧ Hid (Below w5.heap.size w5 wr)) (fun _ _ iv _ => al.length - (intOf iv).toNat)
  case atStart => exact ⟨0, [], [], by omega, rfl, by simp, by simp, RowS.nil _, RowS.nil _, (fun q hq => by cases hq), (fun q hq => by cases hq), rfl, Below.refl _ _⟩
  case round =>
    obtain ⟨k, kept, named, hk, rfl, hkl9, hnl9, KR, NR, DIS, HKO, HJ, hB⟩ := hrel
    have i1 : (0 : Int) ≤ (k : Int) := by omega
    obtain ⟨ak, ck, hvk, _, _⟩ := KR.out.shape
    subst hvk
    by_cases hlt : k < al.length
    · have hlt' : (k : Int) < (al.length : Int) := by omega
      obtain ⟨g, o', cs1, rfl, hg, ⟨ap, cp, an, cn, rfl, hP, _⟩, hcell⟩ := HAT.out k hlt
      have hmem : al[k] ∈ al := List.getElem_mem hlt
      have hdk : al.drop k = al[k] :: al.drop (k + 1) := List.drop_eq_getElem_cons hlt
      have e0 := hcell 0 _ rfl
      obtain ⟨xx, hx⟩ : ∃ x, al[k] = x := ⟨_, rfl⟩
      rw [hx] at hP e0 hmem hdk
      have lp := (S5.out.2 xx hmem).1
      have hne := (FOUR.out xx (HALM.out xx hmem)).2
      rw [Nat.add_zero] at e0
      have c0 := below_cell hB.out hg e0
      have hjn := HJ.out
      rw [hdk, List.map_cons] at hjn
      obtain ⟨p, hp⟩ : ∃ p, xx.p = p := ⟨_, rfl⟩
      rw [hp] at hP c0 lp hjn hne
      have HNE := hid hne
      have HJN := hid hjn
      have hzr := hB.out.size
      have E1 := hid (eq_at a b p a2 a3 ap c2 c3 cp w5 H2.out H3.out hP SA.out SB.out lp)
      have E2 := hid (eq_at o a p a1 a2 ap c1 c2 cp w5 H1.out H2.out hP SO.out SA.out lp)
      have E3 := hid (eq_at o b p a1 a3 ap c1 c3 cp w5 H1.out H3.out hP SO.out SB.out lp)
      have HP := hid hP
      have HKM : Hid (∀ y ∈ kept, y.p.length ≤ 1000) := fun y hy => by have := (FOUR.out y (HKO.out y hy)).1; omega
      clear hcell hmem hx hp hP e0 hdk hne hjn
      cases e1 : eqR a b p with
      | true =>
        cases e2 : eqR o a p with
        | true =>
          have hcl : clB o a b p = false := by rw [clB, e1, e2]; rfl
          have hfr : frR o a b p = rfd b p := by rw [frR, hcl]; simp [e2]
          rw [e1] at E1
          rw [e2] at E2
          clear e1 e2
          go_wp2_with fail
          refine (E1.out wr hB.out).mono ?_
          rintro e wq1 ⟨rfl, hq1⟩
          have B1 := hid (hB.out.trans (hq1.mono hB.out.size))
          have KR1 := hid (KR.out.below (by have := hB.out.size; exact fun q hq => by omega) hq1)
          have NR1 := hid (NR.out.below (by have := hB.out.size; exact fun q hq => by omega) hq1)
          clear hq1
          go_wp2_with fail
          refine (E2.out wq1 B1.out).mono ?_
          rintro e wq2 ⟨rfl, hq2⟩
          have B2 := hid (B1.out.trans (hq2.mono B1.out.size))
          have KR2 := hid (KR1.out.below (by have := B1.out.size; exact fun q hq => by omega) hq2)
          have NR2 := hid (NR1.out.below (by have := B1.out.size; exact fun q hq => by omega) hq2)
          clear hq2
          have FF := hid (Find_any b p a3 ap c3 cp _ wq2 (H3.out.on B2.out) (HP.out.on B2.out) (fun q hq => hq) SB.out.big.1 (fun y hy => (SB.out.2 y hy).1) lp)
          rcases fi_cases b p with ⟨j, hj, f1, f2, f3⟩ | ⟨f1, f2⟩
          · rw [f1] at FF
            rw [f2] at hfr
            obtain ⟨_, _, he9, _, hm9, hat9⟩ := H3.out.at
            cases he9
            unfold maxLen at hm9
            obtain ⟨gx, ox, cs9, rfl, hgx, ⟨ax, cx, ay, cy, rfl, hPx, hIx⟩, hcx⟩ := hat9 j hj
            have hmx : b[j] ∈ b := List.getElem_mem hj
            have x0 := hcx 0 _ rfl
            have x1 := hcx 1 _ rfl
            obtain ⟨x, hxx⟩ : ∃ x, b[j] = x := ⟨_, rfl⟩
            rw [hxx] at hPx hIx x0 x1 hmx hfr
            rw [Nat.add_zero] at x0
            rw [← Nat.add_assoc] at x1
            have HPx := hid hPx
            have HIx := hid hIx
            have hmx : Hid (x ∈ o ∨ x ∈ a ∨ x ∈ b) := by unfold Hid; simp [hmx]
            have v1 : (0 : Int) ≤ (j : Int) := by omega
            have v2 : (j : Int) < (b.length : Int) := by omega
            have v3 : ¬ (j : Int) < 0 := by omega
            have X0 := hid x0
            have X1 := hid x1
            have GX := hid hgx
            clear hcx hPx hIx hxx hat9 x0 x1 hgx f1 f2 f3
            go_wp2_with fail
            refine FF.out.mono ?_
            rintro e w8 ⟨rfl, hq8⟩
            have hz8 := hq8.size
            have B8 := hid (B2.out.trans (hq8.mono B2.out.size))
            have KR8 := hid (KR2.out.below (by have := B2.out.size; exact fun q hq => by omega) hq8)
            have NR8 := hid (NR2.out.below (by have := B2.out.size; exact fun q hq => by omega) hq8)
            clear hq8
            obtain ⟨m, hm⟩ : ∃ m, p.length = m + 1 := ⟨p.length - 1, by have := HNE.out; cases p with | nil => exact absurd rfl this | cons _ _ => simp⟩
            have hdl : p.dropLast = p.take m := by rw [List.dropLast_eq_take, hm]; rfl
            by_cases h1 : 1 ≤ m
            · have hpp := (HP.out.on B8.out).pre (b := m) (by omega)
              have htl : (p.take m).length = m := by rw [List.length_take]; omega
              have hkl := KR8.out.lsl
              have F9 := Find_any kept (p.take m) ak ap ck cp (fun q => q < w8.heap.size) w8 (hkl.wide fun q hq => by
                have hzz := B8.out.size
                rcases hq with hq | hq
                · exact Nat.lt_of_lt_of_le hq hzz
                · exact hq.2) (by rw [htl]; exact hpp) (fun q hq => hq) (by omega) (fun y hy => HKM.out y hy) (by omega)
              rw [htl] at F9
              have v4 : (1 : Int) < (p.length : Int) := by omega
              have v5 : (0 : Int) ≤ (m : Int) := by omega
              have v6 : (m : Int) ≤ (p.length : Int) := by omega
              have v7 : IntKind.i64.wrap ((p.length : Int) - 1) = (m : Int) := by rw [show (p.length : Int) - 1 = m by omega]; exact IntWalk.i64_in _ (by omega)
              have hcp := (SlC.caps HP.out).1
              have v8 : (m : Int) ≤ (cp : Int) := by omega
              rcases fi_cases kept (p.take m) with ⟨jj, hjj, k1, k2, _⟩ | ⟨k1, k2⟩
              · have hst := jnR_keep (ps := (al.drop (k + 1)).map Fl.p) (kept := kept) (named := named) hfr (by rw [hdl, k2]; simp)
                rw [← HJN.out, hcl] at hst
                try simp only [if_true, Bool.false_eq_true, if_false] at hst
                rw [k1] at F9
                have F9 := hid F9
                have HST := hid hst
                have v9 : ¬ (jj : Int) < 0 := by omega
                have v9' : (0 : Int) ≤ (jj : Int) := by omega
                clear hst k1 k2 hpp htl hdl hfr hcl hkl hm
                go_wp2_with fail
                refine F9.out.mono ?_
                rintro e w9 ⟨rfl, hq9⟩
                have B9 := hid (B8.out.trans (hq9.mono B8.out.size))
                have KR9 := hid (KR8.out.below (by have := B8.out.size; exact fun q hq => by omega) hq9)
                have NR9 := hid (NR8.out.below (by have := B8.out.size; exact fun q hq => by omega) hq9)
                have hz9 := hq9.size
                clear hq9
                have X08 := below_cell B9.out GX.out X0.out
                have X18 := below_cell B9.out GX.out X1.out
                go_wp2_with (at_builtin; (refine (wpList_push (r := rdFl) (e := 159) (S := (fun q => q < w5.heap.size)) (lo := w5.heap.size) rfl _ _ _ rfl j0 _ 48 Tryz.underlying38 hj0 hy0 hy1 hy2 rfl (by omega) rfl (KR9.out.below (by have := B9.out.size; exact fun q hq => by omega) ((Below.refl _ _).alloc (Nat.le_refl _) _)) (fun q hq => hq) ?_ x [.slice ax x.p.length cx, .slice ay x.l.length cy] w9.heap.size rfl ?_ ⟨ax, cx, ay, cy, rfl, HPx.out.agree (Agree.of_below (B9.out.alloc (by have := B9.out.size; omega) _) (fun q hq => hq)), HIx.out.agree (Agree.of_below (B9.out.alloc (by have := B9.out.size; omega) _) (fun q hq => hq))⟩ ?_ ?_ ?_); (have := B9.out.size; simp; omega); exact heap_alloc_new _ _; (unfold maxLen; omega); omega; intro VK WK HRk HGk HTk HLk); have NRk := hid ((NR9.out.below (by have := B9.out.size; exact fun q hq => by omega) ((Below.refl _ _).alloc (Nat.le_refl _) _)).other (β := Nat) (k2 := 0) (fun q hq => hq) (by have := B9.out.size; simp; omega) HGk (fun q hq => (KR9.out.lt q hq).1) (dis_symm DIS.out)); have DISk := hid (dis_symm (dis_push (dis_symm DIS.out) HTk (fun q hq => by have := (NR9.out.lt q hq).2; simp; omega))); have BK := hid (HLk _ (B9.out.alloc (by have := B9.out.size; omega) _)))
                go_roundw
                case rel => exact ⟨k + 1, kept ++ [x], named, by omega, by go_num, by simp; omega, by omega, hid HRk, NRk, DISk, (fun y hy => by rcases List.mem_append.1 hy with hh | hh; exact HKO.out y hh; rw [List.mem_singleton] at hh; rw [hh]; exact hmx.out), HST, BK⟩
                case measure => simp [intOf]; omega
              · have hst := jnR_loose (ps := (al.drop (k + 1)).map Fl.p) (kept := kept) (named := named) hfr (by omega) (by rw [hdl, k2])
                rw [← HJN.out] at hst
                rw [k1] at F9
                have F9 := hid F9
                have HST := hid hst
                clear hst k1 k2 hpp htl hdl hfr hcl hkl hm
                go_wp2_with fail
                refine F9.out.mono ?_
                rintro e w9 ⟨rfl, hq9⟩
                have B9 := hid (B8.out.trans (hq9.mono B8.out.size))
                have KR9 := hid (KR8.out.below (by have := B8.out.size; exact fun q hq => by omega) hq9)
                have NR9 := hid (NR8.out.below (by have := B8.out.size; exact fun q hq => by omega) hq9)
                have hz9 := hq9.size
                clear hq9
                go_wp2_with (at_builtin; (refine (wpList_push (r := rdPa) (e := 92) (S := (fun q => q < w5.heap.size)) (lo := w5.heap.size) rfl _ _ _ rfl i0 _ 24 Tryz.underlying45 hi0 hz0 hz1 hz2 rfl (by omega) rfl (NR9.out.below (by have := B9.out.size; exact fun q hq => by omega) ((Below.refl _ _).alloc (Nat.le_refl _) _)) (fun q hq => hq) ?_ p [.slice ap p.length cp] w9.heap.size rfl ?_ ⟨ap, cp, rfl, HP.out.agree (Agree.of_below (B9.out.alloc (by have := B9.out.size; omega) _) (fun q hq => hq))⟩ ?_ ?_ ?_); (have := B9.out.size; simp; omega); exact heap_alloc_new _ _; (unfold maxLen; omega); omega; intro VN WN HRn HGn HTn HLn); have KRn := hid ((KR9.out.below (by have := B9.out.size; exact fun q hq => by omega) ((Below.refl _ _).alloc (Nat.le_refl _) _)).other (β := Nat) (k2 := 0) (fun q hq => hq) (by have := B9.out.size; simp; omega) HGn (fun q hq => (NR9.out.lt q hq).1) DIS.out); have DISn := hid (dis_push DIS.out HTn (fun q hq => by have := (KR9.out.lt q hq).2; simp; omega)); have BN := hid (HLn _ (B9.out.alloc (by have := B9.out.size; omega) _)))
                go_roundw
                case rel => exact ⟨k + 1, kept, named ++ [p], by omega, by go_num, by omega, by simp; omega, KRn, hid HRn, DISn, HKO.out, HST, BN⟩
                case measure => simp [intOf]; omega
            · obtain rfl : m = 0 := by omega
              have hst := jnR_keep (ps := (al.drop (k + 1)).map Fl.p) (kept := kept) (named := named) hfr (by omega)
              rw [← HJN.out, hcl] at hst
              try simp only [if_true, Bool.false_eq_true, if_false] at hst
              have HST := hid hst
              have v4 : ¬ (1 : Int) < (p.length : Int) := by omega
              clear hst hdl hfr hcl hm
              have X08 := below_cell B8.out GX.out X0.out
              have X18 := below_cell B8.out GX.out X1.out
              go_wp2_with (at_builtin; (refine (wpList_push (r := rdFl) (e := 159) (S := (fun q => q < w5.heap.size)) (lo := w5.heap.size) rfl _ _ _ rfl j0 _ 48 Tryz.underlying38 hj0 hy0 hy1 hy2 rfl (by omega) rfl (KR8.out.below (by have := B8.out.size; exact fun q hq => by omega) ((Below.refl _ _).alloc (Nat.le_refl _) _)) (fun q hq => hq) ?_ x [.slice ax x.p.length cx, .slice ay x.l.length cy] w8.heap.size rfl ?_ ⟨ax, cx, ay, cy, rfl, HPx.out.agree (Agree.of_below (B8.out.alloc (by have := B8.out.size; omega) _) (fun q hq => hq)), HIx.out.agree (Agree.of_below (B8.out.alloc (by have := B8.out.size; omega) _) (fun q hq => hq))⟩ ?_ ?_ ?_); (have := B8.out.size; simp; omega); exact heap_alloc_new _ _; (unfold maxLen; omega); omega; intro VK WK HRk HGk HTk HLk); have NRk := hid ((NR8.out.below (by have := B8.out.size; exact fun q hq => by omega) ((Below.refl _ _).alloc (Nat.le_refl _) _)).other (β := Nat) (k2 := 0) (fun q hq => hq) (by have := B8.out.size; simp; omega) HGk (fun q hq => (KR8.out.lt q hq).1) (dis_symm DIS.out)); have DISk := hid (dis_symm (dis_push (dis_symm DIS.out) HTk (fun q hq => by have := (NR8.out.lt q hq).2; simp; omega))); have BK := hid (HLk _ (B8.out.alloc (by have := B8.out.size; omega) _)))
              go_roundw
              case rel => exact ⟨k + 1, kept ++ [x], named, by omega, by go_num, by simp; omega, by omega, hid HRk, NRk, DISk, (fun y hy => by rcases List.mem_append.1 hy with hh | hh; exact HKO.out y hh; rw [List.mem_singleton] at hh; rw [hh]; exact hmx.out), HST, BK⟩
              case measure => simp [intOf]; omega
          · rw [f1] at FF
            rw [f2] at hfr
            have hst := jnR_none (ps := (al.drop (k + 1)).map Fl.p) (kept := kept) (named := named) hfr
            rw [← HJN.out, hcl] at hst
            try simp only [if_true, Bool.false_eq_true, if_false] at hst
            have HST := hid hst
            clear hst f1 f2 hfr hcl
            go_wp2_with fail
            refine FF.out.mono ?_
            rintro e w8 ⟨rfl, hq8⟩
            have hz8 := hq8.size
            have B8 := hid (B2.out.trans (hq8.mono B2.out.size))
            have KR8 := hid (KR2.out.below (by have := B2.out.size; exact fun q hq => by omega) hq8)
            have NR8 := hid (NR2.out.below (by have := B2.out.size; exact fun q hq => by omega) hq8)
            clear hq8
            go_wp2_with fail
            go_roundw
            case rel => exact ⟨k + 1, kept, named, by omega, by go_num, by omega, by omega, KR8, NR8, DIS, HKO.out, HST, B8⟩
            case measure => simp [intOf]; omega
        | false =>
          have hcl : clB o a b p = false := by rw [clB, e1, e2]; rfl
          have hfr : frR o a b p = rfd a p := by rw [frR, hcl]; simp [e2]
          rw [e1] at E1
          rw [e2] at E2
          clear e1 e2
          go_wp2_with fail
          refine (E1.out wr hB.out).mono ?_
          rintro e wq1 ⟨rfl, hq1⟩
          have B1 := hid (hB.out.trans (hq1.mono hB.out.size))
          have KR1 := hid (KR.out.below (by have := hB.out.size; exact fun q hq => by omega) hq1)
          have NR1 := hid (NR.out.below (by have := hB.out.size; exact fun q hq => by omega) hq1)
          clear hq1
          go_wp2_with fail
          refine (E2.out wq1 B1.out).mono ?_
          rintro e wq2 ⟨rfl, hq2⟩
          have B2 := hid (B1.out.trans (hq2.mono B1.out.size))
          have KR2 := hid (KR1.out.below (by have := B1.out.size; exact fun q hq => by omega) hq2)
          have NR2 := hid (NR1.out.below (by have := B1.out.size; exact fun q hq => by omega) hq2)
          clear hq2
          have FF := hid (Find_any a p a2 ap c2 cp _ wq2 (H2.out.on B2.out) (HP.out.on B2.out) (fun q hq => hq) SA.out.big.1 (fun y hy => (SA.out.2 y hy).1) lp)
          rcases fi_cases a p with ⟨j, hj, f1, f2, f3⟩ | ⟨f1, f2⟩
          · rw [f1] at FF
            rw [f2] at hfr
            obtain ⟨_, _, he9, _, hm9, hat9⟩ := H2.out.at
            cases he9
            unfold maxLen at hm9
            obtain ⟨gx, ox, cs9, rfl, hgx, ⟨ax, cx, ay, cy, rfl, hPx, hIx⟩, hcx⟩ := hat9 j hj
            have hmx : a[j] ∈ a := List.getElem_mem hj
            have x0 := hcx 0 _ rfl
            have x1 := hcx 1 _ rfl
            obtain ⟨x, hxx⟩ : ∃ x, a[j] = x := ⟨_, rfl⟩
            rw [hxx] at hPx hIx x0 x1 hmx hfr
            rw [Nat.add_zero] at x0
            rw [← Nat.add_assoc] at x1
            have HPx := hid hPx
            have HIx := hid hIx
            have hmx : Hid (x ∈ o ∨ x ∈ a ∨ x ∈ b) := by unfold Hid; simp [hmx]
            have v1 : (0 : Int) ≤ (j : Int) := by omega
            have v2 : (j : Int) < (a.length : Int) := by omega
            have v3 : ¬ (j : Int) < 0 := by omega
            have X0 := hid x0
            have X1 := hid x1
            have GX := hid hgx
            clear hcx hPx hIx hxx hat9 x0 x1 hgx f1 f2 f3
            go_wp2_with fail
            refine FF.out.mono ?_
            rintro e w8 ⟨rfl, hq8⟩
            have hz8 := hq8.size
            have B8 := hid (B2.out.trans (hq8.mono B2.out.size))
            have KR8 := hid (KR2.out.below (by have := B2.out.size; exact fun q hq => by omega) hq8)
            have NR8 := hid (NR2.out.below (by have := B2.out.size; exact fun q hq => by omega) hq8)
            clear hq8
            obtain ⟨m, hm⟩ : ∃ m, p.length = m + 1 := ⟨p.length - 1, by have := HNE.out; cases p with | nil => exact absurd rfl this | cons _ _ => simp⟩
            have hdl : p.dropLast = p.take m := by rw [List.dropLast_eq_take, hm]; rfl
            by_cases h1 : 1 ≤ m
            · have hpp := (HP.out.on B8.out).pre (b := m) (by omega)
              have htl : (p.take m).length = m := by rw [List.length_take]; omega
              have hkl := KR8.out.lsl
              have F9 := Find_any kept (p.take m) ak ap ck cp (fun q => q < w8.heap.size) w8 (hkl.wide fun q hq => by
                have hzz := B8.out.size
                rcases hq with hq | hq
                · exact Nat.lt_of_lt_of_le hq hzz
                · exact hq.2) (by rw [htl]; exact hpp) (fun q hq => hq) (by omega) (fun y hy => HKM.out y hy) (by omega)
              rw [htl] at F9
              have v4 : (1 : Int) < (p.length : Int) := by omega
              have v5 : (0 : Int) ≤ (m : Int) := by omega
              have v6 : (m : Int) ≤ (p.length : Int) := by omega
              have v7 : IntKind.i64.wrap ((p.length : Int) - 1) = (m : Int) := by rw [show (p.length : Int) - 1 = m by omega]; exact IntWalk.i64_in _ (by omega)
              have hcp := (SlC.caps HP.out).1
              have v8 : (m : Int) ≤ (cp : Int) := by omega
              rcases fi_cases kept (p.take m) with ⟨jj, hjj, k1, k2, _⟩ | ⟨k1, k2⟩
              · have hst := jnR_keep (ps := (al.drop (k + 1)).map Fl.p) (kept := kept) (named := named) hfr (by rw [hdl, k2]; simp)
                rw [← HJN.out, hcl] at hst
                try simp only [if_true, Bool.false_eq_true, if_false] at hst
                rw [k1] at F9
                have F9 := hid F9
                have HST := hid hst
                have v9 : ¬ (jj : Int) < 0 := by omega
                have v9' : (0 : Int) ≤ (jj : Int) := by omega
                clear hst k1 k2 hpp htl hdl hfr hcl hkl hm
                go_wp2_with fail
                refine F9.out.mono ?_
                rintro e w9 ⟨rfl, hq9⟩
                have B9 := hid (B8.out.trans (hq9.mono B8.out.size))
                have KR9 := hid (KR8.out.below (by have := B8.out.size; exact fun q hq => by omega) hq9)
                have NR9 := hid (NR8.out.below (by have := B8.out.size; exact fun q hq => by omega) hq9)
                have hz9 := hq9.size
                clear hq9
                have X08 := below_cell B9.out GX.out X0.out
                have X18 := below_cell B9.out GX.out X1.out
                go_wp2_with (at_builtin; (refine (wpList_push (r := rdFl) (e := 159) (S := (fun q => q < w5.heap.size)) (lo := w5.heap.size) rfl _ _ _ rfl j0 _ 48 Tryz.underlying38 hj0 hy0 hy1 hy2 rfl (by omega) rfl (KR9.out.below (by have := B9.out.size; exact fun q hq => by omega) ((Below.refl _ _).alloc (Nat.le_refl _) _)) (fun q hq => hq) ?_ x [.slice ax x.p.length cx, .slice ay x.l.length cy] w9.heap.size rfl ?_ ⟨ax, cx, ay, cy, rfl, HPx.out.agree (Agree.of_below (B9.out.alloc (by have := B9.out.size; omega) _) (fun q hq => hq)), HIx.out.agree (Agree.of_below (B9.out.alloc (by have := B9.out.size; omega) _) (fun q hq => hq))⟩ ?_ ?_ ?_); (have := B9.out.size; simp; omega); exact heap_alloc_new _ _; (unfold maxLen; omega); omega; intro VK WK HRk HGk HTk HLk); have NRk := hid ((NR9.out.below (by have := B9.out.size; exact fun q hq => by omega) ((Below.refl _ _).alloc (Nat.le_refl _) _)).other (β := Nat) (k2 := 0) (fun q hq => hq) (by have := B9.out.size; simp; omega) HGk (fun q hq => (KR9.out.lt q hq).1) (dis_symm DIS.out)); have DISk := hid (dis_symm (dis_push (dis_symm DIS.out) HTk (fun q hq => by have := (NR9.out.lt q hq).2; simp; omega))); have BK := hid (HLk _ (B9.out.alloc (by have := B9.out.size; omega) _)))
                go_roundw
                case rel => exact ⟨k + 1, kept ++ [x], named, by omega, by go_num, by simp; omega, by omega, hid HRk, NRk, DISk, (fun y hy => by rcases List.mem_append.1 hy with hh | hh; exact HKO.out y hh; rw [List.mem_singleton] at hh; rw [hh]; exact hmx.out), HST, BK⟩
                case measure => simp [intOf]; omega
              · have hst := jnR_loose (ps := (al.drop (k + 1)).map Fl.p) (kept := kept) (named := named) hfr (by omega) (by rw [hdl, k2])
                rw [← HJN.out] at hst
                rw [k1] at F9
                have F9 := hid F9
                have HST := hid hst
                clear hst k1 k2 hpp htl hdl hfr hcl hkl hm
                go_wp2_with fail
                refine F9.out.mono ?_
                rintro e w9 ⟨rfl, hq9⟩
                have B9 := hid (B8.out.trans (hq9.mono B8.out.size))
                have KR9 := hid (KR8.out.below (by have := B8.out.size; exact fun q hq => by omega) hq9)
                have NR9 := hid (NR8.out.below (by have := B8.out.size; exact fun q hq => by omega) hq9)
                have hz9 := hq9.size
                clear hq9
                go_wp2_with (at_builtin; (refine (wpList_push (r := rdPa) (e := 92) (S := (fun q => q < w5.heap.size)) (lo := w5.heap.size) rfl _ _ _ rfl i0 _ 24 Tryz.underlying45 hi0 hz0 hz1 hz2 rfl (by omega) rfl (NR9.out.below (by have := B9.out.size; exact fun q hq => by omega) ((Below.refl _ _).alloc (Nat.le_refl _) _)) (fun q hq => hq) ?_ p [.slice ap p.length cp] w9.heap.size rfl ?_ ⟨ap, cp, rfl, HP.out.agree (Agree.of_below (B9.out.alloc (by have := B9.out.size; omega) _) (fun q hq => hq))⟩ ?_ ?_ ?_); (have := B9.out.size; simp; omega); exact heap_alloc_new _ _; (unfold maxLen; omega); omega; intro VN WN HRn HGn HTn HLn); have KRn := hid ((KR9.out.below (by have := B9.out.size; exact fun q hq => by omega) ((Below.refl _ _).alloc (Nat.le_refl _) _)).other (β := Nat) (k2 := 0) (fun q hq => hq) (by have := B9.out.size; simp; omega) HGn (fun q hq => (NR9.out.lt q hq).1) DIS.out); have DISn := hid (dis_push DIS.out HTn (fun q hq => by have := (KR9.out.lt q hq).2; simp; omega)); have BN := hid (HLn _ (B9.out.alloc (by have := B9.out.size; omega) _)))
                go_roundw
                case rel => exact ⟨k + 1, kept, named ++ [p], by omega, by go_num, by omega, by simp; omega, KRn, hid HRn, DISn, HKO.out, HST, BN⟩
                case measure => simp [intOf]; omega
            · obtain rfl : m = 0 := by omega
              have hst := jnR_keep (ps := (al.drop (k + 1)).map Fl.p) (kept := kept) (named := named) hfr (by omega)
              rw [← HJN.out, hcl] at hst
              try simp only [if_true, Bool.false_eq_true, if_false] at hst
              have HST := hid hst
              have v4 : ¬ (1 : Int) < (p.length : Int) := by omega
              clear hst hdl hfr hcl hm
              have X08 := below_cell B8.out GX.out X0.out
              have X18 := below_cell B8.out GX.out X1.out
              go_wp2_with (at_builtin; (refine (wpList_push (r := rdFl) (e := 159) (S := (fun q => q < w5.heap.size)) (lo := w5.heap.size) rfl _ _ _ rfl j0 _ 48 Tryz.underlying38 hj0 hy0 hy1 hy2 rfl (by omega) rfl (KR8.out.below (by have := B8.out.size; exact fun q hq => by omega) ((Below.refl _ _).alloc (Nat.le_refl _) _)) (fun q hq => hq) ?_ x [.slice ax x.p.length cx, .slice ay x.l.length cy] w8.heap.size rfl ?_ ⟨ax, cx, ay, cy, rfl, HPx.out.agree (Agree.of_below (B8.out.alloc (by have := B8.out.size; omega) _) (fun q hq => hq)), HIx.out.agree (Agree.of_below (B8.out.alloc (by have := B8.out.size; omega) _) (fun q hq => hq))⟩ ?_ ?_ ?_); (have := B8.out.size; simp; omega); exact heap_alloc_new _ _; (unfold maxLen; omega); omega; intro VK WK HRk HGk HTk HLk); have NRk := hid ((NR8.out.below (by have := B8.out.size; exact fun q hq => by omega) ((Below.refl _ _).alloc (Nat.le_refl _) _)).other (β := Nat) (k2 := 0) (fun q hq => hq) (by have := B8.out.size; simp; omega) HGk (fun q hq => (KR8.out.lt q hq).1) (dis_symm DIS.out)); have DISk := hid (dis_symm (dis_push (dis_symm DIS.out) HTk (fun q hq => by have := (NR8.out.lt q hq).2; simp; omega))); have BK := hid (HLk _ (B8.out.alloc (by have := B8.out.size; omega) _)))
              go_roundw
              case rel => exact ⟨k + 1, kept ++ [x], named, by omega, by go_num, by simp; omega, by omega, hid HRk, NRk, DISk, (fun y hy => by rcases List.mem_append.1 hy with hh | hh; exact HKO.out y hh; rw [List.mem_singleton] at hh; rw [hh]; exact hmx.out), HST, BK⟩
              case measure => simp [intOf]; omega
          · rw [f1] at FF
            rw [f2] at hfr
            have hst := jnR_none (ps := (al.drop (k + 1)).map Fl.p) (kept := kept) (named := named) hfr
            rw [← HJN.out, hcl] at hst
            try simp only [if_true, Bool.false_eq_true, if_false] at hst
            have HST := hid hst
            clear hst f1 f2 hfr hcl
            go_wp2_with fail
            refine FF.out.mono ?_
            rintro e w8 ⟨rfl, hq8⟩
            have hz8 := hq8.size
            have B8 := hid (B2.out.trans (hq8.mono B2.out.size))
            have KR8 := hid (KR2.out.below (by have := B2.out.size; exact fun q hq => by omega) hq8)
            have NR8 := hid (NR2.out.below (by have := B2.out.size; exact fun q hq => by omega) hq8)
            clear hq8
            go_wp2_with fail
            go_roundw
            case rel => exact ⟨k + 1, kept, named, by omega, by go_num, by omega, by omega, KR8, NR8, DIS, HKO.out, HST, B8⟩
            case measure => simp [intOf]; omega
      | false =>
        cases e2 : eqR o a p with
        | true =>
          have hcl : clB o a b p = false := by rw [clB, e1, e2]; rfl
          have hfr : frR o a b p = rfd b p := by rw [frR, hcl]; simp [e2]
          rw [e1] at E1
          rw [e2] at E2
          clear e1 e2
          go_wp2_with fail
          refine (E1.out wr hB.out).mono ?_
          rintro e wq1 ⟨rfl, hq1⟩
          have B1 := hid (hB.out.trans (hq1.mono hB.out.size))
          have KR1 := hid (KR.out.below (by have := hB.out.size; exact fun q hq => by omega) hq1)
          have NR1 := hid (NR.out.below (by have := hB.out.size; exact fun q hq => by omega) hq1)
          clear hq1
          go_wp2_with fail
          refine (E2.out wq1 B1.out).mono ?_
          rintro e wq2 ⟨rfl, hq2⟩
          have B2 := hid (B1.out.trans (hq2.mono B1.out.size))
          have KR2 := hid (KR1.out.below (by have := B1.out.size; exact fun q hq => by omega) hq2)
          have NR2 := hid (NR1.out.below (by have := B1.out.size; exact fun q hq => by omega) hq2)
          clear hq2
          go_wp2_with fail
          refine (E2.out wq2 B2.out).mono ?_
          rintro e wq3 ⟨rfl, hq3⟩
          have B3 := hid (B2.out.trans (hq3.mono B2.out.size))
          have KR3 := hid (KR2.out.below (by have := B2.out.size; exact fun q hq => by omega) hq3)
          have NR3 := hid (NR2.out.below (by have := B2.out.size; exact fun q hq => by omega) hq3)
          clear hq3
          have FF := hid (Find_any b p a3 ap c3 cp _ wq3 (H3.out.on B3.out) (HP.out.on B3.out) (fun q hq => hq) SB.out.big.1 (fun y hy => (SB.out.2 y hy).1) lp)
          rcases fi_cases b p with ⟨j, hj, f1, f2, f3⟩ | ⟨f1, f2⟩
          · rw [f1] at FF
            rw [f2] at hfr
            obtain ⟨_, _, he9, _, hm9, hat9⟩ := H3.out.at
            cases he9
            unfold maxLen at hm9
            obtain ⟨gx, ox, cs9, rfl, hgx, ⟨ax, cx, ay, cy, rfl, hPx, hIx⟩, hcx⟩ := hat9 j hj
            have hmx : b[j] ∈ b := List.getElem_mem hj
            have x0 := hcx 0 _ rfl
            have x1 := hcx 1 _ rfl
            obtain ⟨x, hxx⟩ : ∃ x, b[j] = x := ⟨_, rfl⟩
            rw [hxx] at hPx hIx x0 x1 hmx hfr
            rw [Nat.add_zero] at x0
            rw [← Nat.add_assoc] at x1
            have HPx := hid hPx
            have HIx := hid hIx
            have hmx : Hid (x ∈ o ∨ x ∈ a ∨ x ∈ b) := by unfold Hid; simp [hmx]
            have v1 : (0 : Int) ≤ (j : Int) := by omega
            have v2 : (j : Int) < (b.length : Int) := by omega
            have v3 : ¬ (j : Int) < 0 := by omega
            have X0 := hid x0
            have X1 := hid x1
            have GX := hid hgx
            clear hcx hPx hIx hxx hat9 x0 x1 hgx f1 f2 f3
            go_wp2_with fail
            refine FF.out.mono ?_
            rintro e w8 ⟨rfl, hq8⟩
            have hz8 := hq8.size
            have B8 := hid (B3.out.trans (hq8.mono B3.out.size))
            have KR8 := hid (KR3.out.below (by have := B3.out.size; exact fun q hq => by omega) hq8)
            have NR8 := hid (NR3.out.below (by have := B3.out.size; exact fun q hq => by omega) hq8)
            clear hq8
            obtain ⟨m, hm⟩ : ∃ m, p.length = m + 1 := ⟨p.length - 1, by have := HNE.out; cases p with | nil => exact absurd rfl this | cons _ _ => simp⟩
            have hdl : p.dropLast = p.take m := by rw [List.dropLast_eq_take, hm]; rfl
            by_cases h1 : 1 ≤ m
            · have hpp := (HP.out.on B8.out).pre (b := m) (by omega)
              have htl : (p.take m).length = m := by rw [List.length_take]; omega
              have hkl := KR8.out.lsl
              have F9 := Find_any kept (p.take m) ak ap ck cp (fun q => q < w8.heap.size) w8 (hkl.wide fun q hq => by
                have hzz := B8.out.size
                rcases hq with hq | hq
                · exact Nat.lt_of_lt_of_le hq hzz
                · exact hq.2) (by rw [htl]; exact hpp) (fun q hq => hq) (by omega) (fun y hy => HKM.out y hy) (by omega)
              rw [htl] at F9
              have v4 : (1 : Int) < (p.length : Int) := by omega
              have v5 : (0 : Int) ≤ (m : Int) := by omega
              have v6 : (m : Int) ≤ (p.length : Int) := by omega
              have v7 : IntKind.i64.wrap ((p.length : Int) - 1) = (m : Int) := by rw [show (p.length : Int) - 1 = m by omega]; exact IntWalk.i64_in _ (by omega)
              have hcp := (SlC.caps HP.out).1
              have v8 : (m : Int) ≤ (cp : Int) := by omega
              rcases fi_cases kept (p.take m) with ⟨jj, hjj, k1, k2, _⟩ | ⟨k1, k2⟩
              · have hst := jnR_keep (ps := (al.drop (k + 1)).map Fl.p) (kept := kept) (named := named) hfr (by rw [hdl, k2]; simp)
                rw [← HJN.out, hcl] at hst
                try simp only [if_true, Bool.false_eq_true, if_false] at hst
                rw [k1] at F9
                have F9 := hid F9
                have HST := hid hst
                have v9 : ¬ (jj : Int) < 0 := by omega
                have v9' : (0 : Int) ≤ (jj : Int) := by omega
                clear hst k1 k2 hpp htl hdl hfr hcl hkl hm
                go_wp2_with fail
                refine F9.out.mono ?_
                rintro e w9 ⟨rfl, hq9⟩
                have B9 := hid (B8.out.trans (hq9.mono B8.out.size))
                have KR9 := hid (KR8.out.below (by have := B8.out.size; exact fun q hq => by omega) hq9)
                have NR9 := hid (NR8.out.below (by have := B8.out.size; exact fun q hq => by omega) hq9)
                have hz9 := hq9.size
                clear hq9
                have X08 := below_cell B9.out GX.out X0.out
                have X18 := below_cell B9.out GX.out X1.out
                go_wp2_with (at_builtin; (refine (wpList_push (r := rdFl) (e := 159) (S := (fun q => q < w5.heap.size)) (lo := w5.heap.size) rfl _ _ _ rfl j0 _ 48 Tryz.underlying38 hj0 hy0 hy1 hy2 rfl (by omega) rfl (KR9.out.below (by have := B9.out.size; exact fun q hq => by omega) ((Below.refl _ _).alloc (Nat.le_refl _) _)) (fun q hq => hq) ?_ x [.slice ax x.p.length cx, .slice ay x.l.length cy] w9.heap.size rfl ?_ ⟨ax, cx, ay, cy, rfl, HPx.out.agree (Agree.of_below (B9.out.alloc (by have := B9.out.size; omega) _) (fun q hq => hq)), HIx.out.agree (Agree.of_below (B9.out.alloc (by have := B9.out.size; omega) _) (fun q hq => hq))⟩ ?_ ?_ ?_); (have := B9.out.size; simp; omega); exact heap_alloc_new _ _; (unfold maxLen; omega); omega; intro VK WK HRk HGk HTk HLk); have NRk := hid ((NR9.out.below (by have := B9.out.size; exact fun q hq => by omega) ((Below.refl _ _).alloc (Nat.le_refl _) _)).other (β := Nat) (k2 := 0) (fun q hq => hq) (by have := B9.out.size; simp; omega) HGk (fun q hq => (KR9.out.lt q hq).1) (dis_symm DIS.out)); have DISk := hid (dis_symm (dis_push (dis_symm DIS.out) HTk (fun q hq => by have := (NR9.out.lt q hq).2; simp; omega))); have BK := hid (HLk _ (B9.out.alloc (by have := B9.out.size; omega) _)))
                go_roundw
                case rel => exact ⟨k + 1, kept ++ [x], named, by omega, by go_num, by simp; omega, by omega, hid HRk, NRk, DISk, (fun y hy => by rcases List.mem_append.1 hy with hh | hh; exact HKO.out y hh; rw [List.mem_singleton] at hh; rw [hh]; exact hmx.out), HST, BK⟩
                case measure => simp [intOf]; omega
              · have hst := jnR_loose (ps := (al.drop (k + 1)).map Fl.p) (kept := kept) (named := named) hfr (by omega) (by rw [hdl, k2])
                rw [← HJN.out] at hst
                rw [k1] at F9
                have F9 := hid F9
                have HST := hid hst
                clear hst k1 k2 hpp htl hdl hfr hcl hkl hm
                go_wp2_with fail
                refine F9.out.mono ?_
                rintro e w9 ⟨rfl, hq9⟩
                have B9 := hid (B8.out.trans (hq9.mono B8.out.size))
                have KR9 := hid (KR8.out.below (by have := B8.out.size; exact fun q hq => by omega) hq9)
                have NR9 := hid (NR8.out.below (by have := B8.out.size; exact fun q hq => by omega) hq9)
                have hz9 := hq9.size
                clear hq9
                go_wp2_with (at_builtin; (refine (wpList_push (r := rdPa) (e := 92) (S := (fun q => q < w5.heap.size)) (lo := w5.heap.size) rfl _ _ _ rfl i0 _ 24 Tryz.underlying45 hi0 hz0 hz1 hz2 rfl (by omega) rfl (NR9.out.below (by have := B9.out.size; exact fun q hq => by omega) ((Below.refl _ _).alloc (Nat.le_refl _) _)) (fun q hq => hq) ?_ p [.slice ap p.length cp] w9.heap.size rfl ?_ ⟨ap, cp, rfl, HP.out.agree (Agree.of_below (B9.out.alloc (by have := B9.out.size; omega) _) (fun q hq => hq))⟩ ?_ ?_ ?_); (have := B9.out.size; simp; omega); exact heap_alloc_new _ _; (unfold maxLen; omega); omega; intro VN WN HRn HGn HTn HLn); have KRn := hid ((KR9.out.below (by have := B9.out.size; exact fun q hq => by omega) ((Below.refl _ _).alloc (Nat.le_refl _) _)).other (β := Nat) (k2 := 0) (fun q hq => hq) (by have := B9.out.size; simp; omega) HGn (fun q hq => (NR9.out.lt q hq).1) DIS.out); have DISn := hid (dis_push DIS.out HTn (fun q hq => by have := (KR9.out.lt q hq).2; simp; omega)); have BN := hid (HLn _ (B9.out.alloc (by have := B9.out.size; omega) _)))
                go_roundw
                case rel => exact ⟨k + 1, kept, named ++ [p], by omega, by go_num, by omega, by simp; omega, KRn, hid HRn, DISn, HKO.out, HST, BN⟩
                case measure => simp [intOf]; omega
            · obtain rfl : m = 0 := by omega
              have hst := jnR_keep (ps := (al.drop (k + 1)).map Fl.p) (kept := kept) (named := named) hfr (by omega)
              rw [← HJN.out, hcl] at hst
              try simp only [if_true, Bool.false_eq_true, if_false] at hst
              have HST := hid hst
              have v4 : ¬ (1 : Int) < (p.length : Int) := by omega
              clear hst hdl hfr hcl hm
              have X08 := below_cell B8.out GX.out X0.out
              have X18 := below_cell B8.out GX.out X1.out
              go_wp2_with (at_builtin; (refine (wpList_push (r := rdFl) (e := 159) (S := (fun q => q < w5.heap.size)) (lo := w5.heap.size) rfl _ _ _ rfl j0 _ 48 Tryz.underlying38 hj0 hy0 hy1 hy2 rfl (by omega) rfl (KR8.out.below (by have := B8.out.size; exact fun q hq => by omega) ((Below.refl _ _).alloc (Nat.le_refl _) _)) (fun q hq => hq) ?_ x [.slice ax x.p.length cx, .slice ay x.l.length cy] w8.heap.size rfl ?_ ⟨ax, cx, ay, cy, rfl, HPx.out.agree (Agree.of_below (B8.out.alloc (by have := B8.out.size; omega) _) (fun q hq => hq)), HIx.out.agree (Agree.of_below (B8.out.alloc (by have := B8.out.size; omega) _) (fun q hq => hq))⟩ ?_ ?_ ?_); (have := B8.out.size; simp; omega); exact heap_alloc_new _ _; (unfold maxLen; omega); omega; intro VK WK HRk HGk HTk HLk); have NRk := hid ((NR8.out.below (by have := B8.out.size; exact fun q hq => by omega) ((Below.refl _ _).alloc (Nat.le_refl _) _)).other (β := Nat) (k2 := 0) (fun q hq => hq) (by have := B8.out.size; simp; omega) HGk (fun q hq => (KR8.out.lt q hq).1) (dis_symm DIS.out)); have DISk := hid (dis_symm (dis_push (dis_symm DIS.out) HTk (fun q hq => by have := (NR8.out.lt q hq).2; simp; omega))); have BK := hid (HLk _ (B8.out.alloc (by have := B8.out.size; omega) _)))
              go_roundw
              case rel => exact ⟨k + 1, kept ++ [x], named, by omega, by go_num, by simp; omega, by omega, hid HRk, NRk, DISk, (fun y hy => by rcases List.mem_append.1 hy with hh | hh; exact HKO.out y hh; rw [List.mem_singleton] at hh; rw [hh]; exact hmx.out), HST, BK⟩
              case measure => simp [intOf]; omega
          · rw [f1] at FF
            rw [f2] at hfr
            have hst := jnR_none (ps := (al.drop (k + 1)).map Fl.p) (kept := kept) (named := named) hfr
            rw [← HJN.out, hcl] at hst
            try simp only [if_true, Bool.false_eq_true, if_false] at hst
            have HST := hid hst
            clear hst f1 f2 hfr hcl
            go_wp2_with fail
            refine FF.out.mono ?_
            rintro e w8 ⟨rfl, hq8⟩
            have hz8 := hq8.size
            have B8 := hid (B3.out.trans (hq8.mono B3.out.size))
            have KR8 := hid (KR3.out.below (by have := B3.out.size; exact fun q hq => by omega) hq8)
            have NR8 := hid (NR3.out.below (by have := B3.out.size; exact fun q hq => by omega) hq8)
            clear hq8
            go_wp2_with fail
            go_roundw
            case rel => exact ⟨k + 1, kept, named, by omega, by go_num, by omega, by omega, KR8, NR8, DIS, HKO.out, HST, B8⟩
            case measure => simp [intOf]; omega
        | false =>
          cases e3 : eqR o b p with
          | true =>
            have hcl : clB o a b p = false := by rw [clB, e1, e2, e3]; rfl
            have hfr : frR o a b p = rfd a p := by rw [frR, hcl]; simp [e2]
            rw [e1] at E1
            rw [e2] at E2
            rw [e3] at E3
            clear e1 e2 e3
            go_wp2_with fail
            refine (E1.out wr hB.out).mono ?_
            rintro e wq1 ⟨rfl, hq1⟩
            have B1 := hid (hB.out.trans (hq1.mono hB.out.size))
            have KR1 := hid (KR.out.below (by have := hB.out.size; exact fun q hq => by omega) hq1)
            have NR1 := hid (NR.out.below (by have := hB.out.size; exact fun q hq => by omega) hq1)
            clear hq1
            go_wp2_with fail
            refine (E2.out wq1 B1.out).mono ?_
            rintro e wq2 ⟨rfl, hq2⟩
            have B2 := hid (B1.out.trans (hq2.mono B1.out.size))
            have KR2 := hid (KR1.out.below (by have := B1.out.size; exact fun q hq => by omega) hq2)
            have NR2 := hid (NR1.out.below (by have := B1.out.size; exact fun q hq => by omega) hq2)
            clear hq2
            go_wp2_with fail
            refine (E3.out wq2 B2.out).mono ?_
            rintro e wq3 ⟨rfl, hq3⟩
            have B3 := hid (B2.out.trans (hq3.mono B2.out.size))
            have KR3 := hid (KR2.out.below (by have := B2.out.size; exact fun q hq => by omega) hq3)
            have NR3 := hid (NR2.out.below (by have := B2.out.size; exact fun q hq => by omega) hq3)
            clear hq3
            go_wp2_with fail
            refine (E2.out wq3 B3.out).mono ?_
            rintro e wq4 ⟨rfl, hq4⟩
            have B4 := hid (B3.out.trans (hq4.mono B3.out.size))
            have KR4 := hid (KR3.out.below (by have := B3.out.size; exact fun q hq => by omega) hq4)
            have NR4 := hid (NR3.out.below (by have := B3.out.size; exact fun q hq => by omega) hq4)
            clear hq4
            have FF := hid (Find_any a p a2 ap c2 cp _ wq4 (H2.out.on B4.out) (HP.out.on B4.out) (fun q hq => hq) SA.out.big.1 (fun y hy => (SA.out.2 y hy).1) lp)
            rcases fi_cases a p with ⟨j, hj, f1, f2, f3⟩ | ⟨f1, f2⟩
            · rw [f1] at FF
              rw [f2] at hfr
              obtain ⟨_, _, he9, _, hm9, hat9⟩ := H2.out.at
              cases he9
              unfold maxLen at hm9
              obtain ⟨gx, ox, cs9, rfl, hgx, ⟨ax, cx, ay, cy, rfl, hPx, hIx⟩, hcx⟩ := hat9 j hj
              have hmx : a[j] ∈ a := List.getElem_mem hj
              have x0 := hcx 0 _ rfl
              have x1 := hcx 1 _ rfl
              obtain ⟨x, hxx⟩ : ∃ x, a[j] = x := ⟨_, rfl⟩
              rw [hxx] at hPx hIx x0 x1 hmx hfr
              rw [Nat.add_zero] at x0
              rw [← Nat.add_assoc] at x1
              have HPx := hid hPx
              have HIx := hid hIx
              have hmx : Hid (x ∈ o ∨ x ∈ a ∨ x ∈ b) := by unfold Hid; simp [hmx]
              have v1 : (0 : Int) ≤ (j : Int) := by omega
              have v2 : (j : Int) < (a.length : Int) := by omega
              have v3 : ¬ (j : Int) < 0 := by omega
              have X0 := hid x0
              have X1 := hid x1
              have GX := hid hgx
              clear hcx hPx hIx hxx hat9 x0 x1 hgx f1 f2 f3
              go_wp2_with fail
              refine FF.out.mono ?_
              rintro e w8 ⟨rfl, hq8⟩
              have hz8 := hq8.size
              have B8 := hid (B4.out.trans (hq8.mono B4.out.size))
              have KR8 := hid (KR4.out.below (by have := B4.out.size; exact fun q hq => by omega) hq8)
              have NR8 := hid (NR4.out.below (by have := B4.out.size; exact fun q hq => by omega) hq8)
              clear hq8
              obtain ⟨m, hm⟩ : ∃ m, p.length = m + 1 := ⟨p.length - 1, by have := HNE.out; cases p with | nil => exact absurd rfl this | cons _ _ => simp⟩
              have hdl : p.dropLast = p.take m := by rw [List.dropLast_eq_take, hm]; rfl
              by_cases h1 : 1 ≤ m
              · have hpp := (HP.out.on B8.out).pre (b := m) (by omega)
                have htl : (p.take m).length = m := by rw [List.length_take]; omega
                have hkl := KR8.out.lsl
                have F9 := Find_any kept (p.take m) ak ap ck cp (fun q => q < w8.heap.size) w8 (hkl.wide fun q hq => by
                  have hzz := B8.out.size
                  rcases hq with hq | hq
                  · exact Nat.lt_of_lt_of_le hq hzz
                  · exact hq.2) (by rw [htl]; exact hpp) (fun q hq => hq) (by omega) (fun y hy => HKM.out y hy) (by omega)
                rw [htl] at F9
                have v4 : (1 : Int) < (p.length : Int) := by omega
                have v5 : (0 : Int) ≤ (m : Int) := by omega
                have v6 : (m : Int) ≤ (p.length : Int) := by omega
                have v7 : IntKind.i64.wrap ((p.length : Int) - 1) = (m : Int) := by rw [show (p.length : Int) - 1 = m by omega]; exact IntWalk.i64_in _ (by omega)
                have hcp := (SlC.caps HP.out).1
                have v8 : (m : Int) ≤ (cp : Int) := by omega
                rcases fi_cases kept (p.take m) with ⟨jj, hjj, k1, k2, _⟩ | ⟨k1, k2⟩
                · have hst := jnR_keep (ps := (al.drop (k + 1)).map Fl.p) (kept := kept) (named := named) hfr (by rw [hdl, k2]; simp)
                  rw [← HJN.out, hcl] at hst
                  try simp only [if_true, Bool.false_eq_true, if_false] at hst
                  rw [k1] at F9
                  have F9 := hid F9
                  have HST := hid hst
                  have v9 : ¬ (jj : Int) < 0 := by omega
                  have v9' : (0 : Int) ≤ (jj : Int) := by omega
                  clear hst k1 k2 hpp htl hdl hfr hcl hkl hm
                  go_wp2_with fail
                  refine F9.out.mono ?_
                  rintro e w9 ⟨rfl, hq9⟩
                  have B9 := hid (B8.out.trans (hq9.mono B8.out.size))
                  have KR9 := hid (KR8.out.below (by have := B8.out.size; exact fun q hq => by omega) hq9)
                  have NR9 := hid (NR8.out.below (by have := B8.out.size; exact fun q hq => by omega) hq9)
                  have hz9 := hq9.size
                  clear hq9
                  have X08 := below_cell B9.out GX.out X0.out
                  have X18 := below_cell B9.out GX.out X1.out
                  go_wp2_with (at_builtin; (refine (wpList_push (r := rdFl) (e := 159) (S := (fun q => q < w5.heap.size)) (lo := w5.heap.size) rfl _ _ _ rfl j0 _ 48 Tryz.underlying38 hj0 hy0 hy1 hy2 rfl (by omega) rfl (KR9.out.below (by have := B9.out.size; exact fun q hq => by omega) ((Below.refl _ _).alloc (Nat.le_refl _) _)) (fun q hq => hq) ?_ x [.slice ax x.p.length cx, .slice ay x.l.length cy] w9.heap.size rfl ?_ ⟨ax, cx, ay, cy, rfl, HPx.out.agree (Agree.of_below (B9.out.alloc (by have := B9.out.size; omega) _) (fun q hq => hq)), HIx.out.agree (Agree.of_below (B9.out.alloc (by have := B9.out.size; omega) _) (fun q hq => hq))⟩ ?_ ?_ ?_); (have := B9.out.size; simp; omega); exact heap_alloc_new _ _; (unfold maxLen; omega); omega; intro VK WK HRk HGk HTk HLk); have NRk := hid ((NR9.out.below (by have := B9.out.size; exact fun q hq => by omega) ((Below.refl _ _).alloc (Nat.le_refl _) _)).other (β := Nat) (k2 := 0) (fun q hq => hq) (by have := B9.out.size; simp; omega) HGk (fun q hq => (KR9.out.lt q hq).1) (dis_symm DIS.out)); have DISk := hid (dis_symm (dis_push (dis_symm DIS.out) HTk (fun q hq => by have := (NR9.out.lt q hq).2; simp; omega))); have BK := hid (HLk _ (B9.out.alloc (by have := B9.out.size; omega) _)))
                  go_roundw
                  case rel => exact ⟨k + 1, kept ++ [x], named, by omega, by go_num, by simp; omega, by omega, hid HRk, NRk, DISk, (fun y hy => by rcases List.mem_append.1 hy with hh | hh; exact HKO.out y hh; rw [List.mem_singleton] at hh; rw [hh]; exact hmx.out), HST, BK⟩
                  case measure => simp [intOf]; omega
                · have hst := jnR_loose (ps := (al.drop (k + 1)).map Fl.p) (kept := kept) (named := named) hfr (by omega) (by rw [hdl, k2])
                  rw [← HJN.out] at hst
                  rw [k1] at F9
                  have F9 := hid F9
                  have HST := hid hst
                  clear hst k1 k2 hpp htl hdl hfr hcl hkl hm
                  go_wp2_with fail
                  refine F9.out.mono ?_
                  rintro e w9 ⟨rfl, hq9⟩
                  have B9 := hid (B8.out.trans (hq9.mono B8.out.size))
                  have KR9 := hid (KR8.out.below (by have := B8.out.size; exact fun q hq => by omega) hq9)
                  have NR9 := hid (NR8.out.below (by have := B8.out.size; exact fun q hq => by omega) hq9)
                  have hz9 := hq9.size
                  clear hq9
                  go_wp2_with (at_builtin; (refine (wpList_push (r := rdPa) (e := 92) (S := (fun q => q < w5.heap.size)) (lo := w5.heap.size) rfl _ _ _ rfl i0 _ 24 Tryz.underlying45 hi0 hz0 hz1 hz2 rfl (by omega) rfl (NR9.out.below (by have := B9.out.size; exact fun q hq => by omega) ((Below.refl _ _).alloc (Nat.le_refl _) _)) (fun q hq => hq) ?_ p [.slice ap p.length cp] w9.heap.size rfl ?_ ⟨ap, cp, rfl, HP.out.agree (Agree.of_below (B9.out.alloc (by have := B9.out.size; omega) _) (fun q hq => hq))⟩ ?_ ?_ ?_); (have := B9.out.size; simp; omega); exact heap_alloc_new _ _; (unfold maxLen; omega); omega; intro VN WN HRn HGn HTn HLn); have KRn := hid ((KR9.out.below (by have := B9.out.size; exact fun q hq => by omega) ((Below.refl _ _).alloc (Nat.le_refl _) _)).other (β := Nat) (k2 := 0) (fun q hq => hq) (by have := B9.out.size; simp; omega) HGn (fun q hq => (NR9.out.lt q hq).1) DIS.out); have DISn := hid (dis_push DIS.out HTn (fun q hq => by have := (KR9.out.lt q hq).2; simp; omega)); have BN := hid (HLn _ (B9.out.alloc (by have := B9.out.size; omega) _)))
                  go_roundw
                  case rel => exact ⟨k + 1, kept, named ++ [p], by omega, by go_num, by omega, by simp; omega, KRn, hid HRn, DISn, HKO.out, HST, BN⟩
                  case measure => simp [intOf]; omega
              · obtain rfl : m = 0 := by omega
                have hst := jnR_keep (ps := (al.drop (k + 1)).map Fl.p) (kept := kept) (named := named) hfr (by omega)
                rw [← HJN.out, hcl] at hst
                try simp only [if_true, Bool.false_eq_true, if_false] at hst
                have HST := hid hst
                have v4 : ¬ (1 : Int) < (p.length : Int) := by omega
                clear hst hdl hfr hcl hm
                have X08 := below_cell B8.out GX.out X0.out
                have X18 := below_cell B8.out GX.out X1.out
                go_wp2_with (at_builtin; (refine (wpList_push (r := rdFl) (e := 159) (S := (fun q => q < w5.heap.size)) (lo := w5.heap.size) rfl _ _ _ rfl j0 _ 48 Tryz.underlying38 hj0 hy0 hy1 hy2 rfl (by omega) rfl (KR8.out.below (by have := B8.out.size; exact fun q hq => by omega) ((Below.refl _ _).alloc (Nat.le_refl _) _)) (fun q hq => hq) ?_ x [.slice ax x.p.length cx, .slice ay x.l.length cy] w8.heap.size rfl ?_ ⟨ax, cx, ay, cy, rfl, HPx.out.agree (Agree.of_below (B8.out.alloc (by have := B8.out.size; omega) _) (fun q hq => hq)), HIx.out.agree (Agree.of_below (B8.out.alloc (by have := B8.out.size; omega) _) (fun q hq => hq))⟩ ?_ ?_ ?_); (have := B8.out.size; simp; omega); exact heap_alloc_new _ _; (unfold maxLen; omega); omega; intro VK WK HRk HGk HTk HLk); have NRk := hid ((NR8.out.below (by have := B8.out.size; exact fun q hq => by omega) ((Below.refl _ _).alloc (Nat.le_refl _) _)).other (β := Nat) (k2 := 0) (fun q hq => hq) (by have := B8.out.size; simp; omega) HGk (fun q hq => (KR8.out.lt q hq).1) (dis_symm DIS.out)); have DISk := hid (dis_symm (dis_push (dis_symm DIS.out) HTk (fun q hq => by have := (NR8.out.lt q hq).2; simp; omega))); have BK := hid (HLk _ (B8.out.alloc (by have := B8.out.size; omega) _)))
                go_roundw
                case rel => exact ⟨k + 1, kept ++ [x], named, by omega, by go_num, by simp; omega, by omega, hid HRk, NRk, DISk, (fun y hy => by rcases List.mem_append.1 hy with hh | hh; exact HKO.out y hh; rw [List.mem_singleton] at hh; rw [hh]; exact hmx.out), HST, BK⟩
                case measure => simp [intOf]; omega
            · rw [f1] at FF
              rw [f2] at hfr
              have hst := jnR_none (ps := (al.drop (k + 1)).map Fl.p) (kept := kept) (named := named) hfr
              rw [← HJN.out, hcl] at hst
              try simp only [if_true, Bool.false_eq_true, if_false] at hst
              have HST := hid hst
              clear hst f1 f2 hfr hcl
              go_wp2_with fail
              refine FF.out.mono ?_
              rintro e w8 ⟨rfl, hq8⟩
              have hz8 := hq8.size
              have B8 := hid (B4.out.trans (hq8.mono B4.out.size))
              have KR8 := hid (KR4.out.below (by have := B4.out.size; exact fun q hq => by omega) hq8)
              have NR8 := hid (NR4.out.below (by have := B4.out.size; exact fun q hq => by omega) hq8)
              clear hq8
              go_wp2_with fail
              go_roundw
              case rel => exact ⟨k + 1, kept, named, by omega, by go_num, by omega, by omega, KR8, NR8, DIS, HKO.out, HST, B8⟩
              case measure => simp [intOf]; omega
          | false =>
            have hcl : clB o a b p = true := by rw [clB, e1, e2, e3]; rfl
            have hfr : frR o a b p = rfd o p := by rw [frR, hcl]; simp [e2]
            rw [e1] at E1
            rw [e2] at E2
            rw [e3] at E3
            clear e1 e2 e3
            go_wp2_with fail
            refine (E1.out wr hB.out).mono ?_
            rintro e wq1 ⟨rfl, hq1⟩
            have B1 := hid (hB.out.trans (hq1.mono hB.out.size))
            have KR1 := hid (KR.out.below (by have := hB.out.size; exact fun q hq => by omega) hq1)
            have NR1 := hid (NR.out.below (by have := hB.out.size; exact fun q hq => by omega) hq1)
            clear hq1
            go_wp2_with fail
            refine (E2.out wq1 B1.out).mono ?_
            rintro e wq2 ⟨rfl, hq2⟩
            have B2 := hid (B1.out.trans (hq2.mono B1.out.size))
            have KR2 := hid (KR1.out.below (by have := B1.out.size; exact fun q hq => by omega) hq2)
            have NR2 := hid (NR1.out.below (by have := B1.out.size; exact fun q hq => by omega) hq2)
            clear hq2
            go_wp2_with fail
            refine (E3.out wq2 B2.out).mono ?_
            rintro e wq3 ⟨rfl, hq3⟩
            have B3 := hid (B2.out.trans (hq3.mono B2.out.size))
            have KR3 := hid (KR2.out.below (by have := B2.out.size; exact fun q hq => by omega) hq3)
            have NR3 := hid (NR2.out.below (by have := B2.out.size; exact fun q hq => by omega) hq3)
            clear hq3
            go_wp2_with fail
            refine (E2.out wq3 B3.out).mono ?_
            rintro e wq4 ⟨rfl, hq4⟩
            have B4 := hid (B3.out.trans (hq4.mono B3.out.size))
            have KR4 := hid (KR3.out.below (by have := B3.out.size; exact fun q hq => by omega) hq4)
            have NR4 := hid (NR3.out.below (by have := B3.out.size; exact fun q hq => by omega) hq4)
            clear hq4
            have FF := hid (Find_any o p a1 ap c1 cp _ wq4 (H1.out.on B4.out) (HP.out.on B4.out) (fun q hq => hq) SO.out.big.1 (fun y hy => (SO.out.2 y hy).1) lp)
            rcases fi_cases o p with ⟨j, hj, f1, f2, f3⟩ | ⟨f1, f2⟩
            · rw [f1] at FF
              rw [f2] at hfr
              obtain ⟨_, _, he9, _, hm9, hat9⟩ := H1.out.at
              cases he9
              unfold maxLen at hm9
              obtain ⟨gx, ox, cs9, rfl, hgx, ⟨ax, cx, ay, cy, rfl, hPx, hIx⟩, hcx⟩ := hat9 j hj
              have hmx : o[j] ∈ o := List.getElem_mem hj
              have x0 := hcx 0 _ rfl
              have x1 := hcx 1 _ rfl
              obtain ⟨x, hxx⟩ : ∃ x, o[j] = x := ⟨_, rfl⟩
              rw [hxx] at hPx hIx x0 x1 hmx hfr
              rw [Nat.add_zero] at x0
              rw [← Nat.add_assoc] at x1
              have HPx := hid hPx
              have HIx := hid hIx
              have hmx : Hid (x ∈ o ∨ x ∈ a ∨ x ∈ b) := by unfold Hid; simp [hmx]
              have v1 : (0 : Int) ≤ (j : Int) := by omega
              have v2 : (j : Int) < (o.length : Int) := by omega
              have v3 : ¬ (j : Int) < 0 := by omega
              have X0 := hid x0
              have X1 := hid x1
              have GX := hid hgx
              clear hcx hPx hIx hxx hat9 x0 x1 hgx f1 f2 f3
              go_wp2_with fail
              refine FF.out.mono ?_
              rintro e w8 ⟨rfl, hq8⟩
              have hz8 := hq8.size
              have B8 := hid (B4.out.trans (hq8.mono B4.out.size))
              have KR8 := hid (KR4.out.below (by have := B4.out.size; exact fun q hq => by omega) hq8)
              have NR8 := hid (NR4.out.below (by have := B4.out.size; exact fun q hq => by omega) hq8)
              clear hq8
              obtain ⟨m, hm⟩ : ∃ m, p.length = m + 1 := ⟨p.length - 1, by have := HNE.out; cases p with | nil => exact absurd rfl this | cons _ _ => simp⟩
              have hdl : p.dropLast = p.take m := by rw [List.dropLast_eq_take, hm]; rfl
              by_cases h1 : 1 ≤ m
              · have hpp := (HP.out.on B8.out).pre (b := m) (by omega)
                have htl : (p.take m).length = m := by rw [List.length_take]; omega
                have hkl := KR8.out.lsl
                have F9 := Find_any kept (p.take m) ak ap ck cp (fun q => q < w8.heap.size) w8 (hkl.wide fun q hq => by
                  have hzz := B8.out.size
                  rcases hq with hq | hq
                  · exact Nat.lt_of_lt_of_le hq hzz
                  · exact hq.2) (by rw [htl]; exact hpp) (fun q hq => hq) (by omega) (fun y hy => HKM.out y hy) (by omega)
                rw [htl] at F9
                have v4 : (1 : Int) < (p.length : Int) := by omega
                have v5 : (0 : Int) ≤ (m : Int) := by omega
                have v6 : (m : Int) ≤ (p.length : Int) := by omega
                have v7 : IntKind.i64.wrap ((p.length : Int) - 1) = (m : Int) := by rw [show (p.length : Int) - 1 = m by omega]; exact IntWalk.i64_in _ (by omega)
                have hcp := (SlC.caps HP.out).1
                have v8 : (m : Int) ≤ (cp : Int) := by omega
                rcases fi_cases kept (p.take m) with ⟨jj, hjj, k1, k2, _⟩ | ⟨k1, k2⟩
                · have hst := jnR_keep (ps := (al.drop (k + 1)).map Fl.p) (kept := kept) (named := named) hfr (by rw [hdl, k2]; simp)
                  rw [← HJN.out, hcl] at hst
                  try simp only [if_true, Bool.false_eq_true, if_false] at hst
                  rw [k1] at F9
                  have F9 := hid F9
                  have HST := hid hst
                  have v9 : ¬ (jj : Int) < 0 := by omega
                  have v9' : (0 : Int) ≤ (jj : Int) := by omega
                  clear hst k1 k2 hpp htl hdl hfr hcl hkl hm
                  go_wp2_with fail
                  refine F9.out.mono ?_
                  rintro e w9 ⟨rfl, hq9⟩
                  have B9 := hid (B8.out.trans (hq9.mono B8.out.size))
                  have KR9 := hid (KR8.out.below (by have := B8.out.size; exact fun q hq => by omega) hq9)
                  have NR9 := hid (NR8.out.below (by have := B8.out.size; exact fun q hq => by omega) hq9)
                  have hz9 := hq9.size
                  clear hq9
                  have X08 := below_cell B9.out GX.out X0.out
                  have X18 := below_cell B9.out GX.out X1.out
                  go_wp2_with (at_builtin; first
                    | ((refine (wpList_push (r := rdPa) (e := 92) (S := (fun q => q < w5.heap.size)) (lo := w5.heap.size) rfl _ _ _ rfl i0 _ 24 Tryz.underlying45 hi0 hz0 hz1 hz2 rfl (by omega) rfl (NR9.out.below (by have := B9.out.size; exact fun q hq => by omega) ((Below.refl _ _).alloc (Nat.le_refl _) _)) (fun q hq => hq) ?_ p [.slice ap p.length cp] w9.heap.size rfl ?_ ⟨ap, cp, rfl, HP.out.agree (Agree.of_below (B9.out.alloc (by have := B9.out.size; omega) _) (fun q hq => hq))⟩ ?_ ?_ ?_); (have := B9.out.size; simp; omega); exact heap_alloc_new _ _; (unfold maxLen; omega); omega; intro VN WN HRn HGn HTn HLn); have KRn := hid ((KR9.out.below (by have := B9.out.size; exact fun q hq => by omega) ((Below.refl _ _).alloc (Nat.le_refl _) _)).other (β := Nat) (k2 := 0) (fun q hq => hq) (by have := B9.out.size; simp; omega) HGn (fun q hq => (NR9.out.lt q hq).1) DIS.out); have DISn := hid (dis_push DIS.out HTn (fun q hq => by have := (KR9.out.lt q hq).2; simp; omega)); have BN := hid (HLn _ (B9.out.alloc (by have := B9.out.size; omega) _)); have NRn := hid HRn; have y0 := below_cell BN.out GX.out X0.out; have y1 := below_cell BN.out GX.out X1.out; clear HRn HGn HTn HLn)
                    | ((refine (wpList_push (r := rdFl) (e := 159) (S := (fun q => q < w5.heap.size)) (lo := w5.heap.size) rfl _ _ _ rfl j0 _ 48 Tryz.underlying38 hj0 hy0 hy1 hy2 rfl (by omega) rfl (KRn.out.below (by have := BN.out.size; exact fun q hq => by omega) ((Below.refl _ _).alloc (Nat.le_refl _) _)) (fun q hq => hq) ?_ x [.slice ax x.p.length cx, .slice ay x.l.length cy] WN.heap.size rfl ?_ ⟨ax, cx, ay, cy, rfl, HPx.out.agree (Agree.of_below (BN.out.alloc (by have := BN.out.size; omega) _) (fun q hq => hq)), HIx.out.agree (Agree.of_below (BN.out.alloc (by have := BN.out.size; omega) _) (fun q hq => hq))⟩ ?_ ?_ ?_); (have := BN.out.size; simp; omega); exact heap_alloc_new _ _; (unfold maxLen; omega); omega; intro VK WK HRk HGk HTk HLk); have NRk := hid ((NRn.out.below (by have := BN.out.size; exact fun q hq => by omega) ((Below.refl _ _).alloc (Nat.le_refl _) _)).other (β := Nat) (k2 := 0) (fun q hq => hq) (by have := BN.out.size; simp; omega) HGk (fun q hq => (KRn.out.lt q hq).1) (dis_symm DISn.out)); have DISk := hid (dis_symm (dis_push (dis_symm DISn.out) HTk (fun q hq => by have := (NRn.out.lt q hq).2; simp; omega))); have BK := hid (HLk _ (BN.out.alloc (by have := BN.out.size; omega) _))))
                  go_roundw
                  case rel => exact ⟨k + 1, kept ++ [x], named ++ [p], by omega, by go_num, by simp; omega, by simp; omega, hid HRk, NRk, DISk, (fun y hy => by rcases List.mem_append.1 hy with hh | hh; exact HKO.out y hh; rw [List.mem_singleton] at hh; rw [hh]; exact hmx.out), HST, BK⟩
                  case measure => simp [intOf]; omega
                · have hst := jnR_loose (ps := (al.drop (k + 1)).map Fl.p) (kept := kept) (named := named) hfr (by omega) (by rw [hdl, k2])
                  rw [← HJN.out] at hst
                  rw [k1] at F9
                  have F9 := hid F9
                  have HST := hid hst
                  clear hst k1 k2 hpp htl hdl hfr hcl hkl hm
                  go_wp2_with fail
                  refine F9.out.mono ?_
                  rintro e w9 ⟨rfl, hq9⟩
                  have B9 := hid (B8.out.trans (hq9.mono B8.out.size))
                  have KR9 := hid (KR8.out.below (by have := B8.out.size; exact fun q hq => by omega) hq9)
                  have NR9 := hid (NR8.out.below (by have := B8.out.size; exact fun q hq => by omega) hq9)
                  have hz9 := hq9.size
                  clear hq9
                  go_wp2_with (at_builtin; (refine (wpList_push (r := rdPa) (e := 92) (S := (fun q => q < w5.heap.size)) (lo := w5.heap.size) rfl _ _ _ rfl i0 _ 24 Tryz.underlying45 hi0 hz0 hz1 hz2 rfl (by omega) rfl (NR9.out.below (by have := B9.out.size; exact fun q hq => by omega) ((Below.refl _ _).alloc (Nat.le_refl _) _)) (fun q hq => hq) ?_ p [.slice ap p.length cp] w9.heap.size rfl ?_ ⟨ap, cp, rfl, HP.out.agree (Agree.of_below (B9.out.alloc (by have := B9.out.size; omega) _) (fun q hq => hq))⟩ ?_ ?_ ?_); (have := B9.out.size; simp; omega); exact heap_alloc_new _ _; (unfold maxLen; omega); omega; intro VN WN HRn HGn HTn HLn); have KRn := hid ((KR9.out.below (by have := B9.out.size; exact fun q hq => by omega) ((Below.refl _ _).alloc (Nat.le_refl _) _)).other (β := Nat) (k2 := 0) (fun q hq => hq) (by have := B9.out.size; simp; omega) HGn (fun q hq => (NR9.out.lt q hq).1) DIS.out); have DISn := hid (dis_push DIS.out HTn (fun q hq => by have := (KR9.out.lt q hq).2; simp; omega)); have BN := hid (HLn _ (B9.out.alloc (by have := B9.out.size; omega) _)))
                  go_roundw
                  case rel => exact ⟨k + 1, kept, named ++ [p], by omega, by go_num, by omega, by simp; omega, KRn, hid HRn, DISn, HKO.out, HST, BN⟩
                  case measure => simp [intOf]; omega
              · obtain rfl : m = 0 := by omega
                have hst := jnR_keep (ps := (al.drop (k + 1)).map Fl.p) (kept := kept) (named := named) hfr (by omega)
                rw [← HJN.out, hcl] at hst
                try simp only [if_true, Bool.false_eq_true, if_false] at hst
                have HST := hid hst
                have v4 : ¬ (1 : Int) < (p.length : Int) := by omega
                clear hst hdl hfr hcl hm
                have X08 := below_cell B8.out GX.out X0.out
                have X18 := below_cell B8.out GX.out X1.out
                go_wp2_with (at_builtin; first
                  | ((refine (wpList_push (r := rdPa) (e := 92) (S := (fun q => q < w5.heap.size)) (lo := w5.heap.size) rfl _ _ _ rfl i0 _ 24 Tryz.underlying45 hi0 hz0 hz1 hz2 rfl (by omega) rfl (NR8.out.below (by have := B8.out.size; exact fun q hq => by omega) ((Below.refl _ _).alloc (Nat.le_refl _) _)) (fun q hq => hq) ?_ p [.slice ap p.length cp] w8.heap.size rfl ?_ ⟨ap, cp, rfl, HP.out.agree (Agree.of_below (B8.out.alloc (by have := B8.out.size; omega) _) (fun q hq => hq))⟩ ?_ ?_ ?_); (have := B8.out.size; simp; omega); exact heap_alloc_new _ _; (unfold maxLen; omega); omega; intro VN WN HRn HGn HTn HLn); have KRn := hid ((KR8.out.below (by have := B8.out.size; exact fun q hq => by omega) ((Below.refl _ _).alloc (Nat.le_refl _) _)).other (β := Nat) (k2 := 0) (fun q hq => hq) (by have := B8.out.size; simp; omega) HGn (fun q hq => (NR8.out.lt q hq).1) DIS.out); have DISn := hid (dis_push DIS.out HTn (fun q hq => by have := (KR8.out.lt q hq).2; simp; omega)); have BN := hid (HLn _ (B8.out.alloc (by have := B8.out.size; omega) _)); have NRn := hid HRn; have y0 := below_cell BN.out GX.out X0.out; have y1 := below_cell BN.out GX.out X1.out; clear HRn HGn HTn HLn)
                  | ((refine (wpList_push (r := rdFl) (e := 159) (S := (fun q => q < w5.heap.size)) (lo := w5.heap.size) rfl _ _ _ rfl j0 _ 48 Tryz.underlying38 hj0 hy0 hy1 hy2 rfl (by omega) rfl (KRn.out.below (by have := BN.out.size; exact fun q hq => by omega) ((Below.refl _ _).alloc (Nat.le_refl _) _)) (fun q hq => hq) ?_ x [.slice ax x.p.length cx, .slice ay x.l.length cy] WN.heap.size rfl ?_ ⟨ax, cx, ay, cy, rfl, HPx.out.agree (Agree.of_below (BN.out.alloc (by have := BN.out.size; omega) _) (fun q hq => hq)), HIx.out.agree (Agree.of_below (BN.out.alloc (by have := BN.out.size; omega) _) (fun q hq => hq))⟩ ?_ ?_ ?_); (have := BN.out.size; simp; omega); exact heap_alloc_new _ _; (unfold maxLen; omega); omega; intro VK WK HRk HGk HTk HLk); have NRk := hid ((NRn.out.below (by have := BN.out.size; exact fun q hq => by omega) ((Below.refl _ _).alloc (Nat.le_refl _) _)).other (β := Nat) (k2 := 0) (fun q hq => hq) (by have := BN.out.size; simp; omega) HGk (fun q hq => (KRn.out.lt q hq).1) (dis_symm DISn.out)); have DISk := hid (dis_symm (dis_push (dis_symm DISn.out) HTk (fun q hq => by have := (NRn.out.lt q hq).2; simp; omega))); have BK := hid (HLk _ (BN.out.alloc (by have := BN.out.size; omega) _))))
                go_roundw
                case rel => exact ⟨k + 1, kept ++ [x], named ++ [p], by omega, by go_num, by simp; omega, by simp; omega, hid HRk, NRk, DISk, (fun y hy => by rcases List.mem_append.1 hy with hh | hh; exact HKO.out y hh; rw [List.mem_singleton] at hh; rw [hh]; exact hmx.out), HST, BK⟩
                case measure => simp [intOf]; omega
            · rw [f1] at FF
              rw [f2] at hfr
              have hst := jnR_none (ps := (al.drop (k + 1)).map Fl.p) (kept := kept) (named := named) hfr
              rw [← HJN.out, hcl] at hst
              try simp only [if_true, Bool.false_eq_true, if_false] at hst
              have HST := hid hst
              clear hst f1 f2 hfr hcl
              go_wp2_with fail
              refine FF.out.mono ?_
              rintro e w8 ⟨rfl, hq8⟩
              have hz8 := hq8.size
              have B8 := hid (B4.out.trans (hq8.mono B4.out.size))
              have KR8 := hid (KR4.out.below (by have := B4.out.size; exact fun q hq => by omega) hq8)
              have NR8 := hid (NR4.out.below (by have := B4.out.size; exact fun q hq => by omega) hq8)
              clear hq8
              go_wp2_with (at_builtin; (refine (wpList_push (r := rdPa) (e := 92) (S := (fun q => q < w5.heap.size)) (lo := w5.heap.size) rfl _ _ _ rfl i0 _ 24 Tryz.underlying45 hi0 hz0 hz1 hz2 rfl (by omega) rfl (NR8.out.below (by have := B8.out.size; exact fun q hq => by omega) ((Below.refl _ _).alloc (Nat.le_refl _) _)) (fun q hq => hq) ?_ p [.slice ap p.length cp] w8.heap.size rfl ?_ ⟨ap, cp, rfl, HP.out.agree (Agree.of_below (B8.out.alloc (by have := B8.out.size; omega) _) (fun q hq => hq))⟩ ?_ ?_ ?_); (have := B8.out.size; simp; omega); exact heap_alloc_new _ _; (unfold maxLen; omega); omega; intro VN WN HRn HGn HTn HLn); have KRn := hid ((KR8.out.below (by have := B8.out.size; exact fun q hq => by omega) ((Below.refl _ _).alloc (Nat.le_refl _) _)).other (β := Nat) (k2 := 0) (fun q hq => hq) (by have := B8.out.size; simp; omega) HGn (fun q hq => (NR8.out.lt q hq).1) DIS.out); have DISn := hid (dis_push DIS.out HTn (fun q hq => by have := (KR8.out.lt q hq).2; simp; omega)); have BN := hid (HLn _ (B8.out.alloc (by have := B8.out.size; omega) _)))
              go_roundw
              case rel => exact ⟨k + 1, kept, named ++ [p], by omega, by go_num, by omega, by simp; omega, KRn, hid HRn, DISn, HKO.out, HST, BN⟩
              case measure => simp [intOf]; omega
    · have hlt' : ¬ (k : Int) < (al.length : Int) := by omega
      obtain rfl : k = al.length := by omega
      have hj := HJ.out
      rw [List.drop_length, ← HALQ.out] at hj
      have hj1 : jnK o a b = (kept, named) := hj
      obtain ⟨an, cn, hvn, _, _⟩ := NR.out.shape
      subst hvn
      have HJ1 := hid hj1
      clear hj hj1
      by_cases h60 : 60 < kept.length
      · have h60' : (60 : Int) < (kept.length : Int) := by omega
        have hE : rjE o a b = 2 := by rw [rjE, HJ1.out, if_pos h60]
        have hY : rjY o a b = .nil := by rw [rjY, HJ1.out, if_pos h60]
        have hP : rjP o a b = [] := by rw [rjP, HJ1.out, if_pos h60]
        have HE := hid hE
        have HY := hid hY
        have HP := hid hP
        clear hE hY hP
        go_wp2_with fail
        refine bodyPost_ret (v := .tuple #[.slice none 0 0, .slice none 0 0, .int .i64 2]) (by simp [results, Tryz.results31, go_sem]) rfl ?_
        rw [HE.out, HY.out, HP.out]
        exact ⟨none, 0, none, 0, rfl, ⟨[], ⟨rfl, none, 0, rfl, Nat.le_refl _, by simp [maxLen], fun _ => rfl, .inl rfl⟩, rfl⟩, ⟨[], ⟨rfl, none, 0, rfl, Nat.le_refl _, by simp [maxLen], fun _ => rfl, .inl rfl⟩, rfl⟩, B5.out.trans (hB.out.mono B5.out.size)⟩
      · have h60' : ¬ (60 : Int) < (kept.length : Int) := by omega
        have hE : rjE o a b = 0 := by rw [rjE, HJ1.out, if_neg h60]
        have hY : rjY o a b = treR 4 kept [] := by rw [rjY, HJ1.out, if_neg h60]
        have hP : rjP o a b = named := by rw [rjP, HJ1.out, if_neg h60]
        have HE := hid hE
        have HY := hid hY
        have HP := hid hP
        have hzw := hB.out.size
        have hkx : ∀ q ∈ kept, q.p.length ≤ 900 ∧ q.l.length ≤ 900 := fun q hq => ⟨by have := (FOUR.out q (HKO.out q hq)).1; omega, NUM.out q (HKO.out q hq)⟩
        have TT := Tree_all kept ak ck (by omega) hkx 4 [] none 0 (by simp) (fun q hq => by have := (FOUR.out q (HKO.out q hq)).1; simpa using this) (fun q => q < wr.heap.size) wr ((KR.out.lsl).wide fun q hq => by
          rcases hq with hq | hq
          · exact Nat.lt_of_lt_of_le hq hzw
          · exact hq.2) ⟨rfl, none, 0, rfl, Nat.le_refl _, by simp [maxLen], fun _ => rfl, .inl rfl⟩ (fun q hq => hq)
        have TT := hid TT
        have hnl := hid ((NR.out.lsl).wide (S' := fun q => q < wr.heap.size) fun q hq => by
          rcases hq with hq | hq
          · exact Nat.lt_of_lt_of_le hq hzw
          · exact hq.2)
        clear hE hY hP hkx
        go_wp2_with fail
        refine TT.out.mono ?_
        rintro e w6 ⟨at_, ct, rfl, hF6, hb6⟩
        go_wp2_with fail
        refine bodyPost_ret (v := .tuple #[.slice at_ (treR 4 kept []).len ct, .slice an named.length cn, .int .i64 0]) (by simp [results, Tryz.results31, go_sem]) rfl ?_
        rw [HE.out, HY.out, HP.out]
        exact ⟨at_, ct, an, cn, rfl, hF6.wide (fun q hq => hq.2), hnl.out.on hb6, (B5.out.trans (hB.out.mono B5.out.size)).trans (hb6.mono (by have := B5.out.size; omega))⟩
end Go.Proofs.LF
namespace Go.Proofs.LF
theorem treF_smc : ∀ (m d : Nat) (l : List Fl), l.length ≤ m → l.length ≤ 1000 → (∀ x ∈ l, (∀ k ∈ x.p, k.n.length ≤ 1000) ∧ x.l.length ≤ 1000) → (treF d l).1.Sm ∧ (treF d l).1.len ≤ l.length
  | _, d, [], _, _, _ => by rw [treF_nil]; exact ⟨trivial, Nat.zero_le _⟩
  | 0, _, _ :: _, h, _, _ => by simp at h
  | m + 1, d, x :: l, h, h2, h3 => by
    by_cases hx : x.p.length = d + 1
    · rw [treF_yes hx]
      simp only [List.length_cons] at h h2
      obtain ⟨a1, a2⟩ := treF_smc m (d + 1) l (by omega) (by omega) fun y hy => h3 y (by simp [hy])
      obtain ⟨b1, b2⟩ := treF_smc m d (l.drop (treF (d + 1) l).2) (by rw [List.length_drop]; omega) (by rw [List.length_drop]; omega) fun y hy => h3 y (by simp [List.mem_of_mem_drop hy])
      have h4 := h3 x (by simp)
      rw [List.length_drop] at b2
      refine ⟨⟨h4.1 _ (List.getElem_mem _), h4.2, by omega, a1, b1⟩, ?_⟩
      simp only [Fo.len, List.length_cons]
      omega
    · rw [treF_no hx]; exact ⟨trivial, Nat.zero_le _⟩
theorem firE_cpE (x y z : Fo) : firE [chkY x, chkY y, chkY z] = cpE [x, y, z] := rfl
theorem jnR_len {o a b : List Fl} : ∀ (ps : List (List Ky)) (kept : List Fl) (named : List (List Ky)), (jnR o a b ps kept named).2.length ≤ named.length + ps.length ∧ (∀ p ∈ (jnR o a b ps kept named).2, p ∈ named ∨ p ∈ ps)
  | [], kept, named => ⟨by simp [jnR], fun p hp => .inl hp⟩
  | p :: ps, kept, named => by
    rw [jnR]
    split
    · obtain ⟨h1, h2⟩ := jnR_len (o := o) (a := a) (b := b) ps kept (if clB o a b p then named ++ [p] else named)
      refine ⟨?_, fun q hq => ?_⟩
      · split at h1 <;> simp at h1 ⊢ <;> split <;> simp_all <;> omega
      · rcases h2 q hq with h | h
        · split at h
          · rcases List.mem_append.1 h with h | h
            · exact .inl h
            · exact .inr (by simp at h; simp [h])
          · exact .inl h
        · exact .inr (by simp [h])
    · split
      · obtain ⟨h1, h2⟩ := jnR_len (o := o) (a := a) (b := b) ps kept (named ++ [p])
        refine ⟨by simp at h1 ⊢; omega, fun q hq => ?_⟩
        rcases h2 q hq with h | h
        · rcases List.mem_append.1 h with h | h
          · exact .inl h
          · exact .inr (by simp at h; simp [h])
        · exact .inr (by simp [h])
      · rename_i x _ _
        obtain ⟨h1, h2⟩ := jnR_len (o := o) (a := a) (b := b) ps (kept ++ [x]) (if clB o a b p then named ++ [p] else named)
        refine ⟨?_, fun q hq => ?_⟩
        · split at h1 <;> simp at h1 ⊢ <;> split <;> simp_all <;> omega
        · rcases h2 q hq with h | h
          · split at h
            · rcases List.mem_append.1 h with h | h
              · exact .inl h
              · exact .inr (by simp at h; simp [h])
            · exact .inl h
          · exact .inr (by simp [h])
theorem pths3_len {o a b : List Fl} (h1 : o.length ≤ 60) (h2 : a.length ≤ 60) (h3 : b.length ≤ 60) : (pthsF [o, a, b]).length ≤ 180 := by
  have := pths_len (ls := [o, a, b])
  simp at this; omega
theorem copies_law {x y z : Fo} (kx : chkY x = 0) (ky : chkY y = 0) (kz : chkY z = 0) :
    rjE (flsL [] x) (flsL [] y) (flsL [] z) = joE x y z ∧ rjY (flsL [] x) (flsL [] y) (flsL [] z) = joY x y z ∧ rjP (flsL [] x) (flsL [] y) (flsL [] z) = joP x y z ∧ alL (flsL [] x) (flsL [] y) (flsL [] z) = alP x y z ∧
    (joY x y z).Sm ∧ (joY x y z).len ≤ 1000 ∧ (joP x y z).length ≤ 1000 ∧ (∀ p ∈ joP x y z, p.length ≤ 1000) ∧ (alP x y z).length ≤ 1000 ∧ ∀ p ∈ alP x y z, p.length ≤ 1000 := by
  have hcp : cpE [x, y, z] = 0 := by simp [cpE, kx, ky, kz]
  obtain ⟨ox, px, lx⟩ := fls_ok kx
  obtain ⟨oy, py, ly⟩ := fls_ok ky
  obtain ⟨oz, pz, lz⟩ := fls_ok kz
  have gx := fls_good kx
  have gy := fls_good ky
  have gz := fls_good kz
  have nx : ∀ q ∈ flsL [] x, q.p ≠ [] := fun q hq => flsL_ne q hq
  have ny : ∀ q ∈ flsL [] y, q.p ≠ [] := fun q hq => flsL_ne q hq
  have nz : ∀ q ∈ flsL [] z, q.p ≠ [] := fun q hq => flsL_ne q hq
  have fx := fls4 kx
  have fy := fls4 ky
  have fz := fls4 kz
  have cx := fls_kok x []
  have cy := fls_kok y []
  have cz := fls_kok z []
  have sx := fls_srt kx
  have sy := fls_srt ky
  have sz := fls_srt kz
  have hjo : joF x y z = ((lsF [] [] (jnF (flsL [] x) (flsL [] y) (flsL [] z) [] [] (pthsF [flsL [] x, flsL [] y, flsL [] z])).1).1, srtP (cnF (jnF (flsL [] x) (flsL [] y) (flsL [] z) [] [] (pthsF [flsL [] x, flsL [] y, flsL [] z])).2 (lsF [] [] (jnF (flsL [] x) (flsL [] y) (flsL [] z) [] [] (pthsF [flsL [] x, flsL [] y, flsL [] z])).1).2)) := rfl
  have hE : joE x y z = if 60 < (joF x y z).1.length then 2 else 0 := by rw [joE, if_neg (by simp [hcp])]
  have hY : joY x y z = if joE x y z = 0 then (treF 0 (joF x y z).1).1 else .nil := rfl
  have hP : joP x y z = if joE x y z = 0 then (joF x y z).2 else [] := rfl
  have hA : alP x y z = (pthsF [flsL [] x, flsL [] y, flsL [] z]).filter (alF (flsL [] x) (flsL [] y) (flsL [] z)) := by rw [alP, if_pos hcp]
  rw [hA, hY, hP, hE]
  generalize joF x y z = J at *
  generalize flsL [] x = o at *
  generalize flsL [] y = a at *
  generalize flsL [] z = b at *
  clear hE hY hP hA hcp
  have hg : ∀ l ∈ [o, a, b], ∀ q ∈ l, GoodP q.p ∧ q.p ≠ [] := fun l hl q hq => by
    simp only [List.mem_cons, List.not_mem_nil, or_false] at hl
    rcases hl with rfl | rfl | rfl
    · exact ⟨gx q hq, nx q hq⟩
    · exact ⟨gy q hq, ny q hq⟩
    · exact ⟨gz q hq, nz q hq⟩
  have hun := pths_un (o := o) (a := a) (b := b) sx (fun l hl q hq => (hg l hl q hq).1)
  obtain ⟨j1, j2, j3, j4⟩ := join_eq sx sy sz hg
  rw [← hjo] at j1
  have hK : jnK o a b = J := by rw [jnK, alU, hun]; exact j1
  have hJ1 : (lsF [] [] (jnF o a b [] [] (pthsF [o, a, b])).1).1 = J.1 := by rw [hjo]
  rw [hJ1] at j2 j3 j4
  have hpl := pths3_len lx ly lz
  have hpm : ∀ p ∈ pthsF [o, a, b], p.length ≤ 1000 := fun p hp => by
    obtain ⟨u, hu, rfl⟩ := pths_mem hp
    simp only [List.flatten_cons, List.flatten_nil, List.append_nil, List.mem_append] at hu
    rcases hu with hu | hu | hu
    · exact (px u hu).1
    · exact (py u hu).1
    · exact (pz u hu).1
  have hjl := jnR_len (o := o) (a := a) (b := b) (pthsF [o, a, b]) [] []
  rw [j1] at hjl
  have hsm : ∀ q ∈ J.1, (∀ k ∈ q.p, k.n.length ≤ 1000) ∧ q.l.length ≤ 1000 := fun q hq => by
    rcases j4 q hq with h | h | h
    · exact ⟨(ox q h).2.2, (ox q h).2.1⟩
    · exact ⟨(oy q h).2.2, (oy q h).2.1⟩
    · exact ⟨(oz q h).2.2, (oz q h).2.1⟩
  have htr : treR 4 J.1 [] = (treF 0 J.1).1 := treR_treF j2 j3 (fun q hq => by
    rcases j4 q hq with h | h | h
    · exact cx q h
    · exact cy q h
    · exact cz q h) (fun q hq => by
    rcases j4 q hq with h | h | h
    · exact fx q h
    · exact fy q h
    · exact fz q h)
  have hal : alL o a b = (pthsF [o, a, b]).filter (alF o a b) := by
    rw [alL, alU, hun]
    congr 1
    funext p
    rw [alR, alF, smF_eqR sy sz, smF_eqR sx sy]
  unfold rjE rjY rjP
  rw [hK, hal]
  by_cases h60 : 60 < J.1.length
  · simp only [h60, if_true]
    refine ⟨trivial, by rw [if_neg (by decide)], by rw [if_neg (by decide)], trivial, ?_, ?_, ?_, ?_, ?_, ?_⟩
    · rw [if_neg (by decide)]; trivial
    · rw [if_neg (by decide)]; exact Nat.zero_le _
    · rw [if_neg (by decide)]; exact Nat.zero_le _
    · rw [if_neg (by decide)]; intro p hp; cases hp
    · have := List.length_filter_le (alF o a b) (pthsF [o, a, b]); omega
    · exact fun p hp => hpm p (List.mem_filter.1 hp).1
  · simp only [h60, if_false, if_true]
    obtain ⟨t1, t2⟩ := treF_smc J.1.length 0 J.1 (Nat.le_refl _) (by omega) hsm
    refine ⟨trivial, htr, trivial, trivial, t1, by omega, ?_, ?_, ?_, ?_⟩
    · have := hjl.1; simp at this; omega
    · intro p hp
      rcases hjl.2 p hp with h | h
      · cases h
      · exact hpm p h
    · have := List.length_filter_le (alF o a b) (pthsF [o, a, b]); omega
    · exact fun p hp => hpm p (List.mem_filter.1 hp).1
end Go.Proofs.LF
