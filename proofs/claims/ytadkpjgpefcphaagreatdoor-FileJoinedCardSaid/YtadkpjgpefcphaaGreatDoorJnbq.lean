/- Parts of the proof of a law of layer 11 (file): LfW76, LfW77, LfJo, LfW78. The conditions stand in each theorem. -/
import Derived.BigQuiet
import Derived.Deep.AppendLies
import Derived.Deep.Cut
import Derived.Deep.CutBlock
import Derived.Deep.CutRange
import Derived.Deep.QuietTactic
import Derived.Deep.RegionHeld3
import Derived.Laws.ResultCell
import Derived.Outline
import Derived.Test.YtadkpjgpefcphaaGreatDoorProg
import Derived.WalkKit
import Derived.WalkLawsBesides
import Derived.WalkSpells
import Derived.Test.YtadkpjgpefcphaaGreatDoorJnaf
import Derived.Test.YtadkpjgpefcphaaGreatDoorJnah
import Derived.Test.YtadkpjgpefcphaaGreatDoorJnav
import Derived.Test.YtadkpjgpefcphaaGreatDoorJnbk
import Derived.Test.YtadkpjgpefcphaaGreatDoorJnbm
import Derived.Test.YtadkpjgpefcphaaGreatDoorJnbp
set_option linter.all false
set_option linter.unusedVariables false
set_option linter.unusedSimpArgs false
namespace Go.Proofs.LF
open Go.RowKit Go.Sort
set_option maxHeartbeats 4000000
set_option maxRecDepth 100000
attribute [local go_sem] bs_toList bs_size bs_get
theorem Tryz.info66' : (Tryz.prog.info? 66).map (fun i => (i.zero, i.size, i.bytes)) = some (some (.slice none 0 0), 1, 24) := by kernel_rfl
def evP (up : List Ky) (y : Fo) : List (List Ky) := (flsL up y).map Fl.p
def evN (up : List Ky) (y : Fo) : List (List Int) := (flsL up y).map Fl.l
theorem evP_length (up : List Ky) (y : Fo) : (evP up y).length = y.cnt := by rw [evP, List.length_map, flsL_length]
theorem evN_length (up : List Ky) (y : Fo) : (evN up y).length = y.cnt := by rw [evN, List.length_map, flsL_length]
theorem flsL_take {up : List Ky} {k : Nat} {y r s : Fo} {n : List UInt8} {l : List Int} (h : y.drop k = .cons n l s r) : flsL up (y.take (k + 1)) = flsL up (y.take k) ++ (⟨up ++ [kyOf n l], l⟩ :: flsL (up ++ [kyOf n l]) s) := by
  rw [flsL, nodesL_take h, List.map_append]; rfl
theorem evP_take {up : List Ky} {k : Nat} {y r s : Fo} {n : List UInt8} {l : List Int} (h : y.drop k = .cons n l s r) : evP up (y.take (k + 1)) = (evP up (y.take k) ++ [up ++ [kyOf n l]]) ++ evP (up ++ [kyOf n l]) s := by
  rw [evP, flsL_take h]; simp [evP]
theorem evN_take {up : List Ky} {k : Nat} {y r s : Fo} {n : List UInt8} {l : List Int} (h : y.drop k = .cons n l s r) : evN up (y.take (k + 1)) = (evN up (y.take k) ++ [l]) ++ evN (up ++ [kyOf n l]) s := by
  rw [evN, flsL_take h]; simp [evN]
theorem cnt_take {k : Nat} {y r s : Fo} {n : List UInt8} {l : List Int} (h : y.drop k = .cons n l s r) : (y.take (k + 1)).cnt = (y.take k).cnt + 1 + s.cnt := by
  have := congrArg List.length (evN_take (up := []) h)
  simp only [evN_length, List.length_append, List.length_cons, List.length_nil] at this
  omega
theorem all_all (m : Nat) : ∀ (y : Fo) (up : List Ky) (a : Option Addr) (c : Nat) (ua : Option Addr) (uc : Nat) (S U : Nat → Prop) (w : World), y.cnt < m → FSl S w (.slice a y.len c) y → Pth U w (.slice ua up.length uc) up → (∀ b, S b → b < w.heap.size) → (∀ b, U b → b < w.heap.size) → y.len ≤ 1000 → y.Sm → up.length + y.cnt ≤ 900 →
    Calls Tryz.prog 43 #[.slice a y.len c, .slice ua up.length uc] w fun e w' => ∃ a1 c1 a2 c2, e = .returned (.tuple #[.slice a1 y.cnt c1, .slice a2 y.cnt c2]) ∧ TwoR S w.heap.size w' (.slice a1 y.cnt c1) (.slice a2 y.cnt c2) (evP up y) (evN up y) ∧ Below w.heap.size w w' := by
  induction m with
  | zero => intro y _ _ _ _ _ _ _ _ h; omega
  | succ m ih =>
  intro y up a c ua uc S U w hcnt hv hup hS hU hlen hsm hdep
  obtain ⟨_, _, he, hc, hm, hat⟩ := hv.at
  cases he
  obtain ⟨i0, hi0, p0, p1, p2⟩ := info_parts Tryz.info65'
  obtain ⟨j0, hj0, hy0, hy1, hy2⟩ := info_parts Tryz.info66'
  obtain ⟨k0, hk0, hx0, hx1, hx2⟩ := info_parts Tryz.info71'
  have IH := hid ih
  clear ih
  unfold maxLen at hm
  go_enter Tryz.func43, Tryz.ntmps43
  go_wp2_with fail
  go_loopw [6, 7, 16] (fun v u i wr => ∃ k : Nat, k ≤ y.len ∧ i = .int .i64 k ∧ TwoR S w.heap.size wr v u (evP up (y.take k)) (evN up (y.take k)) ∧ Below w.heap.size w wr) (fun _ _ i _ => y.len - (intOf i).toNat)
  case atStart => exact ⟨0, by omega, rfl, TwoR.nil _ _ _, Below.refl _ _⟩
  case round =>
    obtain ⟨k, hk, rfl, ⟨T, cs, es, hX⟩, hB⟩ := hrel
    obtain ⟨vp, rfl⟩ : ∃ v, v = u6 := ⟨_, rfl⟩
    obtain ⟨vn, rfl⟩ : ∃ v, v = u7 := ⟨_, rfl⟩
    by_cases hlt : k < y.len
    · obtain ⟨g, o, n, l, s, r, an, cn, ab, cb, rfl, hg1, hd, hc0, hc1, hc2, hI, hF⟩ := hat k hlt
      have ha : Agree S w wr := Agree.of_below hB hS
      have c0 := ha.cell hg1 hc0
      have c1 := ha.cell hg1 hc1
      have c2 := ha.cell hg1 hc2
      obtain ⟨s1, s2, s3, s4, _⟩ : n.length ≤ 1000 ∧ l.length ≤ 1000 ∧ s.len ≤ 1000 ∧ s.Sm ∧ r.Sm := by have := hsm.drop (i := k); rwa [hd] at this
      have s5 := Fo.cnt_at hd
      have HD := hid hd
      have hsz := hB.size
      clear hc0 hc1 hc2 hat hd
      have hnone := fun e : ua = none => (SlC.caps hup).2.2 e
      go_wp2_with fail
      have HNB := hid (heap_alloc_new wr (.cells #[.string (bs n), .slice an l.length cn, .slice ab s.len cb] 85))
      have BA := hid ((Below.refl wr.heap.size wr).alloc (Nat.le_refl _) (.cells #[.string (bs n), .slice an l.length cn, .slice ab s.len cb] 85))
      refine (kOf_any n l an cn S _ (hI.agree (Agree.of_below (hB.trans (BA.out.mono hsz)) hS)) (fun b h => by have := hS b h; simp; omega)).mono ?_
      rintro e w1 ⟨rfl, hb1⟩
      have hz1 := hb1.size
      simp only [World.size_alloc] at hz1
      have HB1 := hid (BA.out.trans (hb1.mono (by simp)))
      have n1 := hid (below_cell hb1 (by simp) (cells_get HNB.out (k := 1) (v := .slice an l.length cn) rfl))
      have n2 := hid (below_cell hb1 (by simp) (cells_get HNB.out (k := 2) (v := .slice ab s.len cb) rfl))
      clear hb1
      have hlu := len_keys up
      go_wp2_with fail
      go_region_held3 (fun w' => w'.cell? ⟨w1.heap.size, 0, none⟩ = some (.string (bs (kyOf n l).n)) ∧ w'.cell? ⟨w1.heap.size, 1, none⟩ = some (.bool (kyOf n l).h) ∧ w'.cell? ⟨w1.heap.size, 2, none⟩ = some (.int .i64 (kyOf n l).x))
        (first
          | go_keep
          | (go_split_ands; exact ⟨below_cell hb2 (by simp <;> omega) (by assumption), below_cell hb2 (by simp <;> omega) (by assumption), below_cell hb2 (by simp <;> omega) (by assumption)⟩)
          | (go_split_ands; exact ⟨grown_cell hgrow3 hne3 (by assumption), grown_cell hgrow3 hne3 (by assumption), grown_cell hgrow3 hne3 (by assumption)⟩))
        (first
          | (go_at_call 50
             refine (dupK_own up ua uc U _ (hup.agree (Agree.of_below (B := w.heap.size) ?_ hU)) ?_ (by omega)).mono ?_
             (first | exact (((hB.trans (HB1.out.mono hsz)).alloc (by omega) _).alloc (by simp; omega) _).drew | exact ((hB.trans (HB1.out.mono hsz)).alloc (by omega) _).drew)
             (intro b hb; have := hU b hb; simp; omega)
             rintro e w2 ⟨a2, c2, rfl, hown2', hb2⟩
             have hb02 : Below w1.heap.size w1 w2 := by
               first
                 | exact (((Below.refl _ _).alloc (Nat.le_refl _) _).alloc (by simp) _).drew.trans (hb2.mono (by simp; omega))
                 | exact ((Below.refl _ _).alloc (Nat.le_refl _) _).drew.trans (hb2.mono (by simp))
             have hown2 := owns_base (base' := w1.heap.size + 1) hown2' (fun b hb => by have := (hown2'.lt b hb).1; simp at this; omega)
             clear hown2')
          | (refine step_append_ao _ (by rfl) _ _ _ (by rfl) (w1.heap.size + 1) 71 k0 _ 3 32 Tryz.underlying65 hk0 hx0 hx1 hx2 rfl (by omega) (.slice a2 up.length c2) up.length (up.flatMap Ky.cells) (by rfl) hown2 (some ⟨w1.heap.size + 1, 0, none⟩) 1 1 [.string (bs (kyOf n l).n), .bool (kyOf n l).h, .int .i64 (kyOf n l).x] (by rfl) (by rfl) (fun h => by cases h) (fun ad had => by cases had; exact World.news_of_block (cs := #[.string (bs (kyOf n l).n), .bool (kyOf n l).h, .int .i64 (kyOf n l).x]) (t := 71) (fr := (0, 0)) ((hb2.block _ (by simp)).trans (by have h := heap_alloc_new (w1.alloc (.cells #[.string (bs (kyOf n l).n), .bool (kyOf n l).h, .int .i64 (kyOf n l).x] 71)) (.cells #[.string (bs (kyOf n l).n), .bool (kyOf n l).h, .int .i64 (kyOf n l).x] 71); rwa [World.size_alloc] at h))) (by simp [Value.oneCell']) (by unfold maxLen; omega) (by omega) (by have := hb2.size; simp at this; omega) ?_
             intro a3 c3 w3 hown3 hgrow3 hat3
             have hne3 : (Value.slice a2 up.length c2).ownBlock ≠ some w1.heap.size := fun e => by have := (hown2.lt w1.heap.size e).1; omega
             have hb3 : Below w1.heap.size w1 w3 := hb02.grown hgrow3 hb02.size (fun b hb => by have := (hown2.lt b hb).1; omega))
          | (refine step_append_ao _ (by rfl) _ _ _ (by rfl) (w1.heap.size + 1) 71 k0 _ 3 32 Tryz.underlying65 hk0 hx0 hx1 hx2 rfl (by omega) (.slice a2 up.length c2) up.length (up.flatMap Ky.cells) (by rfl) (hown2.alloc _) (some ⟨w2.heap.size, 0, none⟩) 1 1 [.string (bs (kyOf n l).n), .bool (kyOf n l).h, .int .i64 (kyOf n l).x] (by rfl) (by rfl) (fun h => by cases h) (fun ad had => by cases had; exact World.news_of_block (cs := #[.string (bs (kyOf n l).n), .bool (kyOf n l).h, .int .i64 (kyOf n l).x]) (t := 71) (fr := (0, 0)) (heap_alloc_new _ _)) (by simp [Value.oneCell']) (by unfold maxLen; omega) (by omega) (by have := hb2.size; simp at this; simp; omega) ?_
             intro a3 c3 w3 hown3 hgrow3 hat3
             have hne3 : (Value.slice a2 up.length c2).ownBlock ≠ some w1.heap.size := fun e => by have := (hown2.lt w1.heap.size e).1; omega
             have hb3 : Below w1.heap.size w1 w3 := (hb02.alloc hb02.size _).grown hgrow3 (by have := hb02.size; simp; omega) (fun b hb => by have := (hown2.lt b hb).1; omega))
          | fail "nothing")
      all_goals
        have hkp : (up ++ [kyOf n l]).length = up.length + 1 := by simp
        have HP3 : Hid (Pth (Rg w1.heap.size w3.heap.size) w3 (.slice a3 (up.length + 1) c3) (up ++ [kyOf n l])) := by
          have h := (SlC.of_owns hown3).wide (S' := Rg w1.heap.size w3.heap.size) (fun b hb => ⟨by have := hb.1; omega, hb.2⟩)
          unfold Hid Pth
          rw [hkp, show (up ++ [kyOf n l]).flatMap Ky.cells = up.flatMap Ky.cells ++ [.string (bs (kyOf n l).n), .bool (kyOf n l).h, .int .i64 (kyOf n l).x] by simp [Ky.cells]]
          exact h
        have HL3 : Hid (LCs rdPa (Rg w1.heap.size w3.heap.size) w3 [up ++ [kyOf n l]] [.slice a3 (up.length + 1) c3]) := LCs.single ⟨a3, c3, by rw [hkp], by rw [hkp]; exact HP3.out⟩
        have HB3 := hid (HB1.out.trans (hb3.mono (by omega)))
        have hz3 := hb3.size
        have n13 := hid (below_cell hb3 (by omega) n1.out)
        have n23 := hid (below_cell hb3 (by omega) n2.out)
        have hne4 := owns_ne hX.1 (Nat.le_refl wr.heap.size)
        have hne5 := owns_ne hX.2.2.1 (Nat.le_refl wr.heap.size)
        have X3 := hid (hX.below (fun b hb => by have := hS b hb; omega) HB3.out)
        have HT3 : Hid (∀ b, Rg w1.heap.size w3.heap.size b → w.heap.size ≤ b ∧ b < w3.heap.size ∧ vp.ownBlock ≠ some b ∧ vn.ownBlock ≠ some b) := fun b hb => ⟨by have := hb.1; omega, hb.2, fun e => by have := (hX.1.lt b e).2; have := hb.1; omega, fun e => by have := (hX.2.2.1.lt b e).2; have := hb.1; omega⟩
        have hl1 := evP_length up (y.take k)
        have hl2 := evN_length up (y.take k)
        have hct := cnt_take HD.out
        have hcl : (y.take (k + 1)).cnt ≤ y.cnt := by
          have h1 := (nodesL_pre (up := up) (k := k + 1) (y := y)).length_le
          rwa [nodesL_length, nodesL_length] at h1
        have B3w := hid (hB.trans (HB3.out.mono hsz))
        have BX := hid ((Below.refl w3.heap.size w3).alloc (Nat.le_refl _) (.cells #[.slice a3 (up.length + 1) c3] 65))
        have BY := hid ((Below.refl w3.heap.size w3).alloc (Nat.le_refl _) (.cells #[.slice an l.length cn] 66))
        have BXY := hid (BX.out.alloc (by simp) (.cells #[.slice an l.length cn] 66))
        have BYX := hid (BY.out.alloc (by simp) (.cells #[.slice a3 (up.length + 1) c3] 65))
        have NX := hid (heap_alloc_new w3 (.cells #[.slice a3 (up.length + 1) c3] 65))
        have NXY := hid ((heap_alloc_old (w3.alloc (.cells #[.slice a3 (up.length + 1) c3] 65)) (.cells #[.slice an l.length cn] 66) (r := w3.heap.size) (by simp)).trans NX.out)
        have NYX : Hid (((w3.alloc (.cells #[.slice an l.length cn] 66)).alloc (.cells #[.slice a3 (up.length + 1) c3] 65)).heap[w3.heap.size + 1]? = some (.cells #[.slice a3 (up.length + 1) c3] 65 (0, 0))) := by
          have h := heap_alloc_new (w3.alloc (.cells #[.slice an l.length cn] 66)) (.cells #[.slice a3 (up.length + 1) c3] 65)
          rwa [World.size_alloc] at h
        have MX : Hid (((w3.alloc (.cells #[.slice a3 (up.length + 1) c3] 65)).alloc (.cells #[.slice an l.length cn] 66)).heap[w3.heap.size + 1]? = some (.cells #[.slice an l.length cn] 66 (0, 0))) := by
          have h := heap_alloc_new (w3.alloc (.cells #[.slice a3 (up.length + 1) c3] 65)) (.cells #[.slice an l.length cn] 66)
          rwa [World.size_alloc] at h
        have MY : Hid (((w3.alloc (.cells #[.slice an l.length cn] 66)).alloc (.cells #[.slice a3 (up.length + 1) c3] 65)).heap[w3.heap.size]? = some (.cells #[.slice an l.length cn] 66 (0, 0))) := (heap_alloc_old (w3.alloc (.cells #[.slice an l.length cn] 66)) (.cells #[.slice a3 (up.length + 1) c3] 65) (r := w3.heap.size) (by simp)).trans (heap_alloc_new _ _)
        clear hown2 hb2 hb02 hown3 hgrow3 hat3 hne3 hb3 n1 n2
        have HX := hid hX
        clear hX
        have n1 := n13.out
        go_wp2_with fail
        go_region_held3 (fun w' => w'.cell? ⟨wr.heap.size, 1, none⟩ = some (.slice an l.length cn))
          (first
            | go_keep
            | exact grown_cell hgrow4 hne4 (by assumption)
            | exact grown_cell hgrow5 hne5 (by assumption))
          (first
            | (refine step_append_ao _ (by rfl) _ _ _ (by rfl) w.heap.size 65 i0 _ 1 24 Tryz.underlying49 hi0 p0 p1 p2 rfl (by omega) vp (evP up (y.take k)).length cs (by rfl) (owns_below X3.out.1 (by repeat' first | exact Below.refl _ _ | refine Below.alloc ?_ (by simp) _ | apply Below.drew) (Nat.le_refl _)) (some ⟨w3.heap.size, 0, none⟩) 1 1 [.slice a3 (up.length + 1) c3] (by rfl) (by rfl) (fun h => by cases h) (fun ad had => by cases had; exact World.news_of_block (cs := #[.slice a3 (up.length + 1) c3]) (t := 65) (fr := (0, 0)) NX.out) (by simp [Value.oneCell']) (by unfold maxLen; omega) (by omega) (by simp <;> omega) ?_
               intro a4 c4 w4 hown4 hgrow4 hat4
               obtain ⟨X4, K4, B4⟩ := two_app1 X3.out hS (by omega) (by repeat' first | exact Below.refl _ _ | refine Below.alloc ?_ (by simp) _ | apply Below.drew) HL3.out HT3.out rfl hown4 hgrow4 hat4
               have HL4 : LCs rdIs S w4 [l] [.slice an l.length cn] := LCs.single ⟨an, cn, rfl, hI.agree (Agree.of_below (B3w.out.trans B4) hS)⟩)
            | (refine step_append_ao _ (by rfl) _ _ _ (by rfl) w.heap.size 65 i0 _ 1 24 Tryz.underlying49 hi0 p0 p1 p2 rfl (by omega) vp (evP up (y.take k)).length cs (by rfl) (owns_below X3.out.1 (by repeat' first | exact Below.refl _ _ | refine Below.alloc ?_ (by simp) _ | apply Below.drew) (Nat.le_refl _)) (some ⟨w3.heap.size, 0, none⟩) 1 1 [.slice a3 (up.length + 1) c3] (by rfl) (by rfl) (fun h => by cases h) (fun ad had => by cases had; exact World.news_of_block (cs := #[.slice a3 (up.length + 1) c3]) (t := 65) (fr := (0, 0)) NXY.out) (by simp [Value.oneCell']) (by unfold maxLen; omega) (by omega) (by simp <;> omega) ?_
               intro a4 c4 w4 hown4 hgrow4 hat4
               obtain ⟨X4, K4, B4⟩ := two_app1 X3.out hS (by omega) (by repeat' first | exact Below.refl _ _ | refine Below.alloc ?_ (by simp) _ | apply Below.drew) HL3.out HT3.out rfl hown4 hgrow4 hat4
               have HL4 : LCs rdIs S w4 [l] [.slice an l.length cn] := LCs.single ⟨an, cn, rfl, hI.agree (Agree.of_below (B3w.out.trans B4) hS)⟩)
            | (refine step_append_ao _ (by rfl) _ _ _ (by rfl) w.heap.size 65 i0 _ 1 24 Tryz.underlying49 hi0 p0 p1 p2 rfl (by omega) vp (evP up (y.take k)).length cs (by rfl) (owns_below X3.out.1 (by repeat' first | exact Below.refl _ _ | refine Below.alloc ?_ (by simp) _ | apply Below.drew) (Nat.le_refl _)) (some ⟨w3.heap.size + 1, 0, none⟩) 1 1 [.slice a3 (up.length + 1) c3] (by rfl) (by rfl) (fun h => by cases h) (fun ad had => by cases had; exact World.news_of_block (cs := #[.slice a3 (up.length + 1) c3]) (t := 65) (fr := (0, 0)) NYX.out) (by simp [Value.oneCell']) (by unfold maxLen; omega) (by omega) (by simp <;> omega) ?_
               intro a4 c4 w4 hown4 hgrow4 hat4
               obtain ⟨X4, K4, B4⟩ := two_app1 X3.out hS (by omega) (by repeat' first | exact Below.refl _ _ | refine Below.alloc ?_ (by simp) _ | apply Below.drew) HL3.out HT3.out rfl hown4 hgrow4 hat4
               have HL4 : LCs rdIs S w4 [l] [.slice an l.length cn] := LCs.single ⟨an, cn, rfl, hI.agree (Agree.of_below (B3w.out.trans B4) hS)⟩)
            | (refine step_append_ao _ (by rfl) _ _ _ (by rfl) w.heap.size 66 j0 _ 1 24 Tryz.underlying72 hj0 hy0 hy1 hy2 rfl (by omega) vn (evN up (y.take k)).length es (by rfl) (X4.2.2.1.alloc _) (some ⟨w4.heap.size, 0, none⟩) 1 1 [.slice an l.length cn] (by rfl) (by rfl) (fun h => by cases h) (fun ad had => by cases had; exact World.news_of_block (cs := #[.slice an l.length cn]) (t := 66) (fr := (0, 0)) (heap_alloc_new _ _)) (by simp [Value.oneCell']) (by unfold maxLen; omega) (by omega) (by have := B4.size; have := hgrow4.size; simp at this; simp <;> omega) ?_
               intro a5 c5 w5 hown5 hgrow5 hat5
               obtain ⟨X5, K5, B5⟩ := two_app2 X4 hS (by have := hgrow4.size; simp at this; omega) ((Below.refl _ _).alloc (Nat.le_refl _) _) HL4 rfl hown5 hgrow5 hat5)
            | (refine step_append_ao _ (by rfl) _ _ _ (by rfl) w.heap.size 66 j0 _ 1 24 Tryz.underlying72 hj0 hy0 hy1 hy2 rfl (by omega) vn (evN up (y.take k)).length es (by rfl) (X4.2.2.1) (some ⟨w3.heap.size + 1, 0, none⟩) 1 1 [.slice an l.length cn] (by rfl) (by rfl) (fun h => by cases h) (fun ad had => by cases had; exact World.news_of_block (cs := #[.slice an l.length cn]) (t := 66) (fr := (0, 0)) ((hgrow4.block _ (by simp <;> omega) (fun e => by have := (X3.out.1.lt _ e.symm).2; omega)).trans MX.out)) (by simp [Value.oneCell']) (by unfold maxLen; omega) (by omega) (by have := B4.size; have := hgrow4.size; simp at this; simp <;> omega) ?_
               intro a5 c5 w5 hown5 hgrow5 hat5
               obtain ⟨X5, K5, B5⟩ := two_app2 X4 hS (by have := hgrow4.size; simp at this; omega) (Below.refl _ _) HL4 rfl hown5 hgrow5 hat5)
            | (refine step_append_ao _ (by rfl) _ _ _ (by rfl) w.heap.size 66 j0 _ 1 24 Tryz.underlying72 hj0 hy0 hy1 hy2 rfl (by omega) vn (evN up (y.take k)).length es (by rfl) (X4.2.2.1) (some ⟨w3.heap.size, 0, none⟩) 1 1 [.slice an l.length cn] (by rfl) (by rfl) (fun h => by cases h) (fun ad had => by cases had; exact World.news_of_block (cs := #[.slice an l.length cn]) (t := 66) (fr := (0, 0)) ((hgrow4.block _ (by simp <;> omega) (fun e => by have := (X3.out.1.lt _ e.symm).2; omega)).trans MY.out)) (by simp [Value.oneCell']) (by unfold maxLen; omega) (by omega) (by have := B4.size; have := hgrow4.size; simp at this; simp <;> omega) ?_
               intro a5 c5 w5 hown5 hgrow5 hat5
               obtain ⟨X5, K5, B5⟩ := two_app2 X4 hS (by have := hgrow4.size; simp at this; omega) (Below.refl _ _) HL4 rfl hown5 hgrow5 hat5)
            | fail "nothing")
        all_goals
          have hne4' := hid hne4
          have hne5' := hid hne5
          have hz4 := B4.size
          have hz5 := B5.size
          have AG : Hid (∀ b, b < w3.heap.size → vp.ownBlock ≠ some b → vn.ownBlock ≠ some b → w5.heap[b]? = w3.heap[b]?) := fun b hb h1 h2 => (K5 b (by omega) h2).trans (K4 b hb h1)
          have Bw5 := hid (B3w.out.trans (B4.trans B5))
          have hw13 : w.heap.size ≤ w1.heap.size := by omega
          have P5 : Hid (Pth (Rg w1.heap.size w3.heap.size) w5 (.slice a3 (up.length + 1) c3) (up ++ [kyOf n l])) := HP3.out.agree fun b hb => AG.out b hb.2 (HT3.out b hb).2.2.1 (HT3.out b hb).2.2.2
          have n2 : w5.cell? ⟨wr.heap.size, 2, none⟩ = some (.slice ab s.len cb) := Agree.cell (S := (· = wr.heap.size)) (fun b hb => AG.out b (by omega) (by rw [hb]; exact hne4) (by rw [hb]; exact hne5)) rfl n23.out
          have hcall := IH.out s (up ++ [kyOf n l]) ab cb a3 c3 S (Rg w1.heap.size w3.heap.size) w5 (by omega) (hF.agree (Agree.of_below Bw5.out hS)) (by rw [hkp]; exact P5.out) (fun b hb => by have := hS b hb; omega) (fun b hb => by have := hb.2; omega) s3 s4 (by rw [hkp]; omega)
          rw [hkp] at hcall
          have HC := hid hcall
          rw [hl1, hl2] at X5
          have X5 := hid X5
          have hv5 : Hid (∀ b, (Value.slice a4 ((y.take k).cnt + 1) c4).ownBlock = some b → b < w5.heap.size) := fun b hb => (X5.out.1.lt b hb).2
          have hu5 : Hid (∀ b, (Value.slice a5 ((y.take k).cnt + 1) c5).ownBlock = some b → b < w5.heap.size) := fun b hb => (X5.out.2.2.1.lt b hb).2
          clear hcall hown4 hgrow4 hat4 hown5 hgrow5 hat5 X4 K4 K5 B4 B5 hne4 hne5 HL4
          go_wp2_with fail
          refine HC.out.mono ?_
          rintro e w6 ⟨a6, c6, a7, c7, rfl, ⟨T2, cs2, es2, Y6⟩, hb6⟩
          have hl6 := evP_length (up ++ [kyOf n l]) s
          have hl7 := evN_length (up ++ [kyOf n l]) s
          have y1 := Y6.1
          have y3 := Y6.2.2.1
          rw [hl6] at y1
          rw [hl7] at y3
          have s1 := SlC.of_owns y1
          have s3' := SlC.of_owns y3
          have hcap6 := fun h => (SlC.caps s1).2.2 h
          have hcap7 := fun h => (SlC.caps s3').2.2 h
          have X6 := hid (X5.out.below (fun b hb => by have := hS b hb; omega) hb6)
          have hz6 := hb6.size
          have n61 := SlC.news s1 Agree.refl
          have hx1 := X6.out.1
          rw [List.length_append, hl1] at hx1
          have HB6 := hid hb6
          have Y6 := hid Y6
          have hT2 : ∀ b, T2 b → w.heap.size ≤ b ∧ b < w6.heap.size ∧ (Value.slice a4 ((y.take k).cnt + 1) c4).ownBlock ≠ some b ∧ (Value.slice a5 ((y.take k).cnt + 1) c5).ownBlock ≠ some b := fun b hb => by
            have h1 := (Y6.out.2.2.2.2.1 b hb).1
            exact ⟨by omega, (Y6.out.2.2.2.2.1 b hb).2.1, fun e => by have := hv5.out b e; omega, fun e => by have := hu5.out b e; omega⟩
          have key2 : ∀ (a8 : Option Addr) (c8 : Nat) (w7 : World), w7.ownsRow w.heap.size 65 1 (.slice a8 ((y.take k).cnt + 1 + s.cnt) c8) ((y.take k).cnt + 1 + s.cnt) ((cs ++ [.slice a3 (up.length + 1) c3]) ++ cs2) → w6.grownBy w7 (Value.slice a4 ((y.take k).cnt + 1) c4).ownBlock → (∀ g, (Value.slice a8 ((y.take k).cnt + 1 + s.cnt) c8).ownBlock = some g → (Value.slice a4 ((y.take k).cnt + 1) c4).ownBlock = some g ∨ g = w6.heap.size) →
              ∃ T3, TwoX T3 S w.heap.size w7 (.slice a8 ((y.take k).cnt + 1 + s.cnt) c8) (.slice a5 ((y.take k).cnt + 1) c5) ((evP up (y.take k) ++ [up ++ [kyOf n l]]) ++ evP (up ++ [kyOf n l]) s) (evN up (y.take k) ++ [l]) ((cs ++ [.slice a3 (up.length + 1) c3]) ++ cs2) (es ++ [.slice an l.length cn]) ∧ LCs rdIs S w7 (evN (up ++ [kyOf n l]) s) es2 ∧ (∀ ad, a7 = some ad → ∀ (j : Nat) (u : Value), es2[j]? = some u → w7.cell? (ad.add j) = some u) ∧ Below w.heap.size w6 w7 := by
            intro a8 c8 w7 hown8 hgrow8 hat8
            obtain ⟨x1, x2, x3⟩ := two_app1 X6.out hS (by omega) (Below.refl _ _) Y6.out.2.1 hT2 (by rw [List.length_append, hl1, hl6]; rfl) hown8 hgrow8 hat8
            exact ⟨_, x1, Y6.out.2.2.2.1.agree (Agree.of_below x3 hS), SlC.news s3' (fun b hb => x2 b hb.2 (fun e => by have := hv5.out b e; have := hb.1; omega)), x3⟩
          have KEY2 := hid key2
          clear key2 n2
          go_wp2_with (first
            | (at_builtin; (refine (wpList_append_ao _ rfl _ _ _ rfl w.heap.size 65 i0 _ 1 24 Tryz.underlying49 hi0 p0 p1 p2 rfl (by omega) _ ((y.take k).cnt + 1) _ rfl hx1 a6 s.cnt c6 cs2 rfl (by have := y1.1; omega) hcap6 n61 (LCs.one Y6.out.2.1) (by unfold maxLen; omega) (by omega) (by omega) ?_)); intro a8 c8 w7 hown8 hgrow8 hat8; obtain ⟨T3, X7, L7, n7, B7⟩ := KEY2.out a8 c8 w7 hown8 hgrow8 hat8; have hx7 := X7.2.2.1; rw [List.length_append, hl2] at hx7; have hz7 := B7.size)
            | (at_builtin; (refine (wpList_append_ao _ rfl _ _ _ rfl w.heap.size 66 j0 _ 1 24 Tryz.underlying72 hj0 hy0 hy1 hy2 rfl (by omega) _ ((y.take k).cnt + 1) _ rfl hx7 a7 s.cnt c7 es2 rfl (by have := y3.1; omega) hcap7 n7 (LCs.one L7) (by unfold maxLen; omega) (by omega) (by omega) ?_)); intro a9 c9 w8 hown9 hgrow9 hat9; obtain ⟨X8, _, B8⟩ := two_app2 X7 hS (by omega) (Below.refl _ _) L7 (by rw [List.length_append, hl2, hl7]; rfl) hown9 hgrow9 hat9)
            | fail "no append")
          go_roundw
          case rel => exact ⟨k + 1, by omega, by go_num, by rw [evP_take HD.out, evN_take HD.out]; exact X8.two, Bw5.out.trans ((HB6.out.mono (by omega)).trans (B7.trans B8))⟩
          case measure => simp [intOf]; omega
    · obtain rfl : k = y.len := by omega
      rw [Fo.take_len] at hX
      obtain ⟨a1, c1, h1, _, _⟩ := (SlC.of_owns hX.1).shape
      obtain ⟨a2, c2, h2, _, _⟩ := (SlC.of_owns hX.2.2.1).shape
      rw [evP_length] at h1
      rw [evN_length] at h2
      subst h1
      subst h2
      go_wp2_with fail
      exact bodyPost_ret (v := .tuple #[.slice a1 y.cnt c1, .slice a2 y.cnt c2]) (by simp [results, Tryz.results43, go_sem]) rfl ⟨a1, c1, a2, c2, rfl, hX.two, hB⟩
end Go.Proofs.LF
namespace Go.Proofs.LF
open Go.RowKit Go.Sort
set_option maxHeartbeats 4000000
set_option maxRecDepth 100000
attribute [local go_sem] bs_toList bs_size bs_get
def nsAt (y : Fo) (r : List Ky) : List Int := ((rfd (flsL [] y) r).map Fl.l).getD []
def isAt (y : Fo) (r : List Ky) : Bool := (rfd (flsL [] y) r).isSome
theorem idx_rfd (L : List Fl) (r : List Ky) {n : Nat} (hn : n = L.length) : (idxN (fun i => decide ((L.map Fl.p).getD i [] = r)) n = -1 ∧ rfd L r = none) ∨ ∃ (k : Nat) (hk : k < L.length), idxN (fun i => decide ((L.map Fl.p).getD i [] = r)) n = k ∧ rfd L r = some L[k] := by
  subst hn
  cases h : rfd L r with
  | none =>
    left
    refine ⟨idxN_none fun i hi => ?_, rfl⟩
    rw [rfd, List.find?_eq_none] at h
    have := h L[i] (List.getElem_mem hi)
    simpa [List.getD_eq_getElem?_getD, hi] using this
  | some x =>
    right
    rw [rfd, List.find?_eq_some_iff_getElem] at h
    obtain ⟨h1, i, hi, h2, h3⟩ := h
    refine ⟨i, hi, idxN_found (fun j hj => ?_) hi ?_, by rw [h2]⟩
    · have := h3 j hj
      simpa [List.getD_eq_getElem?_getD, show j < L.length by omega] using this
    · have := h1
      rw [← h2] at this
      simpa [List.getD_eq_getElem?_getD, hi] using this
theorem path_length_le {up : List Ky} {y : Fo} {p : List Ky} (h : p ∈ evP up y) : p.length ≤ up.length + y.cnt := by
  have key : ∀ (y : Fo) (up : List Ky), ∀ x ∈ flsL up y, x.p.length ≤ up.length + y.cnt := by
    intro y
    induction y with
    | nil => intro up x hx; cases hx
    | cons n l s r ihs ihr =>
      intro up x hx
      rw [flsL_cons, List.mem_cons, List.mem_append] at hx
      simp only [Fo.cnt]
      rcases hx with rfl | hx | hx
      · simp; omega
      · have := ihs _ x hx; simp at this; omega
      · have := ihr _ x hx; omega
  rw [evP, List.mem_map] at h
  obtain ⟨x, hx, rfl⟩ := h
  exact key y up x hx
theorem atY_any (y : Fo) (q : List Ky) (a aq : Option Addr) (c cq : Nat) (S T : Nat → Prop) (w : World) (hv : FSl S w (.slice a y.len c) y) (hq : Pth T w (.slice aq q.length cq) q) (hS : ∀ b, S b → b < w.heap.size) (hT : ∀ b, T b → b < w.heap.size) (hlen : y.len ≤ 1000) (hsm : y.Sm) (hcnt : y.cnt ≤ 900) (lq : q.length ≤ 1000) :
    Calls Tryz.prog 44 #[.slice a y.len c, .slice aq q.length cq] w fun e w' => ∃ a1 c1, e = .returned (.tuple #[.slice a1 (nsAt y q).length c1, .bool (isAt y q)]) ∧ Ints S w' (.slice a1 (nsAt y q).length c1) (nsAt y q) ∧ Below w.heap.size w w' := by
  have hnil : Pth (fun _ => False) (w.alloc (.cells #[.slice aq q.length cq] 65)) (.slice none ([] : List Ky).length 0) [] := ⟨rfl, none, 0, rfl, Nat.le_refl _, by simp [maxLen], fun _ => rfl, .inl rfl⟩
  have BA := (Below.refl w.heap.size w).alloc (Nat.le_refl _) (.cells #[.slice aq q.length cq] 65)
  have ALL := hid (all_all (y.cnt + 1) y [] a c none 0 S (fun _ => False) (w.alloc (.cells #[.slice aq q.length cq] 65)) (Nat.lt_succ_self _) (hv.agree (Agree.of_below BA hS)) hnil (fun b hb => by have := hS b hb; simp; omega) (fun _ h => h.elim) hlen hsm (by simp; omega))
  have hcell := hid (cells_get (heap_alloc_new w (.cells #[.slice aq q.length cq] 65)) (k := 0) (v := .slice aq q.length cq) rfl)
  have BA := hid BA
  have HQ := hid hq
  clear hq hnil hv
  go_enter Tryz.func44, Tryz.ntmps44
  go_wp2_with fail
  refine ALL.out.mono ?_
  rintro e w1 ⟨a1, c1, a2, c2, rfl, ⟨T1, cs, es, X⟩, hb1⟩
  have B1 := hid (BA.out.trans (hb1.mono (by simp)))
  have hz1 := hb1.size
  simp only [World.size_alloc] at hz1
  have hpl := evP_length [] y
  have hnl := evN_length [] y
  have hpas := X.pas
  have hc1 := below_cell hb1 (by simp) hcell.out
  have IDX := idxK_any (evP [] y) q a1 aq c1 cq w.heap.size (Rg w.heap.size w1.heap.size) T w1 (by rw [hpl]; exact hpas.wide fun b hb => ⟨by have := hb.1; simp at this; omega, hb.2⟩) (fun b hb => hb.2) (HQ.out.agree (Agree.of_below B1.out hT)) (fun b hb => by have := hT b hb; omega) (by omega) hc1 (by omega) (fun p hp => by have := path_length_le hp; simp at this; omega) lq
  rw [hpl] at IDX
  have hrf := idx_rfd (flsL [] y) q (n := y.cnt) (flsL_length [] y).symm
  obtain ⟨ix, hix⟩ : ∃ ix, idxN (fun i => decide ((evP [] y).getD i [] = q)) y.cnt = ix := ⟨_, rfl⟩
  rw [hix] at IDX
  have hrf' : (ix = -1 ∧ rfd (flsL [] y) q = none) ∨ ∃ (k : Nat) (hk : k < (flsL [] y).length), ix = k ∧ rfd (flsL [] y) q = some (flsL [] y)[k] := by rw [← hix]; exact hrf
  have HRF := hid hrf'
  clear hrf hrf' hix
  have IDX := hid IDX
  have X := hid X
  have HB1 := hid hb1
  clear hb1 hpas hc1
  go_wp2_with fail
  refine IDX.out.mono ?_
  rintro e w2 ⟨rfl, hb2⟩
  have B2 := hid (B1.out.trans (hb2.mono (by omega)))
  rcases HRF.out with ⟨h1, h2⟩ | ⟨k, hk, h1, h2⟩
  · subst h1
    have H2 := hid h2
    clear h2 HRF
    go_wp2_with fail
    have e1 : nsAt y q = [] := by rw [nsAt, H2.out]; rfl
    have e2 : isAt y q = false := by rw [isAt, H2.out]; rfl
    rw [e1, e2]
    exact bodyPost_ret (v := .tuple #[.slice none 0 0, .bool false]) (by simp [results, Tryz.results44, go_sem]) rfl ⟨none, 0, rfl, ⟨rfl, none, 0, rfl, Nat.le_refl _, by simp [maxLen], fun _ => rfl, .inl rfl⟩, B2.out⟩
  · subst h1
    have H2 := hid h2
    clear h2 HRF
    have e1 : nsAt y q = (flsL [] y)[k].l := by rw [nsAt, H2.out]; rfl
    have e2 : isAt y q = true := by rw [isAt, H2.out]; rfl
    obtain ⟨hx1, hx2, hx3, hx4, hx5, hx6⟩ := X.out
    have hkn : k < (evN [] y).length := by rw [hnl]; rwa [flsL_length] at hk
    have hls : LSl rdIs (fun b => S b ∨ Rg w.heap.size w1.heap.size b) w1 (.slice a2 y.cnt c2) (evN [] y) := ⟨es, (SlC.of_owns hx3).wide fun b hb => .inr ⟨by have := hb.1; simp at this; omega, hb.2⟩, hx4.wide fun b hb => .inl hb⟩
    obtain ⟨a3, c3, he3, hle3, hm3, hat3⟩ := hls.at
    rw [hnl] at he3
    cases he3
    obtain ⟨g, o, cv, rfl, hg, ⟨a4, c4, rfl, hI⟩, hcl⟩ := hat3 k hkn
    have hgl : g < w1.heap.size := by
      rcases hg with hg | hg
      · have := hS g hg; omega
      · exact hg.2
    have hnk : (evN [] y)[k] = (flsL [] y)[k].l := by simp [evN]
    rw [hnk] at hcl hI
    have hd0 : w2.cell? ⟨g, o + k, none⟩ = some (.slice a4 (flsL [] y)[k].l.length c4) := below_cell hb2 hgl (by have := hcl 0 _ rfl; simpa using this)
    have hI4 : Ints S w1 (.slice a4 (flsL [] y)[k].l.length c4) (flsL [] y)[k].l := by
      have hlc := hx4.drop (i := k)
      rw [List.drop_eq_getElem_cons hkn] at hlc
      obtain ⟨cc, ee, hee, ⟨a5, c5, rfl, h5⟩, _⟩ := hlc
      have := hcl 0 _ rfl
      have e0 : es[k]? = some (.slice a5 (evN [] y)[k].length c5) := by
        have := congrArg (fun l => l[0]?) hee
        simpa [List.getElem?_drop] using this
      have e1 : w1.cell? ⟨g, o + k, none⟩ = some (.slice a5 (evN [] y)[k].length c5) := by
        rw [hnl] at hx3
        obtain ⟨g', o', he', _, _, _, hcc⟩ := (SlC.of_owns hx3).cells (by rw [hnl] at hkn; omega)
        cases he'
        exact hcc k _ e0
      have e2 : w1.cell? ⟨g, o + k, none⟩ = some (.slice a4 (flsL [] y)[k].l.length c4) := by simpa using this
      rw [e2] at e1
      simp only [hnk] at e1 h5
      injection e1 with e1
      injection e1 with e1 _ e3
      rw [e1, e3]
      exact h5
    have HI := hid (hI4.agree (Agree.of_below hb2 fun b hb => by have := hS b hb; omega))
    obtain ⟨N, hN⟩ : ∃ N, (flsL [] y)[k].l = N := ⟨_, rfl⟩
    rw [hN] at hd0 HI e1
    have hk' : k < y.cnt := by rwa [flsL_length] at hk
    clear hcl hx1 hx2 hx3 hx4 hx5 hx6 hls hat3 hI hI4 hnk hkn IDX
    go_wp2_with fail
    rw [e1, e2]
    exact bodyPost_ret (v := .tuple #[.slice a4 N.length c4, .bool true]) (by simp [results, Tryz.results44, go_sem]) rfl ⟨a4, c4, rfl, HI.out, B2.out⟩
end Go.Proofs.LF
namespace Go.Proofs.LF
open Go.RowKit Go.Sort
theorem rfd_none_of {l : List Fl} {p : List Ky} (h : ∀ x ∈ l, x.p ≠ p) : rfd l p = none := by
  rw [rfd, List.find?_eq_none]
  intro x hx
  simpa using h x hx
theorem cmpP_ne {a b : List Ky} (h : cmpP a b < 0) : a ≠ b := fun e => by rw [e, cmpP_ord.refl] at h; omega
theorem cmpP_dropLast : ∀ {p : List Ky}, p ≠ [] → cmpP p.dropLast p < 0
  | [], h => absurd rfl h
  | [a], _ => by simp [cmpP]
  | a :: b :: p, _ => by
    have h := cmpP_dropLast (p := b :: p) (by simp)
    have e : byK a a = 0 := byK_ord.refl a
    rw [List.dropLast_cons_of_ne_nil (by simp), cmpP, if_neg (by simp [e])]
    exact h
theorem jnR_at {o a b : List Fl} : ∀ (ps : List (List Ky)) (kept : List Fl) (named : List (List Ky)), SrtP ps → (∀ x ∈ kept, ∀ p ∈ ps, cmpP x.p p < 0) → (∀ q ∈ named, ∀ p ∈ ps, q ≠ p) → ∀ r,
    (r ∈ ps → r ∉ (jnR o a b ps kept named).2 → rfd (jnR o a b ps kept named).1 r = frR o a b r ∧ clB o a b r = false) ∧
    (r ∈ ps → r ∈ (jnR o a b ps kept named).2 → ∀ x, rfd (jnR o a b ps kept named).1 r = some x → clB o a b r = true ∧ frR o a b r = some x) ∧
    (r ∉ ps → rfd (jnR o a b ps kept named).1 r = rfd kept r ∧ (r ∈ (jnR o a b ps kept named).2 ↔ r ∈ named))
  | [], kept, named, _, _, _, r => ⟨(fun h => by cases h), (fun h => by cases h), fun _ => ⟨rfl, Iff.rfl⟩⟩
  | p :: ps, kept, named, hs, hk, hn, r => by
    obtain ⟨s1, s2⟩ := List.pairwise_cons.1 hs
    have hk' : ∀ x ∈ kept, ∀ q ∈ ps, cmpP x.p q < 0 := fun x hx q hq => hk x hx q (by simp [hq])
    have hpn : p ∉ ps := fun h => cmpP_ne (s1 p h) rfl
    have hnp : p ∉ named := fun h => hn p h p (by simp) rfl
    have hkp : rfd kept p = none := rfd_none_of fun x hx => cmpP_ne (hk x hx p (by simp))
    have hn1 : ∀ q ∈ named ++ [p], ∀ p' ∈ ps, q ≠ p' := fun q hq p' hp' => by
      rcases List.mem_append.1 hq with h | h
      · exact hn q h p' (by simp [hp'])
      · simp only [List.mem_singleton] at h; rw [h]; exact fun e => hpn (e ▸ hp')
    have hn2 : ∀ q ∈ (if clB o a b p then named ++ [p] else named), ∀ p' ∈ ps, q ≠ p' := fun q hq p' hp' => by
      split at hq
      · exact hn1 q hq p' hp'
      · exact hn q hq p' (by simp [hp'])
    have hmem : (p ∈ (if clB o a b p then named ++ [p] else named)) ↔ clB o a b p = true := by
      split
      · rename_i h; simp [h]
      · rename_i h; simp [h, hnp]
    have hmem2 : r ≠ p → ((r ∈ (if clB o a b p then named ++ [p] else named)) ↔ r ∈ named) := fun hr => by
      split <;> simp [hr]
    have hmem3 : r ≠ p → ((r ∈ named ++ [p]) ↔ r ∈ named) := fun hr => by simp [hr]
    rw [jnR]
    cases hf : frR o a b p with
    | none =>
      simp only
      have ih := jnR_at (o := o) (a := a) (b := b) ps kept (if clB o a b p then named ++ [p] else named) s2 hk' hn2
      by_cases hr : r = p
      · subst hr
        obtain ⟨e1, e2⟩ := (ih r).2.2 hpn
        rw [e1, e2, hmem, hkp, hf]
        exact ⟨fun _ h => ⟨rfl, by simpa using h⟩, (fun _ _ x h => by cases h), fun h => absurd (by simp) h⟩
      · refine ⟨fun h => (ih r).1 ((List.mem_cons.1 h).resolve_left hr), fun h => (ih r).2.1 ((List.mem_cons.1 h).resolve_left hr), fun h => ?_⟩
        obtain ⟨e1, e2⟩ := (ih r).2.2 (fun h' => h (by simp [h']))
        exact ⟨e1, e2.trans (hmem2 hr)⟩
    | some x =>
      simp only
      have hxp := (frR_p hf).1
      split
      · have ih := jnR_at (o := o) (a := a) (b := b) ps kept (named ++ [p]) s2 hk' hn1
        by_cases hr : r = p
        · subst hr
          obtain ⟨e1, e2⟩ := (ih r).2.2 hpn
          rw [e1, e2, hkp]
          exact ⟨fun _ h => absurd (by simp) h, (fun _ _ x h => by cases h), fun h => absurd (by simp) h⟩
        · refine ⟨fun h => (ih r).1 ((List.mem_cons.1 h).resolve_left hr), fun h => (ih r).2.1 ((List.mem_cons.1 h).resolve_left hr), fun h => ?_⟩
          obtain ⟨e1, e2⟩ := (ih r).2.2 (fun h' => h (by simp [h']))
          exact ⟨e1, e2.trans (hmem3 hr)⟩
      · have hk2 : ∀ z ∈ kept ++ [x], ∀ q ∈ ps, cmpP z.p q < 0 := fun z hz q hq => by
          rcases List.mem_append.1 hz with h | h
          · exact hk' z h q hq
          · simp only [List.mem_singleton] at h; rw [h, hxp]; exact s1 q hq
        have ih := jnR_at (o := o) (a := a) (b := b) ps (kept ++ [x]) (if clB o a b p then named ++ [p] else named) s2 hk2 hn2
        by_cases hr : r = p
        · subst hr
          obtain ⟨e1, e2⟩ := (ih r).2.2 hpn
          have e3 : rfd (kept ++ [x]) r = some x := by
            rw [rfd, List.find?_append]
            rw [show (kept.find? fun x => decide (x.p = r)) = none from hkp]
            simp [hxp]
          rw [e1, e2, hmem, e3, hf]
          exact ⟨fun _ h => ⟨rfl, by simpa using h⟩, fun _ h y hy => ⟨h, by rw [hy]⟩, fun h => absurd (by simp) h⟩
        · refine ⟨fun h => (ih r).1 ((List.mem_cons.1 h).resolve_left hr), fun h => (ih r).2.1 ((List.mem_cons.1 h).resolve_left hr), fun h => ?_⟩
          obtain ⟨e1, e2⟩ := (ih r).2.2 (fun h' => h (by simp [h']))
          refine ⟨e1.trans ?_, e2.trans (hmem2 hr)⟩
          rw [rfd, List.find?_append]
          have hx2 : ¬ x.p = r := fun e => hr (by rw [← e, hxp])
          simp only [List.find?_cons, List.find?_nil, hx2, decide_false]
          rw [rfd]
          cases kept.find? (fun x => decide (x.p = r)) <;> rfl
theorem filtM_self {a : List Fl} (ha : Srt a) : ∀ {ps : List (List Ky)}, SrtP ps → (∀ x ∈ a, x.p ∈ ps) → ps.filterMap (rfd a) = a := by
  intro ps hp hin
  have h1 : (ps.filterMap (rfd a)).map Fl.p = a.map Fl.p := by
    refine srtP_ext ?_ ha.paths fun q => ?_
    · have : (ps.filterMap (rfd a)).map Fl.p = ps.filter (fun p => (rfd a p).isSome) := by
        clear hin hp
        induction ps with
        | nil => rfl
        | cons p ps ih =>
          rw [List.filterMap_cons, List.filter_cons]
          cases hr : rfd a p with
          | none => simpa using ih
          | some x => simp [ih, (rfd_some hr).2]
      rw [this]
      exact hp.sublist List.filter_sublist
    · rw [List.mem_map, List.mem_map]
      constructor
      · rintro ⟨x, hx, rfl⟩
        obtain ⟨p, _, hp2⟩ := List.mem_filterMap.1 hx
        exact ⟨x, (rfd_some hp2).1, rfl⟩
      · rintro ⟨x, hx, rfl⟩
        have hs : (rfd a x.p).isSome = true := rfd_iff.2 (List.mem_map.2 ⟨x, hx, rfl⟩)
        obtain ⟨z, hz⟩ := Option.isSome_iff_exists.1 hs
        exact ⟨z, List.mem_filterMap.2 ⟨x.p, hin x hx, hz⟩, (rfd_some hz).2⟩
  have h2 : ∀ x ∈ ps.filterMap (rfd a), x ∈ a := fun x hx => by
    obtain ⟨p, _, hp2⟩ := List.mem_filterMap.1 hx
    exact (rfd_some hp2).1
  have hnd := ha.paths.nodup
  have key : ∀ (l : List Fl), l.map Fl.p = a.map Fl.p → (∀ x ∈ l, x ∈ a) → l = a := by
    intro l h1 h2
    have hlen : l.length = a.length := by have := congrArg List.length h1; simpa using this
    refine List.ext_getElem hlen fun i hi hj => ?_
    have e1 : l[i].p = a[i].p := by
      have : (l.map Fl.p)[i]'(by simpa using hi) = (a.map Fl.p)[i]'(by simpa using hj) := by simp only [h1]
      simpa using this
    obtain ⟨j, hj', e2⟩ := List.getElem_of_mem (h2 l[i] (List.getElem_mem hi))
    have e3 : j = i := by
      have h4 : (a.map Fl.p)[j]'(by simpa using hj') = (a.map Fl.p)[i]'(by simpa using hj) := by simp [e2, e1]
      have hp := List.pairwise_iff_getElem.1 hnd
      rcases Nat.lt_trichotomy j i with h | h | h
      · exact absurd h4 (hp j i _ _ h)
      · exact h
      · exact absurd h4.symm (hp i j _ _ h)
    subst e3
    exact e2.symm
  exact key _ h1 h2
theorem lsF_clo {a : List Fl} (ha : Srt a) (hc : Clo a) (hne : ∀ x ∈ a, x.p ≠ []) : ∀ (k r : List Fl), a = k ++ r → lsF k [] r = (a, [])
  | k, [], e => by rw [e]; simp [lsF]
  | k, f :: r, e => by
    have hk : Srt k := by rw [e] at ha; exact (List.pairwise_append.1 ha).1
    rw [lsF, if_pos, lsF_clo ha hc hne (k ++ [f]) r (by rw [e]; simp)]
    by_cases h1 : f.p.length = 1
    · exact .inr h1
    · left
      have hf : f ∈ a := by rw [e]; simp
      have hfp : f.p.dropLast ≠ [] := fun h => by
        have h2 := congrArg List.length h
        rw [List.length_dropLast] at h2
        have h3 : f.p.length ≠ 0 := fun h => hne f hf (List.eq_nil_of_length_eq_zero h)
        simp at h2
        omega
      obtain ⟨z, hz, hzp⟩ := hc f hf hfp
      have hzk : z ∈ k := by
        rw [e] at hz
        rcases List.mem_append.1 hz with h | h
        · exact h
        · exfalso
          have hlt : 0 ≤ cmpP z.p f.p := by
            rcases List.mem_cons.1 h with h | h
            · rw [h, cmpP_ord.refl]; omega
            · have h4 := ha
              rw [e] at h4
              have h5 := (List.pairwise_cons.1 (List.pairwise_append.1 h4).2.1).1 z h
              have := cmpP_ord.flip h5
              omega
          have hlt2 : cmpP z.p f.p < 0 := by
            rw [hzp]
            exact cmpP_dropLast (hne f hf)
          omega
      rw [fnd_rfd hk]
      exact rfd_iff.2 (List.mem_map.2 ⟨z, hzk, hzp⟩)
theorem clo_fls {y : Fo} : Clo (flsL [] y) := fun x hx h => by
  rcases fls_clo y [] x hx with h1 | h1
  · exact absurd h1 h
  · exact h1
theorem join_one {o a b : List Fl} (ho : Srt o) (ha : Srt a) (hb : Srt b) (hc : Clo a) (hg : ∀ l ∈ [o, a, b], ∀ x ∈ l, GoodP x.p ∧ x.p ≠ []) (hcl : ∀ p, clB o a b p = false) (hfr : ∀ p, frR o a b p = rfd a p) :
    (lsF [] [] (jnF o a b [] [] (pthsF [o, a, b])).1).1 = a ∧ srtP (cnF (jnF o a b [] [] (pthsF [o, a, b])).2 (lsF [] [] (jnF o a b [] [] (pthsF [o, a, b])).1).2) = [] := by
  obtain ⟨h5, h6⟩ := pths_spec (fun l hl x hx => (hg l hl x hx).1)
  have hJ : jnF o a b [] [] (pthsF [o, a, b]) = (a, []) := by
    rw [jnF_eq ho ha hb]
    have e1 : (pthsF [o, a, b]).filterMap (frR o a b) = a := by
      rw [show frR o a b = rfd a from funext hfr]
      exact filtM_self ha h5 fun x hx => (h6 x.p).2 ⟨a, by simp, List.mem_map.2 ⟨x, hx, rfl⟩⟩
    have e2 : (pthsF [o, a, b]).filter (clB o a b) = [] := List.filter_eq_nil_iff.2 fun p _ => by simp [hcl p]
    rw [e1, e2]
    rfl
  rw [hJ]
  simp only
  rw [lsF_clo ha hc (fun x hx => (hg a (by simp) x hx).2) [] a rfl]
  exact ⟨rfl, rfl⟩
theorem eqR_self (a : List Fl) (p : List Ky) : eqR a a p = true := by unfold eqR; cases rfd a p <;> simp
theorem joined_one {y a b : Fo} (ky : chkY y = 0) (ka : chkY a = 0) (kb : chkY b = 0) (hcl : ∀ p, clB (flsL [] y) (flsL [] a) (flsL [] b) p = false) (hfr : ∀ p, frR (flsL [] y) (flsL [] a) (flsL [] b) p = rfd (flsL [] a) p) :
    joE y a b = 0 ∧ joY y a b = a ∧ joP y a b = [] := by
  have hcp : cpE [y, a, b] = 0 := by simp [cpE, ky, ka, kb]
  have hg : ∀ l ∈ [flsL [] y, flsL [] a, flsL [] b], ∀ q ∈ l, GoodP q.p ∧ q.p ≠ [] := fun l hl q hq => by
    simp only [List.mem_cons, List.not_mem_nil, or_false] at hl
    rcases hl with rfl | rfl | rfl
    · exact ⟨fls_good ky q hq, flsL_ne q hq⟩
    · exact ⟨fls_good ka q hq, flsL_ne q hq⟩
    · exact ⟨fls_good kb q hq, flsL_ne q hq⟩
  obtain ⟨h1, h2⟩ := join_one (fls_srt ky) (fls_srt ka) (fls_srt kb) clo_fls hg hcl hfr
  have hjo : joF y a b = (flsL [] a, []) := Prod.ext h1 h2
  have hE : joE y a b = 0 := by
    rw [joE, if_neg (by simp [hcp]), hjo, if_neg]
    have := (fls_ok ka).2.2
    simp only
    omega
  refine ⟨hE, ?_, ?_⟩
  · rw [joY, if_pos hE, hjo]; exact treF_flsL a
  · rw [joP, if_pos hE, hjo]
theorem joined_base {y a : Fo} (ky : chkY y = 0) (ka : chkY a = 0) : joE y a y = 0 ∧ joY y a y = a ∧ joP y a y = [] :=
  joined_one ky ka ky (fun p => by simp [clB, eqR_self]) (fun p => by
    rw [frR, if_neg (by simp [clB, eqR_self])]
    split
    · rename_i h; exact rfd_same h
    · rfl)
theorem joined_self {y a : Fo} (ky : chkY y = 0) (ka : chkY a = 0) : joE y a a = 0 ∧ joY y a a = a ∧ joP y a a = [] :=
  joined_one ky ka ka (fun p => by simp [clB, eqR_self]) (fun p => by
    rw [frR, if_neg (by simp [clB, eqR_self])]
    split <;> rfl)
theorem alike_self {y a : Fo} (ky : chkY y = 0) (ka : chkY a = 0) : cpE [y, a, a] = 0 ∧ difE y a = 0 ∧ alP y a a = (difL y a).map Ch.p := by
  have hcp : cpE [y, a, a] = 0 := by simp [cpE, ky, ka]
  have hde : difE y a = 0 := by simp [difE, ky, ka]
  refine ⟨hcp, hde, ?_⟩
  have hg : ∀ l ∈ [flsL [] y, flsL [] a, flsL [] a], ∀ q ∈ l, GoodP q.p := fun l hl q hq => by
    simp only [List.mem_cons, List.not_mem_nil, or_false] at hl
    rcases hl with rfl | rfl | rfl
    · exact fls_good ky q hq
    · exact fls_good ka q hq
    · exact fls_good ka q hq
  have hg2 : ∀ l ∈ [flsL [] y, flsL [] a], ∀ q ∈ l, GoodP q.p := fun l hl q hq => hg l (by simp only [List.mem_cons, List.not_mem_nil, or_false] at hl ⊢; rcases hl with h | h <;> simp [h]) q hq
  obtain ⟨h5, h6⟩ := pths_spec hg
  obtain ⟨g5, g6⟩ := pths_spec hg2
  have hps : pthsF [flsL [] y, flsL [] a, flsL [] a] = pthsF [flsL [] y, flsL [] a] := srtP_ext h5 g5 fun p => by
    rw [h6 p, g6 p]
    simp
  rw [alP, if_pos hcp, difL, if_pos hde, dfF, hps]
  have sy := fls_srt ky
  have sa := fls_srt ka
  generalize pthsF [flsL [] y, flsL [] a] = ps
  induction ps with
  | nil => rfl
  | cons p ps ih =>
    have e1 : alF (flsL [] y) (flsL [] a) (flsL [] a) p = !(smF (flsL [] y) (flsL [] a) p) := by
      simp [alF, smF_eqR sy sa, smF_eqR sa sa, eqR_self]
    rw [List.filter_cons, List.filterMap_cons, e1, chD]
    cases hs : smF (flsL [] y) (flsL [] a) p with
    | true => simpa using ih
    | false => simp [ih]
def EqA (x y : Fo) (r : List Ky) : Prop := isAt x r = isAt y r ∧ nsAt x r = nsAt y r
theorem eqA_iff {x y : Fo} {r : List Ky} : eqR (flsL [] x) (flsL [] y) r = true ↔ EqA x y r := by
  unfold eqR EqA isAt nsAt
  cases rfd (flsL [] x) r <;> cases rfd (flsL [] y) r <;> simp
theorem eqA_of {x y : Fo} {r : List Ky} (h : rfd (flsL [] x) r = rfd (flsL [] y) r) : EqA x y r := by
  unfold EqA isAt nsAt
  rw [h]
  exact ⟨rfl, rfl⟩
theorem joined_two {y a b : Fo} (ky : chkY y = 0) (ka : chkY a = 0) (kb : chkY b = 0) (h : joE y a b = 0) : (joY y a b).cnt ≤ 60 ∧ ∀ r, r ∈ evP [] a ∨ r ∈ evP [] b →
    (EqA y b r → r ∉ joP y a b → EqA (joY y a b) a r) ∧ (EqA y a r → r ∉ joP y a b → EqA (joY y a b) b r) ∧ (r ∈ joP y a b → isAt (joY y a b) r = true → isAt y r = true ∧ nsAt (joY y a b) r = nsAt y r) ∧ (¬ EqA y a r → ¬ EqA y b r → r ∉ joP y a b → EqA a b r) := by
  have hcp : cpE [y, a, b] = 0 := by simp [cpE, ky, ka, kb]
  have hg : ∀ l ∈ [flsL [] y, flsL [] a, flsL [] b], ∀ q ∈ l, GoodP q.p ∧ q.p ≠ [] := fun l hl q hq => by
    simp only [List.mem_cons, List.not_mem_nil, or_false] at hl
    rcases hl with rfl | rfl | rfl
    · exact ⟨fls_good ky q hq, flsL_ne q hq⟩
    · exact ⟨fls_good ka q hq, flsL_ne q hq⟩
    · exact ⟨fls_good kb q hq, flsL_ne q hq⟩
  obtain ⟨h5, h6⟩ := pths_spec (fun l hl x hx => (hg l hl x hx).1)
  obtain ⟨j1, j2, j3, j4⟩ := join_eq (fls_srt ky) (fls_srt ka) (fls_srt kb) hg
  have hjo : joF y a b = jnR (flsL [] y) (flsL [] a) (flsL [] b) (pthsF [flsL [] y, flsL [] a, flsL [] b]) [] [] := j1.symm
  have hK : KOk (joF y a b).1 := fun q hq => by
    rcases j4 q hq with h | h | h
    · exact fls_kok y [] q h
    · exact fls_kok a [] q h
    · exact fls_kok b [] q h
  have hfl : flsL [] (joY y a b) = (joF y a b).1 := by
    rw [joY, if_pos h]
    exact fls_of j2 j3 hK
  have hlen : (joF y a b).1.length ≤ 60 := by
    have h' := h
    rw [joE, if_neg (by simp [hcp])] at h'
    by_cases h60 : 60 < (joF y a b).1.length
    · rw [if_pos h60] at h'; omega
    · omega
  refine ⟨by rw [← flsL_length [], hfl]; exact hlen, fun r hr => ?_⟩
  have hrp : r ∈ pthsF [flsL [] y, flsL [] a, flsL [] b] := (h6 r).2 (by
    rcases hr with hr | hr
    · exact ⟨_, by simp, hr⟩
    · exact ⟨_, by simp, hr⟩)
  have hat := jnR_at (o := flsL [] y) (a := flsL [] a) (b := flsL [] b) (pthsF [flsL [] y, flsL [] a, flsL [] b]) [] [] h5 (fun x hx => by cases hx) (fun x hx => by cases hx) r
  rw [← hjo] at hat
  rw [joP, if_pos h]
  obtain ⟨A1, A2, _⟩ := hat
  rw [← hfl] at A1 A2
  refine ⟨fun e1 hn => ?_, fun e1 hn => ?_, fun hn hi => ?_, fun e1 e2 hn => ?_⟩
  · obtain ⟨k1, k2⟩ := A1 hrp hn
    refine eqA_of (k1.trans ?_)
    have e1' := eqA_iff.2 e1
    rw [frR, k2, if_neg (by simp)]
    split
    · rename_i h2; exact (rfd_same e1').symm.trans (rfd_same h2)
    · rfl
  · obtain ⟨k1, k2⟩ := A1 hrp hn
    refine eqA_of (k1.trans ?_)
    rw [frR, k2, if_neg (by simp), if_pos (eqA_iff.2 e1)]
  · obtain ⟨x, hx⟩ := Option.isSome_iff_exists.1 hi
    obtain ⟨k1, k2⟩ := A2 hrp hn x hx
    rw [frR, if_pos k1] at k2
    have := eqA_of (x := joY y a b) (y := y) (r := r) (hx.trans k2.symm)
    exact ⟨this.1.symm.trans hi, this.2⟩
  · obtain ⟨k1, k2⟩ := A1 hrp hn
    have e1' : eqR (flsL [] y) (flsL [] a) r = false := by
      rw [← Bool.not_eq_true]; exact fun h => e1 (eqA_iff.1 h)
    have e2' : eqR (flsL [] y) (flsL [] b) r = false := by
      rw [← Bool.not_eq_true]; exact fun h => e2 (eqA_iff.1 h)
    have : eqR (flsL [] a) (flsL [] b) r = true := by
      simp only [clB, e1', e2'] at k2
      simpa using k2
    exact eqA_iff.1 this
end Go.Proofs.LF
namespace Go.Proofs.LF
open Go.RowKit Go.Sort
def Bd (y : Fo) : Prop := y.len ≤ 1000 ∧ y.Sm ∧ y.cnt ≤ 900
def In (W : World) (v : Value) (y : Fo) : Prop := FSl (fun q => q < W.heap.size) W v y
theorem In.on {W W' : World} {v : Value} {y : Fo} (h : In W v y) (hb : Below W.heap.size W W') : In W' v y := FSl.on h hb
def PaIn (W : World) (v : Value) (ps : List (List Ky)) : Prop := PaSl (fun q => q < W.heap.size) W v ps
theorem PaIn.on {W W' : World} {v : Value} {ps : List (List Ky)} (h : PaIn W v ps) (hb : Below W.heap.size W W') : PaIn W' v ps := LSl.on h hb
def IsIn (W : World) (v : Value) (l : List Int) : Prop := Ints (fun q => q < W.heap.size) W v l
theorem IsIn.on {w w' : World} {v : Value} {l : List Int} (h : IsIn w v l) (hb : Below w.heap.size w w') : IsIn w' v l :=
  (Ints.agree h (Agree.of_below hb fun _ h => h)).wide fun b hq => by have := hb.size; omega
def PtIn (W : World) (v : Value) (l : List Ky) : Prop := Pth (fun q => q < W.heap.size) W v l
theorem PtIn.on {w w' : World} {v : Value} {l : List Ky} (h : PtIn w v l) (hb : Below w.heap.size w w') : PtIn w' v l :=
  (Pth.agree h (Agree.of_below hb fun _ h => h)).wide fun b hq => by have := hb.size; omega
def ChIn (W : World) (v : Value) (l : List Ch) : Prop := ChSl (fun q => q < W.heap.size) W v l
theorem ChIn.on {W W' : World} {v : Value} {ps : List Ch} (h : ChIn W v ps) (hb : Below W.heap.size W W') : ChIn W' v ps := LSl.on h hb
theorem join_c (y a b : Fo) (ay aa ab : Option Addr) (cy ca cb : Nat) (W : World) (hy : In W (.slice ay y.len cy) y) (ha : In W (.slice aa a.len ca) a) (hb : In W (.slice ab b.len cb) b) (by_ : Bd y) (ba : Bd a) (bb : Bd b) (ht : Pow W)
    {E : Int} {Y : Fo} {P : List (List Ky)} (h : joE y a b = E ∧ joY y a b = Y ∧ joP y a b = P) :
    Calls Tryz.prog 33 #[.slice ay y.len cy, .slice aa a.len ca, .slice ab b.len cb] W fun e w' => ∃ aj cj ap cp, e = .returned (.tuple #[.slice aj Y.len cj, .slice ap P.length cp, .int .i64 E]) ∧ In w' (.slice aj Y.len cj) Y ∧ PaIn w' (.slice ap P.length cp) P ∧ Below W.heap.size W w' := by
  obtain ⟨rfl, rfl, rfl⟩ := h
  exact (Join_any y a b ay aa ab cy ca cb _ W hy ha hb (fun _ h => h) by_ ba bb ht).mono fun e w' ⟨a1, c1, a2, c2, he, h1, h2, h3⟩ => ⟨a1, c1, a2, c2, he, h1.wide fun b hb => hb.2, h2.wide fun b hb => hb.2, h3⟩
theorem alike_c (y a b : Fo) (ay aa ab : Option Addr) (cy ca cb : Nat) (W : World) (hy : In W (.slice ay y.len cy) y) (ha : In W (.slice aa a.len ca) a) (hb : In W (.slice ab b.len cb) b) (by_ : Bd y) (ba : Bd a) (bb : Bd b) (ht : Pow W)
    {E : Int} {P : List (List Ky)} (h : cpE [y, a, b] = E ∧ alP y a b = P) :
    Calls Tryz.prog 34 #[.slice ay y.len cy, .slice aa a.len ca, .slice ab b.len cb] W fun e w' => ∃ ap cp, e = .returned (.tuple #[.slice ap P.length cp, .int .i64 E]) ∧ PaIn w' (.slice ap P.length cp) P ∧ Below W.heap.size W w' := by
  obtain ⟨rfl, rfl⟩ := h
  exact (Alike_any y a b ay aa ab cy ca cb _ W hy ha hb (fun _ h => h) by_ ba bb ht).mono fun e w' ⟨a1, c1, he, h1, h3⟩ => ⟨a1, c1, he, h1.wide fun b hb => hb.2, h3⟩
theorem diff_c (y a : Fo) (ay aa : Option Addr) (cy ca : Nat) (W : World) (hy : In W (.slice ay y.len cy) y) (ha : In W (.slice aa a.len ca) a) (by_ : Bd y) (ba : Bd a) (ht : Pow W) {D : List Ch} {E : Int} (h : difE y a = E ∧ difL y a = D) :
    Calls Tryz.prog 41 #[.slice ay y.len cy, .slice aa a.len ca] W fun e w' => ∃ ap cp, e = .returned (.tuple #[.slice ap D.length cp, .int .i64 E]) ∧ ChIn w' (.slice ap D.length cp) D ∧ Below W.heap.size W w' := by
  obtain ⟨rfl, rfl⟩ := h
  exact (Diff_any y a ay aa cy ca _ W hy ha (fun _ h => h) by_.1 ba.1 by_.2.1 ba.2.1 by_.2.2 ba.2.2 ht).mono fun e w' ⟨a1, c1, he, h1, h3⟩ => ⟨a1, c1, he, h1.wide fun b hb => hb.2, h3⟩
theorem same_c (y a : Fo) (ay aa : Option Addr) (cy ca : Nat) (W : World) (hy : In W (.slice ay y.len cy) y) (ha : In W (.slice aa a.len ca) a) (by_ : Bd y) (ba : Bd a) :
    Calls Tryz.prog 25 #[.slice ay y.len cy, .slice aa a.len ca] W fun e w' => e = .returned (.bool (decide (y = a))) ∧ Below W.heap.size W w' :=
  (alike_any (y.cnt + 1)).2 y a ay cy aa ca _ W (Nat.lt_succ_self _) hy ha (fun _ h => h) by_.1 ba.1 by_.2.1 ba.2.1
theorem check_c (y : Fo) (a : Option Addr) (c : Nat) (W : World) (hy : In W (.slice a y.len c) y) (hb : Bd y) : Calls Tryz.prog 23 #[.slice a y.len c] W fun e w' => e = .returned (.int .i64 (chkY y)) ∧ Below W.heap.size W w' :=
  Check_any y a c _ W hy (fun _ h => h) hb.1 hb.2.1 hb.2.2
def AllP (W w' : World) (v : Value) (ps : List (List Ky)) (n : Nat) (cs : List Value) : Prop := n = ps.length ∧ w'.ownsRow W.heap.size 65 1 v n cs ∧ ∃ T : Nat → Prop, LCs rdPa T w' ps cs ∧ ∀ b, T b → W.heap.size ≤ b ∧ b < w'.heap.size ∧ v.ownBlock ≠ some b
theorem all_c (y : Fo) (a : Option Addr) (c : Nat) (W : World) (hy : In W (.slice a y.len c) y) (hb : Bd y) :
    Calls Tryz.prog 43 #[.slice a y.len c, .slice none 0 0] W fun e w' => ∃ a1 c1 a2 c2 cs, e = .returned (.tuple #[.slice a1 y.cnt c1, .slice a2 y.cnt c2]) ∧ AllP W w' (.slice a1 y.cnt c1) (evP [] y) y.cnt cs ∧ Below W.heap.size W w' := by
  have hnil : Pth (fun _ => False) W (.slice none ([] : List Ky).length 0) [] := ⟨rfl, none, 0, rfl, Nat.le_refl _, by simp [maxLen], fun _ => rfl, .inl rfl⟩
  refine (all_all (y.cnt + 1) y [] a c none 0 _ (fun _ => False) W (Nat.lt_succ_self _) hy hnil (fun _ h => h) (fun _ h => h.elim) hb.1 hb.2.1 (by simpa using hb.2.2)).mono ?_
  rintro e w' ⟨a1, c1, a2, c2, he, ⟨T, cs, es, h1, h2, h3, h4, h5, h6⟩, hB⟩
  rw [evP_length] at h1
  exact ⟨a1, c1, a2, c2, cs, he, ⟨(evP_length [] y).symm, h1, T, h2, fun b hb => ⟨(h5 b hb).1, (h5 b hb).2.1, (h5 b hb).2.2.1⟩⟩, hB⟩
theorem AllP.news {W w' : World} {a : Option Addr} {n c : Nat} {ps : List (List Ky)} {cs : List Value} (h : AllP W w' (.slice a n c) ps n cs) : cs.length = n * 1 ∧ (a = none → n = 0 ∧ c = 0) ∧ (∀ ad, a = some ad → ∀ (j : Nat) (u : Value), cs[j]? = some u → w'.cell? (ad.add j) = some u) ∧ (∀ u ∈ cs, u.oneCell' = true) := by
  obtain ⟨_, h1, T, h2, h3⟩ := h
  have s1 := SlC.of_owns h1
  exact ⟨h1.1, fun h => (SlC.caps s1).2.2 h, SlC.news s1 Agree.refl, LCs.one h2⟩
theorem all_app {W0 w1 w2 w3 : World} {v1 v2 v3 : Value} {p1 p2 : List (List Ky)} {n1 n2 : Nat} {cs1 cs2 : List Value} (h1 : AllP W0 w1 v1 p1 n1 cs1) (b1 : Below W0.heap.size W0 w1) (h2 : AllP w1 w2 v2 p2 n2 cs2) (b2 : Below w1.heap.size w1 w2)
    (hown : w3.ownsRow W0.heap.size 65 1 v3 (n1 + n2) (cs1 ++ cs2)) (hg : w2.grownBy w3 v1.ownBlock) : PaIn w3 v3 (p1 ++ p2) ∧ Below W0.heap.size W0 w3 := by
  obtain ⟨e1, o1, T1, l1, t1⟩ := h1
  obtain ⟨e2, o2, T2, l2, t2⟩ := h2
  have z1 := b1.size
  have z2 := b2.size
  have z3 := hg.size
  have k1 : LCs rdPa T1 w3 p1 cs1 := (l1.agree (Agree.of_below b2 fun b hb => (t1 b hb).2.1)).agree (Agree.grown hg fun b hb => ⟨by have := (t1 b hb).2.1; omega, fun e => (t1 b hb).2.2 e⟩)
  have k2 : LCs rdPa T2 w3 p2 cs2 := l2.agree (Agree.grown hg fun b hb => ⟨by have := (t2 b hb).2.1; omega, fun e => by have := (o1.lt b e).2; have := (t2 b hb).1; omega⟩)
  have hs := SlC.of_owns hown
  have hn : n1 + n2 = (p1 ++ p2).length := by rw [List.length_append, e1, e2]
  rw [hn] at hs
  refine ⟨⟨cs1 ++ cs2, hs.wide fun b hb => hb.2, (k1.wide fun b hb => by have := (t1 b hb).2.1; omega).app (k2.wide fun b hb => by have := (t2 b hb).2.1; omega)⟩, ?_⟩
  exact (b1.trans (b2.mono z1)).grown hg (by omega) (fun b hb => (o1.lt b hb).1)
theorem at_c (y : Fo) (q : List Ky) (a aq : Option Addr) (c cq : Nat) (W : World) (hy : In W (.slice a y.len c) y) (hq : PtIn W (.slice aq q.length cq) q) (hb : Bd y) (lq : q.length ≤ 1000) {n : List Int} {i : Bool} (h : nsAt y q = n ∧ isAt y q = i) :
    Calls Tryz.prog 44 #[.slice a y.len c, .slice aq q.length cq] W fun e w' => ∃ a1 c1, e = .returned (.tuple #[.slice a1 n.length c1, .bool i]) ∧ IsIn w' (.slice a1 n.length c1) n ∧ Below W.heap.size W w' := by
  obtain ⟨rfl, rfl⟩ := h
  refine (atY_any y q a aq c cq _ _ W hy hq (fun _ h => h) (fun _ h => h) hb.1 hb.2.1 hb.2.2 lq).mono ?_
  rintro e w' ⟨a1, c1, he, h1, hB⟩
  exact ⟨a1, c1, he, h1.wide fun b hb => by have := hB.size; omega, hB⟩
theorem nsAt_len {y : Fo} (hb : Bd y) (q : List Ky) : (nsAt y q).length ≤ 1000 := by
  have key : ∀ (y : Fo) (u : List Ky), y.Sm → ∀ x ∈ flsL u y, x.l.length ≤ 1000 := by
    intro y
    induction y with
    | nil => intro u _ x hx; cases hx
    | cons n l s r ihs ihr =>
      intro u hs x hx
      obtain ⟨h1, h2, h3, h4, h5⟩ := hs
      rw [flsL_cons, List.mem_cons, List.mem_append] at hx
      rcases hx with rfl | hx | hx
      · exact h2
      · exact ihs _ h4 x hx
      · exact ihr _ h5 x hx
  unfold nsAt
  cases h : rfd (flsL [] y) q with
  | none => simp
  | some x => exact key y [] hb.2.1 x (rfd_some h).1
theorem eqN_c (l m : List Int) (al am : Option Addr) (cl cm : Nat) (W : World) (hl : IsIn W (.slice al l.length cl) l) (hm : IsIn W (.slice am m.length cm) m) (h1 : l.length ≤ 1000) (h2 : m.length ≤ 1000) {b : Bool} (h : decide (l = m) = b) :
    Calls Tryz.prog 47 #[.slice al l.length cl, .slice am m.length cm] W fun e w' => e = .returned (.bool b) ∧ Below W.heap.size W w' := by
  subst h
  exact eqInts_any l m al am cl cm _ W hl hm (by omega) (by omega)
theorem okF_bd {y : Fo} (h : OkF 0 y) (hc : y.cnt ≤ 900) : Bd y := ⟨by have := len_cnt y; omega, okF_sm y 0 h (by omega), hc⟩
def PAt (W w' : World) : Prop := Hp W.heap.size (fun q => q < W.heap.size) w' ∧ w'.heap.size = W.heap.size + 1 ∧ Below W.heap.size W w'
def ByIn (W : World) (v : Value) (l : List Int) : Prop := Byt (fun q => q < W.heap.size) W v l
theorem ByIn.on {W W' : World} {v : Value} {l : List Int} (h : ByIn W v l) (hb : Below W.heap.size W W') : ByIn W' v l :=
  (SlC.agree h (Agree.of_below hb fun _ h => h)).wide fun b hq => by have := hb.size; omega
theorem pile_c (l : List Int) (a : Option Addr) (c : Nat) (W : World) (h : ByIn W (.slice a l.length c) l) :
    Calls Tryz.prog 38 #[.slice a l.length c] W fun e w' => e = .returned (.pointer (some ⟨W.heap.size, 0, none⟩)) ∧ PAt W w' :=
  (Pile_any a l c _ W h (fun _ h => h)).mono fun e w' ⟨he, h1, h2, h3⟩ => ⟨he, h1, h2, h3⟩
theorem made1_c (W w1 : World) (h : PAt W w1) : Calls Tryz.prog 37 #[.pointer (some ⟨W.heap.size, 0, none⟩), .int .i64 3] w1 fun e w' => ∃ y a c, e = .returned (.slice a y.len c) ∧ In w' (.slice a y.len c) y ∧ (OkF 1 y ∧ y.cnt ≤ 78) ∧ Below W.heap.size W w' := by
  obtain ⟨h1, h2, h3⟩ := h
  refine (Made_any 3 W.heap.size _ w1 (by omega) (by omega) h1 (by omega) (fun q hq => by omega)).mono ?_
  rintro e w' ⟨y, a, c, he, hF, ho, _, hc, _, hk⟩
  exact ⟨y, a, c, he, hF.wide fun b hb => hb.2, ⟨ho, hc⟩, h3.trans (Keep.below hk (by omega) (fun b hb => by omega))⟩
theorem made_c (W w1 : World) (h : PAt W w1) : Calls Tryz.prog 37 #[.pointer (some ⟨W.heap.size, 0, none⟩), .int .i64 3] w1 fun e w' => ∃ y a c, e = .returned (.slice a y.len c) ∧ In w' (.slice a y.len c) y ∧ (OkF 0 y ∧ y.cnt ≤ 78) ∧ Below W.heap.size W w' :=
  (made1_c W w1 h).mono fun e w' ⟨y, a, c, he, h1, h2, h3⟩ => ⟨y, a, c, he, h1, ⟨okF_down h2.1, h2.2⟩, h3⟩
theorem changed_c (y : Fo) (a : Option Addr) (c : Nat) (W w1 : World) (h : PAt W w1) (hy : In W (.slice a y.len c) y) (ho : OkF 0 y) (hc : y.cnt ≤ 300) :
    Calls Tryz.prog 39 #[.pointer (some ⟨W.heap.size, 0, none⟩), .slice a y.len c] w1 fun e w' => ∃ y' a' c', e = .returned (.slice a' y'.len c') ∧ In w' (.slice a' y'.len c') y' ∧ (OkF 0 y' ∧ y'.cnt ≤ 2 * y.cnt + 1) ∧ Below W.heap.size W w' := by
  obtain ⟨h1, h2, h3⟩ := h
  refine (changed_any y a c W.heap.size _ (fun q => q < W.heap.size) w1 hc ho (hy.agree (Agree.of_below h3 (fun _ h => h))) (fun q hq => by omega) h1 (by omega) (fun q hq => by omega)).mono ?_
  rintro e w' ⟨y', a', c', he, hF, ho', hc', _, hk⟩
  exact ⟨y', a', c', he, hF.wide fun b hb => hb.2, ⟨ho', hc'⟩, h3.trans (Keep.below hk (by omega) (fun b hb => by omega))⟩
theorem few_c (y : Fo) (a : Option Addr) (c : Nat) (W : World) (hy : In W (.slice a y.len c) y) (ho : OkF 0 y) (hc : y.cnt ≤ 800) {q : Bool} (h : decide (60 < y.cnt) = q) :
    Calls Tryz.prog 40 #[.slice a y.len c] W fun e w' => e = .returned (.bool q) ∧ Below W.heap.size W w' := by
  subst h
  exact fewY_any y a c _ W ho hc hy (fun _ h => h)
theorem checkE_c (y : Fo) (a : Option Addr) (c : Nat) (W : World) (hy : In W (.slice a y.len c) y) (hb : Bd y) {E : Int} (h : chkY y = E) : Calls Tryz.prog 23 #[.slice a y.len c] W fun e w' => e = .returned (.int .i64 E) ∧ Below W.heap.size W w' := by
  subst h
  exact check_c y a c W hy hb
theorem okF_few {y : Fo} (h : OkF 0 y) (hc : y.cnt ≤ 60) : chkY y = 0 := by rw [okF_chk h, if_pos hc]
theorem okF_many2 {y : Fo} (h : OkF 0 y) (hc : ¬ y.cnt ≤ 60) : chkY y = 2 := by rw [okF_chk h, if_neg hc]
theorem eqY_c (y : Fo) (ay aa : Option Addr) (cy ca : Nat) (W : World) (hy : In W (.slice ay y.len cy) y) (ha : In W (.slice aa y.len ca) y) (by_ : Bd y) :
    Calls Tryz.prog 25 #[.slice ay y.len cy, .slice aa y.len ca] W fun e w' => e = .returned (.bool true) ∧ Below W.heap.size W w' := by
  have h := same_c y y ay aa cy ca W hy ha by_ by_
  rwa [decide_eq_true rfl] at h
theorem joE_two {y a b : Fo} (ky : chkY y = 0) (ka : chkY a = 0) (kb : chkY b = 0) : joE y a b = 0 ∨ joE y a b = 2 := by
  have hcp : cpE [y, a, b] = 0 := by simp [cpE, ky, ka, kb]
  rw [joE, if_neg (by simp [hcp])]
  split
  · exact .inr rfl
  · exact .inl rfl
theorem eqK_c (p q : List Ky) (ap aq : Option Addr) (cp cq : Nat) (W : World) (hp : PtIn W (.slice ap p.length cp) p) (hq : PtIn W (.slice aq q.length cq) q) (lp : p.length ≤ 1000) (lq : q.length ≤ 1000) :
    Calls Tryz.prog 42 #[.slice ap p.length cp, .slice aq q.length cq] W fun e w' => e = .returned (.bool (decide (p = q))) ∧ Below W.heap.size W w' :=
  eqKeys_any p q ap aq cp cq _ W hp hq (by omega) (by omega)
theorem joinB_c (y a : Fo) (ay ay' aa : Option Addr) (cy cy' ca : Nat) (W : World) (hy : In W (.slice ay y.len cy) y) (hy' : In W (.slice ay' y.len cy') y) (ha : In W (.slice aa a.len ca) a) (by_ : Bd y) (ba : Bd a) (ky : chkY y = 0) (ka : chkY a = 0) (ht : Pow W) :
    Calls Tryz.prog 33 #[.slice ay y.len cy, .slice aa a.len ca, .slice ay' y.len cy'] W fun e w' => ∃ aj cj ap cp, e = .returned (.tuple #[.slice aj a.len cj, .slice ap 0 cp, .int .i64 0]) ∧ In w' (.slice aj a.len cj) a ∧ Below W.heap.size W w' :=
  (join_c y a y ay aa ay' cy ca cy' W hy ha hy' by_ ba by_ ht (joined_base ky ka)).mono fun e w' ⟨a1, c1, a2, c2, he, h1, _, h3⟩ => ⟨a1, c1, a2, c2, he, h1, h3⟩
theorem joinS_c (y a : Fo) (ay aa aa' : Option Addr) (cy ca ca' : Nat) (W : World) (hy : In W (.slice ay y.len cy) y) (ha : In W (.slice aa a.len ca) a) (ha' : In W (.slice aa' a.len ca') a) (by_ : Bd y) (ba : Bd a) (ky : chkY y = 0) (ka : chkY a = 0) (ht : Pow W) :
    Calls Tryz.prog 33 #[.slice ay y.len cy, .slice aa a.len ca, .slice aa' a.len ca'] W fun e w' => ∃ aj cj ap cp, e = .returned (.tuple #[.slice aj a.len cj, .slice ap 0 cp, .int .i64 0]) ∧ In w' (.slice aj a.len cj) a ∧ Below W.heap.size W w' :=
  (join_c y a a ay aa aa' cy ca ca' W hy ha ha' by_ ba ba ht (joined_self ky ka)).mono fun e w' ⟨a1, c1, a2, c2, he, h1, _, h3⟩ => ⟨a1, c1, a2, c2, he, h1, h3⟩
theorem alikeD_c (y a : Fo) (D : List Ch) (ay aa aa' : Option Addr) (cy ca ca' : Nat) (W : World) (hy : In W (.slice ay y.len cy) y) (ha : In W (.slice aa a.len ca) a) (ha' : In W (.slice aa' a.len ca') a) (by_ : Bd y) (ba : Bd a) (h : cpE [y, a, a] = 0 ∧ difE y a = 0 ∧ alP y a a = D.map Ch.p) (ht : Pow W) :
    Calls Tryz.prog 34 #[.slice ay y.len cy, .slice aa a.len ca, .slice aa' a.len ca'] W fun e w' => ∃ ap cp, e = .returned (.tuple #[.slice ap D.length cp, .int .i64 0]) ∧ PaIn w' (.slice ap D.length cp) (D.map Ch.p) ∧ Below W.heap.size W w' := by
  refine (alike_c y a a ay aa aa' cy ca ca' W hy ha ha' by_ ba ba ht ⟨h.1, h.2.2⟩).mono ?_
  rintro e w' ⟨a1, c1, he, h1, h2⟩
  rw [List.length_map] at he h1
  exact ⟨a1, c1, he, h1, h2⟩
theorem dif_bd {y a : Fo} (ky : chkY y = 0) (ka : chkY a = 0) : (difL y a).length ≤ 120 ∧ ∀ c ∈ difL y a, c.p.length ≤ 1000 := by
  have fy := fls_ok ky
  have fa := fls_ok ka
  have hde : difE y a = 0 := by simp [difE, ky, ka]
  rw [difL, if_pos hde, dfF]
  refine ⟨Nat.le_trans (List.length_filterMap_le _ _) ?_, fun c hc => ?_⟩
  · have := pths_len (ls := [flsL [] y, flsL [] a])
    have h1 := fy.2.2
    have h2 := fa.2.2
    simp only [List.flatten_cons, List.flatten_nil, List.append_nil, List.length_append] at this
    omega
  · obtain ⟨p, hp, he⟩ := List.mem_filterMap.1 hc
    have hcp : c.p = p := by
      unfold chD at he
      split at he
      · cases he
      · simp only [Option.some.injEq] at he
        rw [← he]
    rw [hcp]
    obtain ⟨u, hu, rfl⟩ := pths_mem hp
    simp only [List.flatten_cons, List.flatten_nil, List.append_nil, List.mem_append] at hu
    rcases hu with hu | hu
    · exact (fy.2.1 u hu).1
    · exact (fa.2.1 u hu).1
theorem joP_bd {y a b : Fo} {E : Int} {Y : Fo} {P : List (List Ky)} (ky : chkY y = 0) (ka : chkY a = 0) (kb : chkY b = 0) (h : joE y a b = E ∧ joY y a b = Y ∧ joP y a b = P) : P.length ≤ 1000 ∧ ∀ p ∈ P, p.length ≤ 1000 := by
  obtain ⟨_, _, rfl⟩ := h
  exact (join_bd ky ka kb).2.2
theorem joY_bd {y a b : Fo} {Y : Fo} {P : List (List Ky)} (ky : chkY y = 0) (ka : chkY a = 0) (kb : chkY b = 0) (h : joE y a b = 0 ∧ joY y a b = Y ∧ joP y a b = P) : Bd Y := by
  obtain ⟨h0, rfl, _⟩ := h
  obtain ⟨h1, h2, _⟩ := join_bd ky ka kb
  exact ⟨h2, h1, by have := (joined_two ky ka kb h0).1; omega⟩
theorem joined_bool {y a b Y : Fo} {P : List (List Ky)} {r : List Ky}
    (h : (EqA y b r → r ∉ P → EqA Y a r) ∧ (EqA y a r → r ∉ P → EqA Y b r) ∧ (r ∈ P → isAt Y r = true → isAt y r = true ∧ nsAt Y r = nsAt y r) ∧ (¬ EqA y a r → ¬ EqA y b r → r ∉ P → EqA a b r))
    {nY nA nB nJ : List Int} {iY iA iB iJ nm qYA qYB qJA qJB qJY qAB : Bool} (h1 : nsAt y r = nY) (h2 : nsAt a r = nA) (h3 : nsAt b r = nB) (h4 : nsAt Y r = nJ) (h5 : isAt y r = iY) (h6 : isAt a r = iA) (h7 : isAt b r = iB) (h8 : isAt Y r = iJ)
    (h9 : decide (r ∈ P) = nm) (h10 : decide (nY = nA) = qYA) (h11 : decide (nY = nB) = qYB) (h12 : decide (nJ = nA) = qJA) (h13 : decide (nJ = nB) = qJB) (h14 : decide (nJ = nY) = qJY) (h15 : decide (nA = nB) = qAB) :
    ((iY == iB && qYB) = true → nm = false → iJ = iA ∧ qJA = true) ∧ ((iY == iA && qYA) = true → nm = false → iJ = iB ∧ qJB = true) ∧ (nm = true → iJ = true → iY = true ∧ qJY = true) ∧ ((iY == iA && qYA) = false → (iY == iB && qYB) = false → nm = false → iA = iB ∧ qAB = true) := by
  obtain ⟨k1, k2, k3, k4⟩ := h
  unfold EqA at k1 k2 k4
  rw [h1, h2, h3, h4, h5, h6, h7, h8] at *
  subst h9 h10 h11 h12 h13 h14 h15
  refine ⟨fun e f => ?_, fun e f => ?_, fun e f => ?_, fun e e' f => ?_⟩
  · simp only [Bool.and_eq_true, beq_iff_eq, decide_eq_true_eq, decide_eq_false_iff_not] at e f ⊢
    exact k1 ⟨e.1, e.2⟩ f
  · simp only [Bool.and_eq_true, beq_iff_eq, decide_eq_true_eq, decide_eq_false_iff_not] at e f ⊢
    exact k2 ⟨e.1, e.2⟩ f
  · simp only [decide_eq_true_eq] at e ⊢
    exact k3 e f
  · rw [← Bool.not_eq_true] at e e'
    simp only [Bool.and_eq_true, beq_iff_eq, decide_eq_true_eq, decide_eq_false_iff_not] at e e' f ⊢
    exact k4 e e' f
theorem contK_c (ps : List (List Ky)) (q : List Ky) (al aq : Option Addr) (cl cq F : Nat) (w : World) (hv : PaIn w (.slice al ps.length cl) ps) (hq : PtIn w (.slice aq q.length cq) q) (hF : F < w.heap.size) (hc : w.cell? ⟨F, 0, none⟩ = some (.slice aq q.length cq)) (hl : ps.length ≤ 1000) (hps : ∀ p ∈ ps, p.length ≤ 1000) (lq : q.length ≤ 1000) {b : Bool} (h : decide (q ∈ ps) = b) :
    Calls Tryz.prog 45 #[.slice al ps.length cl, .func (.func 46) #[] #[.pointer (some ⟨F, 0, none⟩)]] w fun e w' => e = .returned (.bool b) ∧ Below w.heap.size w w' := by
  subst h
  exact contK_any ps q al aq cl cq F _ _ w hv (fun _ h => h) hq (fun _ h => h) hF hc hl hps lq
end Go.Proofs.LF
