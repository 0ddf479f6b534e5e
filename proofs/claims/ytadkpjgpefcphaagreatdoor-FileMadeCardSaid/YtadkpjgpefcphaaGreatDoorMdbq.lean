/- Parts of the proof of a law of layer 11 (file): LfW76. The conditions stand in each theorem. -/
import Derived.BigQuiet
import Derived.Deep.AppendLies
import Derived.Deep.Cut
import Derived.Deep.CutBlock
import Derived.Deep.CutRange
import Derived.Deep.QuietTactic
import Derived.Deep.RegionHeld3
import Derived.Laws.ResultCell
import Derived.Outline
import Derived.Test.YtadkpjgpefcphaaGreatDoorProg
import Derived.WalkKit
import Derived.WalkLawsBesides
import Derived.WalkSpells
import Derived.Test.YtadkpjgpefcphaaGreatDoorMdah
import Derived.Test.YtadkpjgpefcphaaGreatDoorMdbp
set_option linter.all false
set_option linter.unusedVariables false
set_option linter.unusedSimpArgs false
namespace Go.Proofs.LF
open Go.RowKit Go.Sort
set_option maxHeartbeats 4000000
set_option maxRecDepth 100000
attribute [local go_sem] bs_toList bs_size bs_get
theorem Tryz.info66' : (Tryz.prog.info? 66).map (fun i => (i.zero, i.size, i.bytes)) = some (some (.slice none 0 0), 1, 24) := by kernel_rfl
def evP (up : List Ky) (y : Fo) : List (List Ky) := (flsL up y).map Fl.p
def evN (up : List Ky) (y : Fo) : List (List Int) := (flsL up y).map Fl.l
theorem evP_length (up : List Ky) (y : Fo) : (evP up y).length = y.cnt := by rw [evP, List.length_map, flsL_length]
theorem evN_length (up : List Ky) (y : Fo) : (evN up y).length = y.cnt := by rw [evN, List.length_map, flsL_length]
theorem flsL_take {up : List Ky} {k : Nat} {y r s : Fo} {n : List UInt8} {l : List Int} (h : y.drop k = .cons n l s r) : flsL up (y.take (k + 1)) = flsL up (y.take k) ++ (⟨up ++ [kyOf n l], l⟩ :: flsL (up ++ [kyOf n l]) s) := by
  rw [flsL, nodesL_take h, List.map_append]; rfl
theorem evP_take {up : List Ky} {k : Nat} {y r s : Fo} {n : List UInt8} {l : List Int} (h : y.drop k = .cons n l s r) : evP up (y.take (k + 1)) = (evP up (y.take k) ++ [up ++ [kyOf n l]]) ++ evP (up ++ [kyOf n l]) s := by
  rw [evP, flsL_take h]; simp [evP]
theorem evN_take {up : List Ky} {k : Nat} {y r s : Fo} {n : List UInt8} {l : List Int} (h : y.drop k = .cons n l s r) : evN up (y.take (k + 1)) = (evN up (y.take k) ++ [l]) ++ evN (up ++ [kyOf n l]) s := by
  rw [evN, flsL_take h]; simp [evN]
theorem cnt_take {k : Nat} {y r s : Fo} {n : List UInt8} {l : List Int} (h : y.drop k = .cons n l s r) : (y.take (k + 1)).cnt = (y.take k).cnt + 1 + s.cnt := by
  have := congrArg List.length (evN_take (up := []) h)
  simp only [evN_length, List.length_append, List.length_cons, List.length_nil] at this
  omega
theorem all_all (m : Nat) : ∀ (y : Fo) (up : List Ky) (a : Option Addr) (c : Nat) (ua : Option Addr) (uc : Nat) (S U : Nat → Prop) (w : World), y.cnt < m → FSl S w (.slice a y.len c) y → Pth U w (.slice ua up.length uc) up → (∀ b, S b → b < w.heap.size) → (∀ b, U b → b < w.heap.size) → y.len ≤ 1000 → y.Sm → up.length + y.cnt ≤ 900 →
    Calls Tryz.prog 43 #[.slice a y.len c, .slice ua up.length uc] w fun e w' => ∃ a1 c1 a2 c2, e = .returned (.tuple #[.slice a1 y.cnt c1, .slice a2 y.cnt c2]) ∧ TwoR S w.heap.size w' (.slice a1 y.cnt c1) (.slice a2 y.cnt c2) (evP up y) (evN up y) ∧ Below w.heap.size w w' := by
  induction m with
  | zero => intro y _ _ _ _ _ _ _ _ h; omega
  | succ m ih =>
  intro y up a c ua uc S U w hcnt hv hup hS hU hlen hsm hdep
  obtain ⟨_, _, he, hc, hm, hat⟩ := hv.at
  cases he
  obtain ⟨i0, hi0, p0, p1, p2⟩ := info_parts Tryz.info65'
  obtain ⟨j0, hj0, hy0, hy1, hy2⟩ := info_parts Tryz.info66'
  obtain ⟨k0, hk0, hx0, hx1, hx2⟩ := info_parts Tryz.info71'
  have IH := hid ih
  clear ih
  unfold maxLen at hm
  go_enter Tryz.func43, Tryz.ntmps43
  go_wp2_with fail
  go_loopw [6, 7, 16] (fun v u i wr => ∃ k : Nat, k ≤ y.len ∧ i = .int .i64 k ∧ TwoR S w.heap.size wr v u (evP up (y.take k)) (evN up (y.take k)) ∧ Below w.heap.size w wr) (fun _ _ i _ => y.len - (intOf i).toNat)
  case atStart => exact ⟨0, by omega, rfl, TwoR.nil _ _ _, Below.refl _ _⟩
  case round =>
    obtain ⟨k, hk, rfl, ⟨T, cs, es, hX⟩, hB⟩ := hrel
    obtain ⟨vp, rfl⟩ : ∃ v, v = u6 := ⟨_, rfl⟩
    obtain ⟨vn, rfl⟩ : ∃ v, v = u7 := ⟨_, rfl⟩
    by_cases hlt : k < y.len
    · obtain ⟨g, o, n, l, s, r, an, cn, ab, cb, rfl, hg1, hd, hc0, hc1, hc2, hI, hF⟩ := hat k hlt
      have ha : Agree S w wr := Agree.of_below hB hS
      have c0 := ha.cell hg1 hc0
      have c1 := ha.cell hg1 hc1
      have c2 := ha.cell hg1 hc2
      obtain ⟨s1, s2, s3, s4, _⟩ : n.length ≤ 1000 ∧ l.length ≤ 1000 ∧ s.len ≤ 1000 ∧ s.Sm ∧ r.Sm := by have := hsm.drop (i := k); rwa [hd] at this
      have s5 := Fo.cnt_at hd
      have HD := hid hd
      have hsz := hB.size
      clear hc0 hc1 hc2 hat hd
      have hnone := fun e : ua = none => (SlC.caps hup).2.2 e
      go_wp2_with fail
      have HNB := hid (heap_alloc_new wr (.cells #[.string (bs n), .slice an l.length cn, .slice ab s.len cb] 85))
      have BA := hid ((Below.refl wr.heap.size wr).alloc (Nat.le_refl _) (.cells #[.string (bs n), .slice an l.length cn, .slice ab s.len cb] 85))
      refine (kOf_any n l an cn S _ (hI.agree (Agree.of_below (hB.trans (BA.out.mono hsz)) hS)) (fun b h => by have := hS b h; simp; omega)).mono ?_
      rintro e w1 ⟨rfl, hb1⟩
      have hz1 := hb1.size
      simp only [World.size_alloc] at hz1
      have HB1 := hid (BA.out.trans (hb1.mono (by simp)))
      have n1 := hid (below_cell hb1 (by simp) (cells_get HNB.out (k := 1) (v := .slice an l.length cn) rfl))
      have n2 := hid (below_cell hb1 (by simp) (cells_get HNB.out (k := 2) (v := .slice ab s.len cb) rfl))
      clear hb1
      have hlu := len_keys up
      go_wp2_with fail
      go_region_held3 (fun w' => w'.cell? ⟨w1.heap.size, 0, none⟩ = some (.string (bs (kyOf n l).n)) ∧ w'.cell? ⟨w1.heap.size, 1, none⟩ = some (.bool (kyOf n l).h) ∧ w'.cell? ⟨w1.heap.size, 2, none⟩ = some (.int .i64 (kyOf n l).x))
        (first
          | go_keep
          | (go_split_ands; exact ⟨below_cell hb2 (by simp <;> omega) (by assumption), below_cell hb2 (by simp <;> omega) (by assumption), below_cell hb2 (by simp <;> omega) (by assumption)⟩)
          | (go_split_ands; exact ⟨grown_cell hgrow3 hne3 (by assumption), grown_cell hgrow3 hne3 (by assumption), grown_cell hgrow3 hne3 (by assumption)⟩))
        (first
          | (go_at_call 50
             refine (dupK_own up ua uc U _ (hup.agree (Agree.of_below (B := w.heap.size) ?_ hU)) ?_ (by omega)).mono ?_
             (first | exact (((hB.trans (HB1.out.mono hsz)).alloc (by omega) _).alloc (by simp; omega) _).drew | exact ((hB.trans (HB1.out.mono hsz)).alloc (by omega) _).drew)
             (intro b hb; have := hU b hb; simp; omega)
             rintro e w2 ⟨a2, c2, rfl, hown2', hb2⟩
             have hb02 : Below w1.heap.size w1 w2 := by
               first
                 | exact (((Below.refl _ _).alloc (Nat.le_refl _) _).alloc (by simp) _).drew.trans (hb2.mono (by simp; omega))
                 | exact ((Below.refl _ _).alloc (Nat.le_refl _) _).drew.trans (hb2.mono (by simp))
             have hown2 := owns_base (base' := w1.heap.size + 1) hown2' (fun b hb => by have := (hown2'.lt b hb).1; simp at this; omega)
             clear hown2')
          | (refine step_append_ao _ (by rfl) _ _ _ (by rfl) (w1.heap.size + 1) 71 k0 _ 3 32 Tryz.underlying65 hk0 hx0 hx1 hx2 rfl (by omega) (.slice a2 up.length c2) up.length (up.flatMap Ky.cells) (by rfl) hown2 (some ⟨w1.heap.size + 1, 0, none⟩) 1 1 [.string (bs (kyOf n l).n), .bool (kyOf n l).h, .int .i64 (kyOf n l).x] (by rfl) (by rfl) (fun h => by cases h) (fun ad had => by cases had; exact World.news_of_block (cs := #[.string (bs (kyOf n l).n), .bool (kyOf n l).h, .int .i64 (kyOf n l).x]) (t := 71) (fr := (0, 0)) ((hb2.block _ (by simp)).trans (by have h := heap_alloc_new (w1.alloc (.cells #[.string (bs (kyOf n l).n), .bool (kyOf n l).h, .int .i64 (kyOf n l).x] 71)) (.cells #[.string (bs (kyOf n l).n), .bool (kyOf n l).h, .int .i64 (kyOf n l).x] 71); rwa [World.size_alloc] at h))) (by simp [Value.oneCell']) (by unfold maxLen; omega) (by omega) (by have := hb2.size; simp at this; omega) ?_
             intro a3 c3 w3 hown3 hgrow3 hat3
             have hne3 : (Value.slice a2 up.length c2).ownBlock ≠ some w1.heap.size := fun e => by have := (hown2.lt w1.heap.size e).1; omega
             have hb3 : Below w1.heap.size w1 w3 := hb02.grown hgrow3 hb02.size (fun b hb => by have := (hown2.lt b hb).1; omega))
          | (refine step_append_ao _ (by rfl) _ _ _ (by rfl) (w1.heap.size + 1) 71 k0 _ 3 32 Tryz.underlying65 hk0 hx0 hx1 hx2 rfl (by omega) (.slice a2 up.length c2) up.length (up.flatMap Ky.cells) (by rfl) (hown2.alloc _) (some ⟨w2.heap.size, 0, none⟩) 1 1 [.string (bs (kyOf n l).n), .bool (kyOf n l).h, .int .i64 (kyOf n l).x] (by rfl) (by rfl) (fun h => by cases h) (fun ad had => by cases had; exact World.news_of_block (cs := #[.string (bs (kyOf n l).n), .bool (kyOf n l).h, .int .i64 (kyOf n l).x]) (t := 71) (fr := (0, 0)) (heap_alloc_new _ _)) (by simp [Value.oneCell']) (by unfold maxLen; omega) (by omega) (by have := hb2.size; simp at this; simp; omega) ?_
             intro a3 c3 w3 hown3 hgrow3 hat3
             have hne3 : (Value.slice a2 up.length c2).ownBlock ≠ some w1.heap.size := fun e => by have := (hown2.lt w1.heap.size e).1; omega
             have hb3 : Below w1.heap.size w1 w3 := (hb02.alloc hb02.size _).grown hgrow3 (by have := hb02.size; simp; omega) (fun b hb => by have := (hown2.lt b hb).1; omega))
          | fail "nothing")
      all_goals
        have hkp : (up ++ [kyOf n l]).length = up.length + 1 := by simp
        have HP3 : Hid (Pth (Rg w1.heap.size w3.heap.size) w3 (.slice a3 (up.length + 1) c3) (up ++ [kyOf n l])) := by
          have h := (SlC.of_owns hown3).wide (S' := Rg w1.heap.size w3.heap.size) (fun b hb => ⟨by have := hb.1; omega, hb.2⟩)
          unfold Hid Pth
          rw [hkp, show (up ++ [kyOf n l]).flatMap Ky.cells = up.flatMap Ky.cells ++ [.string (bs (kyOf n l).n), .bool (kyOf n l).h, .int .i64 (kyOf n l).x] by simp [Ky.cells]]
          exact h
        have HL3 : Hid (LCs rdPa (Rg w1.heap.size w3.heap.size) w3 [up ++ [kyOf n l]] [.slice a3 (up.length + 1) c3]) := LCs.single ⟨a3, c3, by rw [hkp], by rw [hkp]; exact HP3.out⟩
        have HB3 := hid (HB1.out.trans (hb3.mono (by omega)))
        have hz3 := hb3.size
        have n13 := hid (below_cell hb3 (by omega) n1.out)
        have n23 := hid (below_cell hb3 (by omega) n2.out)
        have hne4 := owns_ne hX.1 (Nat.le_refl wr.heap.size)
        have hne5 := owns_ne hX.2.2.1 (Nat.le_refl wr.heap.size)
        have X3 := hid (hX.below (fun b hb => by have := hS b hb; omega) HB3.out)
        have HT3 : Hid (∀ b, Rg w1.heap.size w3.heap.size b → w.heap.size ≤ b ∧ b < w3.heap.size ∧ vp.ownBlock ≠ some b ∧ vn.ownBlock ≠ some b) := fun b hb => ⟨by have := hb.1; omega, hb.2, fun e => by have := (hX.1.lt b e).2; have := hb.1; omega, fun e => by have := (hX.2.2.1.lt b e).2; have := hb.1; omega⟩
        have hl1 := evP_length up (y.take k)
        have hl2 := evN_length up (y.take k)
        have hct := cnt_take HD.out
        have hcl : (y.take (k + 1)).cnt ≤ y.cnt := by
          have h1 := (nodesL_pre (up := up) (k := k + 1) (y := y)).length_le
          rwa [nodesL_length, nodesL_length] at h1
        have B3w := hid (hB.trans (HB3.out.mono hsz))
        have BX := hid ((Below.refl w3.heap.size w3).alloc (Nat.le_refl _) (.cells #[.slice a3 (up.length + 1) c3] 65))
        have BY := hid ((Below.refl w3.heap.size w3).alloc (Nat.le_refl _) (.cells #[.slice an l.length cn] 66))
        have BXY := hid (BX.out.alloc (by simp) (.cells #[.slice an l.length cn] 66))
        have BYX := hid (BY.out.alloc (by simp) (.cells #[.slice a3 (up.length + 1) c3] 65))
        have NX := hid (heap_alloc_new w3 (.cells #[.slice a3 (up.length + 1) c3] 65))
        have NXY := hid ((heap_alloc_old (w3.alloc (.cells #[.slice a3 (up.length + 1) c3] 65)) (.cells #[.slice an l.length cn] 66) (r := w3.heap.size) (by simp)).trans NX.out)
        have NYX : Hid (((w3.alloc (.cells #[.slice an l.length cn] 66)).alloc (.cells #[.slice a3 (up.length + 1) c3] 65)).heap[w3.heap.size + 1]? = some (.cells #[.slice a3 (up.length + 1) c3] 65 (0, 0))) := by
          have h := heap_alloc_new (w3.alloc (.cells #[.slice an l.length cn] 66)) (.cells #[.slice a3 (up.length + 1) c3] 65)
          rwa [World.size_alloc] at h
        have MX : Hid (((w3.alloc (.cells #[.slice a3 (up.length + 1) c3] 65)).alloc (.cells #[.slice an l.length cn] 66)).heap[w3.heap.size + 1]? = some (.cells #[.slice an l.length cn] 66 (0, 0))) := by
          have h := heap_alloc_new (w3.alloc (.cells #[.slice a3 (up.length + 1) c3] 65)) (.cells #[.slice an l.length cn] 66)
          rwa [World.size_alloc] at h
        have MY : Hid (((w3.alloc (.cells #[.slice an l.length cn] 66)).alloc (.cells #[.slice a3 (up.length + 1) c3] 65)).heap[w3.heap.size]? = some (.cells #[.slice an l.length cn] 66 (0, 0))) := (heap_alloc_old (w3.alloc (.cells #[.slice an l.length cn] 66)) (.cells #[.slice a3 (up.length + 1) c3] 65) (r := w3.heap.size) (by simp)).trans (heap_alloc_new _ _)
        clear hown2 hb2 hb02 hown3 hgrow3 hat3 hne3 hb3 n1 n2
        have HX := hid hX
        clear hX
        have n1 := n13.out
        go_wp2_with fail
        go_region_held3 (fun w' => w'.cell? ⟨wr.heap.size, 1, none⟩ = some (.slice an l.length cn))
          (first
            | go_keep
            | exact grown_cell hgrow4 hne4 (by assumption)
            | exact grown_cell hgrow5 hne5 (by assumption))
          (first
            | (refine step_append_ao _ (by rfl) _ _ _ (by rfl) w.heap.size 65 i0 _ 1 24 Tryz.underlying49 hi0 p0 p1 p2 rfl (by omega) vp (evP up (y.take k)).length cs (by rfl) (owns_below X3.out.1 (by repeat' first | exact Below.refl _ _ | refine Below.alloc ?_ (by simp) _ | apply Below.drew) (Nat.le_refl _)) (some ⟨w3.heap.size, 0, none⟩) 1 1 [.slice a3 (up.length + 1) c3] (by rfl) (by rfl) (fun h => by cases h) (fun ad had => by cases had; exact World.news_of_block (cs := #[.slice a3 (up.length + 1) c3]) (t := 65) (fr := (0, 0)) NX.out) (by simp [Value.oneCell']) (by unfold maxLen; omega) (by omega) (by simp <;> omega) ?_
               intro a4 c4 w4 hown4 hgrow4 hat4
               obtain ⟨X4, K4, B4⟩ := two_app1 X3.out hS (by omega) (by repeat' first | exact Below.refl _ _ | refine Below.alloc ?_ (by simp) _ | apply Below.drew) HL3.out HT3.out rfl hown4 hgrow4 hat4
               have HL4 : LCs rdIs S w4 [l] [.slice an l.length cn] := LCs.single ⟨an, cn, rfl, hI.agree (Agree.of_below (B3w.out.trans B4) hS)⟩)
            | (refine step_append_ao _ (by rfl) _ _ _ (by rfl) w.heap.size 65 i0 _ 1 24 Tryz.underlying49 hi0 p0 p1 p2 rfl (by omega) vp (evP up (y.take k)).length cs (by rfl) (owns_below X3.out.1 (by repeat' first | exact Below.refl _ _ | refine Below.alloc ?_ (by simp) _ | apply Below.drew) (Nat.le_refl _)) (some ⟨w3.heap.size, 0, none⟩) 1 1 [.slice a3 (up.length + 1) c3] (by rfl) (by rfl) (fun h => by cases h) (fun ad had => by cases had; exact World.news_of_block (cs := #[.slice a3 (up.length + 1) c3]) (t := 65) (fr := (0, 0)) NXY.out) (by simp [Value.oneCell']) (by unfold maxLen; omega) (by omega) (by simp <;> omega) ?_
               intro a4 c4 w4 hown4 hgrow4 hat4
               obtain ⟨X4, K4, B4⟩ := two_app1 X3.out hS (by omega) (by repeat' first | exact Below.refl _ _ | refine Below.alloc ?_ (by simp) _ | apply Below.drew) HL3.out HT3.out rfl hown4 hgrow4 hat4
               have HL4 : LCs rdIs S w4 [l] [.slice an l.length cn] := LCs.single ⟨an, cn, rfl, hI.agree (Agree.of_below (B3w.out.trans B4) hS)⟩)
            | (refine step_append_ao _ (by rfl) _ _ _ (by rfl) w.heap.size 65 i0 _ 1 24 Tryz.underlying49 hi0 p0 p1 p2 rfl (by omega) vp (evP up (y.take k)).length cs (by rfl) (owns_below X3.out.1 (by repeat' first | exact Below.refl _ _ | refine Below.alloc ?_ (by simp) _ | apply Below.drew) (Nat.le_refl _)) (some ⟨w3.heap.size + 1, 0, none⟩) 1 1 [.slice a3 (up.length + 1) c3] (by rfl) (by rfl) (fun h => by cases h) (fun ad had => by cases had; exact World.news_of_block (cs := #[.slice a3 (up.length + 1) c3]) (t := 65) (fr := (0, 0)) NYX.out) (by simp [Value.oneCell']) (by unfold maxLen; omega) (by omega) (by simp <;> omega) ?_
               intro a4 c4 w4 hown4 hgrow4 hat4
               obtain ⟨X4, K4, B4⟩ := two_app1 X3.out hS (by omega) (by repeat' first | exact Below.refl _ _ | refine Below.alloc ?_ (by simp) _ | apply Below.drew) HL3.out HT3.out rfl hown4 hgrow4 hat4
               have HL4 : LCs rdIs S w4 [l] [.slice an l.length cn] := LCs.single ⟨an, cn, rfl, hI.agree (Agree.of_below (B3w.out.trans B4) hS)⟩)
            | (refine step_append_ao _ (by rfl) _ _ _ (by rfl) w.heap.size 66 j0 _ 1 24 Tryz.underlying72 hj0 hy0 hy1 hy2 rfl (by omega) vn (evN up (y.take k)).length es (by rfl) (X4.2.2.1.alloc _) (some ⟨w4.heap.size, 0, none⟩) 1 1 [.slice an l.length cn] (by rfl) (by rfl) (fun h => by cases h) (fun ad had => by cases had; exact World.news_of_block (cs := #[.slice an l.length cn]) (t := 66) (fr := (0, 0)) (heap_alloc_new _ _)) (by simp [Value.oneCell']) (by unfold maxLen; omega) (by omega) (by have := B4.size; have := hgrow4.size; simp at this; simp <;> omega) ?_
               intro a5 c5 w5 hown5 hgrow5 hat5
               obtain ⟨X5, K5, B5⟩ := two_app2 X4 hS (by have := hgrow4.size; simp at this; omega) ((Below.refl _ _).alloc (Nat.le_refl _) _) HL4 rfl hown5 hgrow5 hat5)
            | (refine step_append_ao _ (by rfl) _ _ _ (by rfl) w.heap.size 66 j0 _ 1 24 Tryz.underlying72 hj0 hy0 hy1 hy2 rfl (by omega) vn (evN up (y.take k)).length es (by rfl) (X4.2.2.1) (some ⟨w3.heap.size + 1, 0, none⟩) 1 1 [.slice an l.length cn] (by rfl) (by rfl) (fun h => by cases h) (fun ad had => by cases had; exact World.news_of_block (cs := #[.slice an l.length cn]) (t := 66) (fr := (0, 0)) ((hgrow4.block _ (by simp <;> omega) (fun e => by have := (X3.out.1.lt _ e.symm).2; omega)).trans MX.out)) (by simp [Value.oneCell']) (by unfold maxLen; omega) (by omega) (by have := B4.size; have := hgrow4.size; simp at this; simp <;> omega) ?_
               intro a5 c5 w5 hown5 hgrow5 hat5
               obtain ⟨X5, K5, B5⟩ := two_app2 X4 hS (by have := hgrow4.size; simp at this; omega) (Below.refl _ _) HL4 rfl hown5 hgrow5 hat5)
            | (refine step_append_ao _ (by rfl) _ _ _ (by rfl) w.heap.size 66 j0 _ 1 24 Tryz.underlying72 hj0 hy0 hy1 hy2 rfl (by omega) vn (evN up (y.take k)).length es (by rfl) (X4.2.2.1) (some ⟨w3.heap.size, 0, none⟩) 1 1 [.slice an l.length cn] (by rfl) (by rfl) (fun h => by cases h) (fun ad had => by cases had; exact World.news_of_block (cs := #[.slice an l.length cn]) (t := 66) (fr := (0, 0)) ((hgrow4.block _ (by simp <;> omega) (fun e => by have := (X3.out.1.lt _ e.symm).2; omega)).trans MY.out)) (by simp [Value.oneCell']) (by unfold maxLen; omega) (by omega) (by have := B4.size; have := hgrow4.size; simp at this; simp <;> omega) ?_
               intro a5 c5 w5 hown5 hgrow5 hat5
               obtain ⟨X5, K5, B5⟩ := two_app2 X4 hS (by have := hgrow4.size; simp at this; omega) (Below.refl _ _) HL4 rfl hown5 hgrow5 hat5)
            | fail "nothing")
        all_goals
          have hne4' := hid hne4
          have hne5' := hid hne5
          have hz4 := B4.size
          have hz5 := B5.size
          have AG : Hid (∀ b, b < w3.heap.size → vp.ownBlock ≠ some b → vn.ownBlock ≠ some b → w5.heap[b]? = w3.heap[b]?) := fun b hb h1 h2 => (K5 b (by omega) h2).trans (K4 b hb h1)
          have Bw5 := hid (B3w.out.trans (B4.trans B5))
          have hw13 : w.heap.size ≤ w1.heap.size := by omega
          have P5 : Hid (Pth (Rg w1.heap.size w3.heap.size) w5 (.slice a3 (up.length + 1) c3) (up ++ [kyOf n l])) := HP3.out.agree fun b hb => AG.out b hb.2 (HT3.out b hb).2.2.1 (HT3.out b hb).2.2.2
          have n2 : w5.cell? ⟨wr.heap.size, 2, none⟩ = some (.slice ab s.len cb) := Agree.cell (S := (· = wr.heap.size)) (fun b hb => AG.out b (by omega) (by rw [hb]; exact hne4) (by rw [hb]; exact hne5)) rfl n23.out
          have hcall := IH.out s (up ++ [kyOf n l]) ab cb a3 c3 S (Rg w1.heap.size w3.heap.size) w5 (by omega) (hF.agree (Agree.of_below Bw5.out hS)) (by rw [hkp]; exact P5.out) (fun b hb => by have := hS b hb; omega) (fun b hb => by have := hb.2; omega) s3 s4 (by rw [hkp]; omega)
          rw [hkp] at hcall
          have HC := hid hcall
          rw [hl1, hl2] at X5
          have X5 := hid X5
          have hv5 : Hid (∀ b, (Value.slice a4 ((y.take k).cnt + 1) c4).ownBlock = some b → b < w5.heap.size) := fun b hb => (X5.out.1.lt b hb).2
          have hu5 : Hid (∀ b, (Value.slice a5 ((y.take k).cnt + 1) c5).ownBlock = some b → b < w5.heap.size) := fun b hb => (X5.out.2.2.1.lt b hb).2
          clear hcall hown4 hgrow4 hat4 hown5 hgrow5 hat5 X4 K4 K5 B4 B5 hne4 hne5 HL4
          go_wp2_with fail
          refine HC.out.mono ?_
          rintro e w6 ⟨a6, c6, a7, c7, rfl, ⟨T2, cs2, es2, Y6⟩, hb6⟩
          have hl6 := evP_length (up ++ [kyOf n l]) s
          have hl7 := evN_length (up ++ [kyOf n l]) s
          have y1 := Y6.1
          have y3 := Y6.2.2.1
          rw [hl6] at y1
          rw [hl7] at y3
          have s1 := SlC.of_owns y1
          have s3' := SlC.of_owns y3
          have hcap6 := fun h => (SlC.caps s1).2.2 h
          have hcap7 := fun h => (SlC.caps s3').2.2 h
          have X6 := hid (X5.out.below (fun b hb => by have := hS b hb; omega) hb6)
          have hz6 := hb6.size
          have n61 := SlC.news s1 Agree.refl
          have hx1 := X6.out.1
          rw [List.length_append, hl1] at hx1
          have HB6 := hid hb6
          have Y6 := hid Y6
          have hT2 : ∀ b, T2 b → w.heap.size ≤ b ∧ b < w6.heap.size ∧ (Value.slice a4 ((y.take k).cnt + 1) c4).ownBlock ≠ some b ∧ (Value.slice a5 ((y.take k).cnt + 1) c5).ownBlock ≠ some b := fun b hb => by
            have h1 := (Y6.out.2.2.2.2.1 b hb).1
            exact ⟨by omega, (Y6.out.2.2.2.2.1 b hb).2.1, fun e => by have := hv5.out b e; omega, fun e => by have := hu5.out b e; omega⟩
          have key2 : ∀ (a8 : Option Addr) (c8 : Nat) (w7 : World), w7.ownsRow w.heap.size 65 1 (.slice a8 ((y.take k).cnt + 1 + s.cnt) c8) ((y.take k).cnt + 1 + s.cnt) ((cs ++ [.slice a3 (up.length + 1) c3]) ++ cs2) → w6.grownBy w7 (Value.slice a4 ((y.take k).cnt + 1) c4).ownBlock → (∀ g, (Value.slice a8 ((y.take k).cnt + 1 + s.cnt) c8).ownBlock = some g → (Value.slice a4 ((y.take k).cnt + 1) c4).ownBlock = some g ∨ g = w6.heap.size) →
              ∃ T3, TwoX T3 S w.heap.size w7 (.slice a8 ((y.take k).cnt + 1 + s.cnt) c8) (.slice a5 ((y.take k).cnt + 1) c5) ((evP up (y.take k) ++ [up ++ [kyOf n l]]) ++ evP (up ++ [kyOf n l]) s) (evN up (y.take k) ++ [l]) ((cs ++ [.slice a3 (up.length + 1) c3]) ++ cs2) (es ++ [.slice an l.length cn]) ∧ LCs rdIs S w7 (evN (up ++ [kyOf n l]) s) es2 ∧ (∀ ad, a7 = some ad → ∀ (j : Nat) (u : Value), es2[j]? = some u → w7.cell? (ad.add j) = some u) ∧ Below w.heap.size w6 w7 := by
            intro a8 c8 w7 hown8 hgrow8 hat8
            obtain ⟨x1, x2, x3⟩ := two_app1 X6.out hS (by omega) (Below.refl _ _) Y6.out.2.1 hT2 (by rw [List.length_append, hl1, hl6]; rfl) hown8 hgrow8 hat8
            exact ⟨_, x1, Y6.out.2.2.2.1.agree (Agree.of_below x3 hS), SlC.news s3' (fun b hb => x2 b hb.2 (fun e => by have := hv5.out b e; have := hb.1; omega)), x3⟩
          have KEY2 := hid key2
          clear key2 n2
          go_wp2_with (first
            | (at_builtin; (refine (wpList_append_ao _ rfl _ _ _ rfl w.heap.size 65 i0 _ 1 24 Tryz.underlying49 hi0 p0 p1 p2 rfl (by omega) _ ((y.take k).cnt + 1) _ rfl hx1 a6 s.cnt c6 cs2 rfl (by have := y1.1; omega) hcap6 n61 (LCs.one Y6.out.2.1) (by unfold maxLen; omega) (by omega) (by omega) ?_)); intro a8 c8 w7 hown8 hgrow8 hat8; obtain ⟨T3, X7, L7, n7, B7⟩ := KEY2.out a8 c8 w7 hown8 hgrow8 hat8; have hx7 := X7.2.2.1; rw [List.length_append, hl2] at hx7; have hz7 := B7.size)
            | (at_builtin; (refine (wpList_append_ao _ rfl _ _ _ rfl w.heap.size 66 j0 _ 1 24 Tryz.underlying72 hj0 hy0 hy1 hy2 rfl (by omega) _ ((y.take k).cnt + 1) _ rfl hx7 a7 s.cnt c7 es2 rfl (by have := y3.1; omega) hcap7 n7 (LCs.one L7) (by unfold maxLen; omega) (by omega) (by omega) ?_)); intro a9 c9 w8 hown9 hgrow9 hat9; obtain ⟨X8, _, B8⟩ := two_app2 X7 hS (by omega) (Below.refl _ _) L7 (by rw [List.length_append, hl2, hl7]; rfl) hown9 hgrow9 hat9)
            | fail "no append")
          go_roundw
          case rel => exact ⟨k + 1, by omega, by go_num, by rw [evP_take HD.out, evN_take HD.out]; exact X8.two, Bw5.out.trans ((HB6.out.mono (by omega)).trans (B7.trans B8))⟩
          case measure => simp [intOf]; omega
    · obtain rfl : k = y.len := by omega
      rw [Fo.take_len] at hX
      obtain ⟨a1, c1, h1, _, _⟩ := (SlC.of_owns hX.1).shape
      obtain ⟨a2, c2, h2, _, _⟩ := (SlC.of_owns hX.2.2.1).shape
      rw [evP_length] at h1
      rw [evN_length] at h2
      subst h1
      subst h2
      go_wp2_with fail
      exact bodyPost_ret (v := .tuple #[.slice a1 y.cnt c1, .slice a2 y.cnt c2]) (by simp [results, Tryz.results43, go_sem]) rfl ⟨a1, c1, a2, c2, rfl, hX.two, hB⟩
end Go.Proofs.LF
