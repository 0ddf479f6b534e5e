/- Parts of the proof of a law of layer 11 (file): LfW45. The conditions stand in each theorem. -/
import Derived.BigQuiet
import Derived.Deep.AppendLies
import Derived.Deep.Cut
import Derived.Deep.CutBlock
import Derived.Deep.CutRange
import Derived.Deep.QuietTactic
import Derived.Deep.RegionHeld3
import Derived.Laws.ResultCell
import Derived.Outline
import Derived.Test.YtadkpjgpefcphaaGreatDoorProg
import Derived.WalkKit
import Derived.WalkLawsBesides
import Derived.WalkSpells
import Derived.Test.YtadkpjgpefcphaaGreatDoorMdbg
set_option linter.all false
set_option linter.unusedVariables false
set_option linter.unusedSimpArgs false
namespace Go.Proofs.LF
open Go.RowKit Go.Sort
set_option maxHeartbeats 4000000
set_option maxRecDepth 100000
attribute [local go_sem] bs_toList bs_size bs_get
theorem Pth.init {S : Nat → Prop} {w : World} {a : Option Addr} {m c : Nat} {p : List Ky} (h : Pth S w (.slice a (m + 1) c) p) (hm : p.length = m + 1) : Pth S w (.slice a m c) p.dropLast := by
  obtain ⟨h0, a', c', he, h1, h2, h3, h4⟩ := h
  simp only [Value.slice.injEq] at he
  obtain ⟨rfl, _, rfl⟩ := he
  have hd : p.dropLast.length = m := by simp [hm]
  refine ⟨len_keys _, a, c, by rw [hd], by omega, h2, h3, ?_⟩
  rcases h4 with h4 | ⟨g, o, h5, h6, h7⟩
  · omega
  · refine .inr ⟨g, o, h5, h6, fun j u hj => h7 j u ?_⟩
    have hp : p = p.dropLast ++ [p.getLast (by intro e; rw [e] at hm; simp at hm)] := (List.dropLast_concat_getLast _).symm
    rw [hp, List.flatMap_append, List.getElem?_append_left (List.getElem?_eq_some_iff.1 hj).1]
    exact hj
theorem lsF_len : ∀ (l kept : List Fl) (out : List (List Ky)), (lsF kept out l).1.length + (lsF kept out l).2.length = kept.length + out.length + l.length
  | [], _, _ => by simp [lsF]
  | f :: r, kept, out => by
    simp only [lsF]
    split
    · rw [lsF_len]; simp; omega
    · rw [lsF_len]; simp; omega
def LooR (l : List Fl) (S : Nat → Prop) (w : World) (e : Ending) (w' : World) : Prop :=
  ∃ a c a' c', e = .returned (.tuple #[.slice a (lsF [] [] l).1.length c, .slice a' (lsF [] [] l).2.length c']) ∧ FlSl (fun b => S b ∨ Rg w.heap.size w'.heap.size b) w' (.slice a (lsF [] [] l).1.length c) (lsF [] [] l).1 ∧
    PaSl (fun b => S b ∨ Rg w.heap.size w'.heap.size b) w' (.slice a' (lsF [] [] l).2.length c') (lsF [] [] l).2 ∧ Below w.heap.size w w'
theorem loose_any (l : List Fl) (a : Option Addr) (c : Nat) (S : Nat → Prop) (w : World) (hv : FlSl S w (.slice a l.length c) l) (hS : ∀ b, S b → b < w.heap.size) (hl : l.length ≤ 1000) (hsm : SmF l) (hne : ∀ x ∈ l, x.p ≠ []) :
    Calls Tryz.prog 119 #[.slice a l.length c] w (LooR l S w) := by
  obtain ⟨a', c', he, hc, hcm, hat⟩ := hv.at
  obtain ⟨rfl, rfl⟩ : a = a' ∧ c = c' := by cases he; exact ⟨rfl, rfl⟩
  obtain ⟨i0, hi0, hz0, hz1, hz2⟩ := info_parts Tryz.info171''
  obtain ⟨j0, hj0, hy0, hy1, hy2⟩ := info_parts Tryz.info65'
  have HAT := hid hat
  have HS := hid hS
  have HSM := hid hsm
  have HNE := hid hne
  clear hat hS he hv hsm hne
  unfold maxLen at hcm
  go_enter Tryz.func119, Tryz.ntmps119
  go_wp2_with fail
  go_loopw [4, 5, 13] (fun v v2 i wr => ∃ (k : Nat) (K : List Fl) (O : List (List Ky)) (cs ds : List Value), k ≤ l.length ∧ i = .int .i64 k ∧ K.length ≤ k ∧ O.length ≤ k ∧ Hid (lsF [] [] l = lsF K O (l.drop k)) ∧
      wr.ownsRow w.heap.size 171 2 v K.length cs ∧ Hid (LCs rdFl S wr K cs) ∧ Hid (SmF K) ∧ wr.ownsRow w.heap.size 65 1 v2 O.length ds ∧ Hid (LCs rdPa S wr O ds) ∧ Hid (∀ b, v.ownBlock = some b → v2.ownBlock ≠ some b) ∧ Hid (Below w.heap.size w wr)) (fun _ _ i _ => l.length - (intOf i).toNat)
  case atStart => exact ⟨0, [], [], [], [], by omega, rfl, by simp, by simp, rfl, World.ownsRow_nil _ _ _ _, rfl, (fun x hx => by cases hx), World.ownsRow_nil _ _ _ _, rfl, (fun b hb => by simp [Value.ownBlock] at hb), Below.refl _ _⟩
  case round =>
    obtain ⟨k, K, O, cs, ds, hk, rfl, hKk, hOk, hD, hown, hlc, hsK, hown2, hlc2, hsep, hB⟩ := hrel
    have hsz := hB.out.size
    by_cases hlt : k < l.length
    · have hlt' : (k : Int) < (l.length : Int) := by omega
      obtain ⟨g, o, cs1, rfl, hg, ⟨ap, cp, an, cn, rfl, hP, hI⟩, hcell⟩ := HAT.out k hlt
      have hag := Agree.of_below hB.out HS.out
      have c0 := hag.cell hg (hcell 0 _ rfl)
      have c1 := hag.cell hg (hcell 1 _ rfl)
      rw [Nat.add_zero] at c0
      rw [← Nat.add_assoc] at c1
      have hm0 := List.getElem_mem hlt
      have hdrop : l.drop k = l[k] :: l.drop (k + 1) := List.drop_eq_getElem_cons hlt
      have hsx := HSM.out l[k] hm0
      have hnx := HNE.out l[k] hm0
      obtain ⟨x, hx⟩ : ∃ x, l[k] = x := ⟨_, rfl⟩
      rw [hx] at c0 c1 hP hI hdrop hsx hnx
      obtain ⟨m, hm⟩ : ∃ m, x.p.length = m + 1 := ⟨x.p.length - 1, by have := List.length_pos_iff.2 hnx; omega⟩
      rw [hm] at c0 hP
      have hm1 : m ≤ 1000 := by have := hsx.1; omega
      obtain ⟨aK, cK, rfl, hcK, hcKm⟩ := owns_shape hown
      have hb1 : Below wr.heap.size wr (wr.alloc (.cells #[.slice ap (m + 1) cp, .slice an x.l.length cn] 171)) := (Below.refl _ _).alloc (Nat.le_refl _) _
      have hdl : x.p.dropLast.length = m := by simp [hm]
      have hPc := (SlC.caps (show SlC S w 3 (.slice ap (m + 1) cp) (m + 1) _ by have := hP; unfold Pth at this; rwa [hm] at this))
      have hfind := find_any K x.p.dropLast aK ap cK cp (fun b => S b ∨ Rg w.heap.size wr.heap.size b) S (wr.alloc (.cells #[.slice ap (m + 1) cp, .slice an x.l.length cn] 171)) ⟨cs, ((SlC.of_owns hown).wide (fun b hb => Or.inr hb)).agree (Agree.of_below hb1 (fun b hb => hb.elim (fun h => by have := HS.out b h; omega) (fun h => h.2))), (hlc.out.wide (fun b hb => Or.inl hb)).agree (Agree.of_below hb1 (fun b hb => hb.elim (fun h => by have := HS.out b h; omega) (fun h => h.2)))⟩
        (fun b hb => by rcases hb with h | h; (have := HS.out b h; simp; omega); (have := h.2; simp; omega)) (by rw [hdl]; exact (Pth.init (hP.agree hag) hm).agree (Agree.of_below hb1 (fun b hb => by have := HS.out b hb; omega))) (fun b hb => by have := HS.out b hb; simp; omega) (by omega) hsK.out (by omega)
      rw [hdl] at hfind
      have HFI := hid hfind
      have HDR := hid hdrop
      have HSX := hid hsx
      have HP := hid (hP.agree hag)
      have HI := hid (hI.agree hag)
      have HN1 := hid (heap_alloc_new wr (.cells #[.slice ap (m + 1) cp, .slice an x.l.length cn] 171))
      have HB1 := hid hb1
      have HM := hid hm
      have q0 := cells_get HN1.out (k := 0) rfl
      clear hfind hcell hP hI hdrop hsx hnx hx hag hb1 hm0 hm hdl
      go_wp2_with fail
      refine HFI.out.mono ?_
      rintro e w2 ⟨ap2, cp2, an2, cn2, rfl, _, _, hb2⟩
      obtain ⟨xA, hxA⟩ : ∃ z, (fnd K x.p.dropLast).getD fl0 = z := ⟨_, rfl⟩
      obtain ⟨q, hq⟩ : ∃ z, (fnd K x.p.dropLast).isSome = z := ⟨_, rfl⟩
      rw [hxA, hq]
      have HQ := hid hq
      clear hxA hq
      have hzz := hb2.size
      simp only [World.size_alloc] at hzz
      have hN2 := (hb2.block wr.heap.size (by simp)).trans HN1.out
      have hN3 := (heap_alloc_old w2 (.cells #[.slice ap2 xA.p.length cp2, .slice an2 xA.l.length cn2] 171) (show wr.heap.size < w2.heap.size by omega)).trans hN2
      have p0 : (w2.alloc (.cells #[.slice ap2 xA.p.length cp2, .slice an2 xA.l.length cn2] 171)).cell? ⟨wr.heap.size, 0, none⟩ = some (.slice ap (m + 1) cp) := cells_get hN3 (k := 0) rfl
      have p1 : (w2.alloc (.cells #[.slice ap2 xA.p.length cp2, .slice an2 xA.l.length cn2] 171)).cell? ⟨wr.heap.size, 1, none⟩ = some (.slice an x.l.length cn) := cells_get hN3 (k := 1) rfl
      have HB2 := hid (HB1.out.trans (hb2.mono (by simp)))
      clear hN2 hN3 hb2 q0
      have hstep : Hid (∀ W, Below wr.heap.size wr W → wr.heap.size ≤ W.heap.size) := fun W h => h.size
      by_cases hkp : q = true ∨ m = 0
      · have hls : Hid (lsF [] [] l = lsF (K ++ [x]) O (l.drop (k + 1))) := by
          rw [Hid, hD.out, HDR.out]
          simp only [lsF]
          rw [if_pos (by rw [HQ.out, HM.out]; rcases hkp with h | h; exact .inl h; exact .inr (by omega))]
        have hB3 : Below wr.heap.size wr ((w2.alloc (.cells #[.slice ap2 xA.p.length cp2, .slice an2 xA.l.length cn2] 171)).alloc (.cells #[.slice ap (m + 1) cp, .slice an x.l.length cn] 171)) := (HB2.out.alloc (by omega) _).alloc (by simp; omega) _
        have HB3 := hid hB3
        have how3 := owns_below hown hB3 (Nat.le_refl _)
        have hw2a : ((w2.alloc (.cells #[.slice ap2 xA.p.length cp2, .slice an2 xA.l.length cn2] 171)).alloc (.cells #[.slice ap (m + 1) cp, .slice an x.l.length cn] 171)).heap.size = w2.heap.size + 2 := by simp
        have hnb : ((w2.alloc (.cells #[.slice ap2 xA.p.length cp2, .slice an2 xA.l.length cn2] 171)).alloc (.cells #[.slice ap (m + 1) cp, .slice an x.l.length cn] 171)).heap[w2.heap.size + 1]? = some (.cells #[.slice ap (m + 1) cp, .slice an x.l.length cn] 171 (0, 0)) := by
          have h := heap_alloc_new (w2.alloc (.cells #[.slice ap2 xA.p.length cp2, .slice an2 xA.l.length cn2] 171)) (.cells #[.slice ap (m + 1) cp, .slice an x.l.length cn] 171)
          rwa [World.size_alloc] at h
        have HNB := hid hnb
        clear hB3 hnb
        have key : ∀ (a4 : Option Addr) (c4 : Nat) (w4 : World), w4.ownsRow w.heap.size 171 2 (.slice a4 (K.length + 1) c4) (K.length + 1) (cs ++ [.slice ap (m + 1) cp, .slice an x.l.length cn]) →
            ((w2.alloc (.cells #[.slice ap2 xA.p.length cp2, .slice an2 xA.l.length cn2] 171)).alloc (.cells #[.slice ap (m + 1) cp, .slice an x.l.length cn] 171)).grownBy w4 (Value.slice aK K.length cK).ownBlock →
            (∀ g, (Value.slice a4 (K.length + 1) c4).ownBlock = some g → (Value.slice aK K.length cK).ownBlock = some g ∨ g = ((w2.alloc (.cells #[.slice ap2 xA.p.length cp2, .slice an2 xA.l.length cn2] 171)).alloc (.cells #[.slice ap (m + 1) cp, .slice an x.l.length cn] 171)).heap.size) →
            Hid (w4.ownsRow w.heap.size 171 2 (.slice a4 (K.length + 1) c4) (K ++ [x]).length (cs ++ [.slice ap (m + 1) cp, .slice an x.l.length cn]) ∧ LCs rdFl S w4 (K ++ [x]) (cs ++ [.slice ap (m + 1) cp, .slice an x.l.length cn]) ∧ SmF (K ++ [x]) ∧ w4.ownsRow w.heap.size 65 1 u5 O.length ds ∧ LCs rdPa S w4 O ds ∧
              (∀ b, (Value.slice a4 (K.length + 1) c4).ownBlock = some b → u5.ownBlock ≠ some b) ∧ Below w.heap.size w w4) := by
          intro a4 c4 w4 hown4 hgrow4 hat4
          have hkl : ∀ b, (Value.slice aK K.length cK).ownBlock = some b → w.heap.size ≤ b ∧ b < wr.heap.size := fun b hb => hown.lt b hb
          have hul : ∀ b, u5.ownBlock = some b → w.heap.size ≤ b ∧ b < wr.heap.size := fun b hb => hown2.lt b hb
          have hagS : Agree S wr w4 := fun b hb => by
            have h1 := HS.out b hb
            exact (hgrow4.block b (by omega) (fun e => by have := (hkl b e.symm).1; omega)).trans (HB3.out.block b (by omega))
          have hlen : (K ++ [x]).length = K.length + 1 := by simp
          refine ⟨by rw [hlen]; exact hown4, (hlc.out.agree hagS).app (LCs.single ⟨ap, cp, an, cn, by rw [HM.out], ?_, HI.out.agree hagS⟩), ?_, ?_, hlc2.out.agree hagS, ?_, ?_⟩
          · rw [HM.out]; exact HP.out.agree hagS
          · intro z hz
            rcases List.mem_append.1 hz with h | h
            · exact hsK.out z h
            · simp only [List.mem_singleton] at h; rw [h]; exact HSX.out
          · exact owns_agree hown2 fun b hb => (hgrow4.block b (by have := (hul b hb).2; omega) (fun e => hsep.out b e.symm hb)).trans (HB3.out.block b (hul b hb).2)
          · intro b hb hb5
            rcases hat4 b hb with h | h
            · exact hsep.out b h hb5
            · have := (hul b hb5).2; omega
          · exact (hB.out.trans (HB3.out.mono hsz)).grown hgrow4 (by omega) (fun b hb => (hkl b hb).1)
        have KEY := hid key
        clear key
        have hkb : K.length ≤ 1000 := by omega
        cases q with
        | true =>
          clear hkp
          go_wp2_with (at_builtin; refine (wpList_append_ao _ rfl _ _ _ rfl w.heap.size 171 i0 _ 2 48 Tryz.underlying167 hi0 hz0 hz1 hz2 rfl (by omega) (Value.slice aK K.length cK) K.length cs rfl how3 (some ⟨w2.heap.size + 1, 0, none⟩) 1 1 [.slice ap (m + 1) cp, .slice an x.l.length cn] rfl rfl (fun h => by cases h) (fun ad had => by cases had; exact World.news_of_block (cs := #[.slice ap (m + 1) cp, .slice an x.l.length cn]) (t := 171) (fr := (0, 0)) HNB.out) (by simp [Value.oneCell']) (by unfold maxLen; omega) (by omega) (by omega) ?_); intro a4 c4 w4 hown4 hgrow4 hat4)
          obtain ⟨e1, e2, e3, e4, e5, e6, e7⟩ := (KEY.out a4 c4 w4 hown4 hgrow4 hat4).out
          go_roundw
          case rel => exact ⟨k + 1, K ++ [x], O, _, ds, by omega, by go_num, by simp; omega, by omega, hls, e1, e2, e3, e4, e5, e6, e7⟩
          case measure => simp [intOf]; omega
        | false =>
          have hmz : m = 0 := by rcases hkp with h | h; cases h; exact h
          have hm0' : ((m : Int) == 0) = true := by simp [hmz]
          clear hmz hkp
          go_wp2_with (at_builtin; refine (wpList_append_ao _ rfl _ _ _ rfl w.heap.size 171 i0 _ 2 48 Tryz.underlying167 hi0 hz0 hz1 hz2 rfl (by omega) (Value.slice aK K.length cK) K.length cs rfl how3 (some ⟨w2.heap.size + 1, 0, none⟩) 1 1 [.slice ap (m + 1) cp, .slice an x.l.length cn] rfl rfl (fun h => by cases h) (fun ad had => by cases had; exact World.news_of_block (cs := #[.slice ap (m + 1) cp, .slice an x.l.length cn]) (t := 171) (fr := (0, 0)) HNB.out) (by simp [Value.oneCell']) (by unfold maxLen; omega) (by omega) (by omega) ?_); intro a4 c4 w4 hown4 hgrow4 hat4)
          obtain ⟨e1, e2, e3, e4, e5, e6, e7⟩ := (KEY.out a4 c4 w4 hown4 hgrow4 hat4).out
          go_roundw
          case rel => exact ⟨k + 1, K ++ [x], O, _, ds, by omega, by go_num, by simp; omega, by omega, hls, e1, e2, e3, e4, e5, e6, e7⟩
          case measure => simp [intOf]; omega
      · have hq0 : q = false := by cases q; rfl; exact absurd (.inl rfl) hkp
        have hmp : 0 < m := by rcases Nat.eq_zero_or_pos m with h | h; exact absurd (.inr h) hkp; exact h
        subst hq0
        have hm0' : ((m : Int) == 0) = false := by simp; omega
        have hls : Hid (lsF [] [] l = lsF K (O ++ [x.p]) (l.drop (k + 1))) := by
          rw [Hid, hD.out, HDR.out]
          simp only [lsF]
          rw [if_neg (by rw [HQ.out, HM.out]; rintro (h | h); cases h; omega)]
        have hB3 : Below wr.heap.size wr ((w2.alloc (.cells #[.slice ap2 xA.p.length cp2, .slice an2 xA.l.length cn2] 171)).alloc (.cells #[.slice ap (m + 1) cp] 65)) := (HB2.out.alloc (by omega) _).alloc (by simp; omega) _
        have HB3 := hid hB3
        have how3 := owns_below hown2 hB3 (Nat.le_refl _)
        have hw2a : ((w2.alloc (.cells #[.slice ap2 xA.p.length cp2, .slice an2 xA.l.length cn2] 171)).alloc (.cells #[.slice ap (m + 1) cp] 65)).heap.size = w2.heap.size + 2 := by simp
        have hnb : ((w2.alloc (.cells #[.slice ap2 xA.p.length cp2, .slice an2 xA.l.length cn2] 171)).alloc (.cells #[.slice ap (m + 1) cp] 65)).heap[w2.heap.size + 1]? = some (.cells #[.slice ap (m + 1) cp] 65 (0, 0)) := by
          have h := heap_alloc_new (w2.alloc (.cells #[.slice ap2 xA.p.length cp2, .slice an2 xA.l.length cn2] 171)) (.cells #[.slice ap (m + 1) cp] 65)
          rwa [World.size_alloc] at h
        have HNB := hid hnb
        clear hB3 hnb hkp
        have hkb : O.length ≤ 1000 := by omega
        go_wp2_with (at_builtin; refine (wpList_append_ao _ rfl _ _ _ rfl w.heap.size 65 j0 _ 1 24 Tryz.underlying49 hj0 hy0 hy1 hy2 rfl (by omega) u5 O.length ds rfl how3 (some ⟨w2.heap.size + 1, 0, none⟩) 1 1 [.slice ap (m + 1) cp] rfl rfl (fun h => by cases h) (fun ad had => by cases had; exact World.news_of_block (cs := #[.slice ap (m + 1) cp]) (t := 65) (fr := (0, 0)) HNB.out) (by simp [Value.oneCell']) (by unfold maxLen; omega) (by omega) (by omega) ?_); intro a4 c4 w4 hown4 hgrow4 hat4)
        have hkl : ∀ b, u5.ownBlock = some b → w.heap.size ≤ b ∧ b < wr.heap.size := fun b hb => hown2.lt b hb
        have hul : ∀ b, (Value.slice aK K.length cK).ownBlock = some b → w.heap.size ≤ b ∧ b < wr.heap.size := fun b hb => hown.lt b hb
        have hagS : Agree S wr w4 := fun b hb => by
          have h1 := HS.out b hb
          exact (hgrow4.block b (by omega) (fun e => by have := (hkl b e.symm).1; omega)).trans (HB3.out.block b (by omega))
        have e1 : w4.ownsRow w.heap.size 171 2 (.slice aK K.length cK) K.length cs := owns_agree hown fun b hb => (hgrow4.block b (by have := (hul b hb).2; omega) (fun e => hsep.out b hb e.symm)).trans (HB3.out.block b (hul b hb).2)
        have e2 := hid (hlc.out.agree hagS)
        have e4 : w4.ownsRow w.heap.size 65 1 (.slice a4 (O.length + 1) c4) (O ++ [x.p]).length (ds ++ [.slice ap (m + 1) cp]) := by
          have hlen : (O ++ [x.p]).length = O.length + 1 := by simp
          rw [hlen]; exact hown4
        have e5 : Hid (LCs rdPa S w4 (O ++ [x.p]) (ds ++ [.slice ap (m + 1) cp])) := (hlc2.out.agree hagS).app (LCs.single ⟨ap, cp, by rw [HM.out], by rw [HM.out]; exact HP.out.agree hagS⟩)
        have e6 : Hid (∀ b, (Value.slice aK K.length cK).ownBlock = some b → (Value.slice a4 (O.length + 1) c4).ownBlock ≠ some b) := fun b hb h5 => by
          rcases hat4 b h5 with h | h
          · exact hsep.out b hb h
          · have := (hul b hb).2; omega
        have e7 : Hid (Below w.heap.size w w4) := (hB.out.trans (HB3.out.mono hsz)).grown hgrow4 (by omega) (fun b hb => (hkl b hb).1)
        clear hkl hul hagS
        go_roundw
        case rel => exact ⟨k + 1, K, O ++ [x.p], cs, _, by omega, by go_num, by omega, by simp; omega, hls, e1, e2, hsK, e4, e5, e6, e7⟩
        case measure => simp [intOf]; omega
    · obtain rfl : k = l.length := by omega
      have hlt' : ¬ (l.length : Int) < (l.length : Int) := by omega
      have hls : lsF [] [] l = (K, O) := by rw [hD.out, List.drop_length]; rfl
      have HLS := hid hls
      clear hls
      go_wp2_with fail
      obtain ⟨a8, c8, rfl, _, _⟩ := owns_shape hown
      obtain ⟨a9, c9, rfl, _, _⟩ := owns_shape hown2
      refine bodyPost_ret (v := .tuple #[.slice a8 K.length c8, .slice a9 O.length c9]) (by simp [results, Tryz.results119, go_sem]) rfl ?_
      refine ⟨a8, c8, a9, c9, by rw [HLS.out], ?_, ?_, hB.out⟩
      · rw [HLS.out]
        exact ⟨cs, (SlC.of_owns hown).wide fun b hb => .inr hb, hlc.out.wide fun b hb => .inl hb⟩
      · rw [HLS.out]
        exact ⟨ds, (SlC.of_owns hown2).wide fun b hb => .inr hb, hlc2.out.wide fun b hb => .inl hb⟩
end Go.Proofs.LF
