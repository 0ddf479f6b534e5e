/- Parts of the proof of a law of layer 11 (file): LfW33. The conditions stand in each theorem. -/
import Derived.BigQuiet
import Derived.Deep.AppendLies
import Derived.Deep.QuietTactic
import Derived.Deep.RegionHeld3
import Derived.Laws.ResultCell
import Derived.Outline
import Derived.Test.YtadkpjgpefcphaaGreatDoorProg
import Derived.WalkKit
import Derived.WalkLawsBesides
import Derived.WalkSpells
import Derived.Test.YtadkpjgpefcphaaGreatDoorMdac
import Derived.Test.YtadkpjgpefcphaaGreatDoorMdae
import Derived.Test.YtadkpjgpefcphaaGreatDoorMdau
import Derived.Test.YtadkpjgpefcphaaGreatDoorMdav
import Derived.Test.YtadkpjgpefcphaaGreatDoorMdaw
set_option linter.all false
set_option linter.unusedVariables false
set_option linter.unusedSimpArgs false
namespace Go.Proofs.LF
open Go.RowKit Go.Sort
set_option maxHeartbeats 4000000
set_option maxRecDepth 100000
attribute [local go_sem] bs_toList bs_size bs_get
theorem wpList_setPut {P : Program} {w : World} {ops : Array Oper} {rest : List Oper} {o : Oper} {a : Act} {Q : Exit → Act → World → Prop} (hg : o.guard = none)
    (m x v : Operand) (t : TypeId) (hop : o.op = Op.mapUpdate t m x v)
    (k e : TypeId) (ht : P.underlying t = some (.map k e)) (hk : P.underlying k = some .string) (he : P.underlying e = some .bool) (b n : Nat) (l : List (List UInt8))
    (hm : a.eval m = .map (some b)) (h : SetM P k e b n l w) (hn : n < maxLen) (s : List UInt8) (hs : s.length ≤ maxLen) (hx : a.eval x = .string (bs s)) (hv : a.eval v = .bool true)
    (hK : ∀ w', SetM P k e b (n + 1) (s :: l) w' → w.grownBy w' (some b) → wpList P ops Q rest (a.put o.dst undef) w') : wpList P ops Q (o :: rest) a w :=
  wpList_plain hg fun _ hK' => wp_setPut m x v t hop k e ht hk he b n l hm h hn s hs hx hv fun w' h1 h2 => hK' _ _ (hK w' h1 h2)
theorem Tryz.info65' : (Tryz.prog.info? 65).map (fun i => (i.zero, i.size, i.bytes)) = some (some (.slice none 0 0), 1, 24) := by kernel_rfl
theorem paths_any (ls : List (List Fl)) (a : Option Addr) (c : Nat) (S : Nat → Prop) (w : World) (hv : LSl rdLs S w (.slice a ls.length c) ls) (hS : ∀ b, S b → b < w.heap.size) (hl : ls.length ≤ 1000) (hn : (ls.map List.length).sum ≤ 1000)
    (hok : ∀ x ∈ ls.flatten, x.p.length ≤ 1000 ∧ ∀ k ∈ x.p, OkK k) (ht : Pow w) :
    Calls Tryz.prog 115 #[.slice a ls.length c] w fun e w' => ∃ a' c', e = .returned (.slice a' (pthsF ls).length c') ∧ PaSl (fun b => S b ∨ Rg w.heap.size w'.heap.size b) w' (.slice a' (pthsF ls).length c') (pthsF ls) ∧ Below w.heap.size w w' := by
  have hmm := @run_makeMap Tryz.prog
  obtain ⟨i0, hi0, hz0, hz1, hz2⟩ := info_parts Tryz.info65'
  have hb1 : Below w.heap.size w (w.alloc (.map #[] 0)) := (Below.refl _ _).alloc (Nat.le_refl _) _
  have HC := hid (concat_any ls a c S _ (hv.agree (Agree.of_below hb1 hS)) (fun b hb => by have := hS b hb; simp; omega) hl (by omega))
  have HSM := hid (SetM.made (P := Tryz.prog) 9 4 w)
  have HB1 := hid hb1
  have HT := hid ht
  have HS := hid hS
  have HOK := hid hok
  have HNN := hid hn
  clear hv hS hok hb1 ht hn
  go_enter Tryz.func115, Tryz.ntmps115
  go_wp2_with fail
  refine HC.out.mono ?_
  rintro e w1 ⟨ac, cc, rfl, hF1, hb2⟩
  obtain ⟨all, hall⟩ : ∃ all, ls.flatten = all := ⟨_, rfl⟩
  have hlen1 : all.length ≤ 1000 := by rw [← hall, List.length_flatten]; exact HNN.out
  rw [hall] at hF1 ⊢
  have hpf : pthsF ls = srtP (ddP [] (all.map Fl.p)) := by rw [pthsF, hall]
  have hokA : ∀ x ∈ all, x.p.length ≤ 1000 ∧ ∀ k ∈ x.p, OkK k := by rw [← hall]; exact HOK.out
  obtain ⟨S1, hS1⟩ : ∃ S1 : Nat → Prop, S1 = fun b => S b ∨ Rg (w.alloc (.map #[] 0)).heap.size w1.heap.size b := ⟨_, rfl⟩
  rw [← hS1] at hF1
  have hz1' := hb2.size
  simp only [World.size_alloc] at hz1'
  have hS1lt : ∀ b, S1 b → b < w1.heap.size ∧ b ≠ w.heap.size ∧ (S b ∨ w.heap.size < b) := fun b hb => by
    rw [hS1] at hb
    rcases hb with hb | hb
    · have := HS.out b hb; exact ⟨by omega, by omega, .inl hb⟩
    · have h1 := hb.1; have h2 := hb.2; simp only [World.size_alloc] at h1; exact ⟨h2, by omega, .inr (by omega)⟩
  obtain ⟨a', c', he, hc, hcm, hat⟩ := hF1.at
  obtain ⟨rfl, rfl⟩ : ac = a' ∧ cc = c' := by cases he; exact ⟨rfl, rfl⟩
  have HAT := hid hat
  have HSM1 := hid (HSM.out.kept (hb2.block w.heap.size (by simp)))
  have HB2 := hid (HB1.out.trans (hb2.mono (by simp)))
  have HS1 := hid hS1lt
  have HOKA := hid hokA
  have HPF := hid hpf
  have HSE := hid hS1
  have HZ1 := hid hz1'
  unfold maxLen at hcm
  clear hat he hF1 hb2 hS1lt hokA hpf hS1 hall hz1'
  go_wp2_with fail
  go_loopw [3, 12] (fun v i wr => ∃ (k : Nat) (acc : List (List Ky)) (cs : List Value) (l : List (List UInt8)), k ≤ all.length ∧ acc.length ≤ k ∧ i = .int .i64 k ∧ Hid (ddP [] (all.map Fl.p) = ddP acc ((all.map Fl.p).drop k)) ∧
      wr.ownsRow w1.heap.size 65 1 v acc.length cs ∧ Hid (LCs rdPa S1 wr acc cs) ∧ Hid (SetM Tryz.prog 9 4 w.heap.size acc.length l wr) ∧ Hid (∀ s, s ∈ l ↔ s ∈ acc.map sptL) ∧ Hid (∀ p ∈ acc, p.length ≤ 1000) ∧ Hid (Below w.heap.size w wr) ∧ Hid (∀ b, b < w1.heap.size → b ≠ w.heap.size → wr.heap[b]? = w1.heap[b]?) ∧ w1.heap.size ≤ wr.heap.size) (fun _ i _ => all.length - (intOf i).toNat)
  case atStart => exact ⟨0, [], [], [], by omega, by simp, rfl, rfl, World.ownsRow_nil _ _ _ _, rfl, HSM1.out, (fun s => by simp), (fun p hp => by cases hp), HB2.out, (fun _ _ _ => rfl), Nat.le_refl _⟩
  case round =>
    obtain ⟨k, acc, cs, l, hk, hacc, rfl, hD, hown, hlc, hsm, hmem, hap, hB, hkp, hzr⟩ := hrel
    by_cases hlt : k < all.length
    · have hlt' : (k : Int) < (all.length : Int) := by omega
      obtain ⟨g, o, cs1, rfl, hg, ⟨ap, cp, an, cn, rfl, hP, hI⟩, hcell⟩ := HAT.out k hlt
      have hg1 := HS1.out g hg
      have c0 := (World.cell?_of_block (w := w1) (w' := wr) (a := ⟨g, o + (k * 2 + 0), none⟩) (hkp.out g hg1.1 hg1.2.1)).trans (hcell 0 _ rfl)
      have c1 := (World.cell?_of_block (w := w1) (w' := wr) (a := ⟨g, o + (k * 2 + 1), none⟩) (hkp.out g hg1.1 hg1.2.1)).trans (hcell 1 _ rfl)
      rw [Nat.add_zero] at c0
      rw [← Nat.add_assoc] at c1
      have hagr : Agree S1 w1 wr := fun b hb => hkp.out b (HS1.out b hb).1 (HS1.out b hb).2.1
      have hokk := HOKA.out all[k] (List.getElem_mem hlt)
      have hdrop : (all.map Fl.p).drop k = all[k].p :: (all.map Fl.p).drop (k + 1) := by
        rw [List.drop_eq_getElem_cons (by simpa using hlt)]; simp
      obtain ⟨x, hx⟩ : ∃ x, all[k] = x := ⟨_, rfl⟩
      rw [hx] at c0 c1 hP hI hokk hdrop
      have hW : Below w.heap.size w (wr.alloc (.cells #[.slice ap x.p.length cp, .slice an x.l.length cn] 171)) := hB.out.alloc (by have := HZ1.out; omega) _
      have hspl := spelt_any x.p ap cp S1 (wr.alloc (.cells #[.slice ap x.p.length cp, .slice an x.l.length cn] 171)) ((hP.agree hagr).agree (fun b hb => heap_alloc_old _ _ (by have := (HS1.out b hb).1; omega))) (fun b hb => by have := (HS1.out b hb).1; simp; omega) hokk.1 hokk.2 (HT.out.below hW)
      have hsl := sptL_len hokk.2
      have HSPL := hid hspl
      have HW := hid hW
      have HDR := hid hdrop
      have HOK := hid hokk
      have HPp := hid (hP.agree hagr)
      have HX := hid hx
      have hsl2 : (sptL x.p).length ≤ 1006000 := by have := hokk.1; omega
      clear hcell hspl hW hdrop hokk hP hI hx hagr hsl
      go_wp2_with fail
      refine HSPL.out.mono ?_
      rintro e w3 ⟨rfl, hb3⟩
      have hz3 := hb3.size
      simp only [World.size_alloc] at hz3
      have hml : w.heap.size < wr.heap.size := by have := HZ1.out; omega
      have hsm3 : Hid (SetM Tryz.prog 9 4 w.heap.size acc.length l w3) := hsm.out.kept ((hb3.block _ (by simp; omega)).trans (heap_alloc_old _ _ hml))
      have hf3 := (hb3.block wr.heap.size (by simp)).trans (heap_alloc_new _ _)
      have m0 := cells_get hf3 (k := 0) rfl
      have ow3 : w3.ownsRow w1.heap.size 65 1 u3 acc.length cs := owns_below (hown.alloc _) hb3 (Nat.le_refl _)
      have HB3 := hid (HW.out.trans (hb3.mono (by simp; omega)))
      have HK3 : Hid (∀ b, b < wr.heap.size → w3.heap[b]? = wr.heap[b]?) := fun b hb => (hb3.block b (by simp; omega)).trans (heap_alloc_old _ _ hb)
      have HF3 := hid hf3
      have hzb : (zeroValue 4).run Tryz.prog w3 = .ok (.bool false) w3 := Tryz.zeroValue4 w3
      have HZB := hid hzb
      clear hf3 hb3 hzb
      obtain ⟨sp, hsp⟩ : ∃ sp, sptL x.p = sp := ⟨_, rfl⟩
      rw [hsp] at hsl2 ⊢
      have HSP := hid hsp
      clear hsp
      have hss : sp.length ≤ maxLen := by unfold maxLen; omega
      by_cases hmt : sp ∈ l
      · have hdm : decide (sp ∈ l) = true := by simp [hmt]
        have hdd : Hid (ddP [] (all.map Fl.p) = ddP acc ((all.map Fl.p).drop (k + 1))) := by
          rw [Hid, hD.out, HDR.out]
          simp only [ddP]
          rw [if_pos (by rw [HSP.out]; exact (hmem.out sp).1 hmt)]
        clear hmt
        go_wp2_with (at_lookup; refine wpList_setLook rfl _ _ 263 rfl 9 4 Tryz.underlying263 Tryz.underlying9 Tryz.underlying4 HZB.out w.heap.size acc.length l rfl hsm3.out sp hss rfl ?_)
        have hag3 : Agree S1 wr w3 := fun b hb => HK3.out b (by have := (HS1.out b hb).1; omega)
        have hkp3 : Hid (∀ b, b < w1.heap.size → b ≠ w.heap.size → w3.heap[b]? = w1.heap[b]?) := fun b h1 h2 => (HK3.out b (by omega)).trans (hkp.out b h1 h2)
        go_roundw
        case rel => exact ⟨k + 1, acc, cs, l, by omega, by omega, by go_num, hdd, ow3, hlc.out.agree hag3, hsm3, hmem, hap, HB3, hkp3, by omega⟩
        case measure => simp [intOf]; omega
      · have hdm : decide (sp ∈ l) = false := by simp [hmt]
        have hdd : Hid (ddP [] (all.map Fl.p) = ddP (acc ++ [x.p]) ((all.map Fl.p).drop (k + 1))) := by
          rw [Hid, hD.out, HDR.out]
          simp only [ddP]
          rw [if_neg (by rw [HSP.out]; exact fun e => hmt ((hmem.out sp).2 e))]
        clear hmt
        have hag3 : Agree S1 wr w3 := fun b hb => HK3.out b (by have := (HS1.out b hb).1; omega)
        have HAG3 := hid hag3
        clear hag3
        have hlen3 : acc.length ≤ 1000 := by omega
        have hb13 : w1.heap.size ≤ w3.heap.size := by omega
        go_wp2_with (first
          | (at_lookup; refine wpList_setLook rfl _ _ 263 rfl 9 4 Tryz.underlying263 Tryz.underlying9 Tryz.underlying4 HZB.out w.heap.size acc.length l rfl hsm3.out sp hss rfl ?_)
          | (at_builtin; refine (wpList_append_ao _ rfl _ _ _ rfl w1.heap.size 65 i0 _ 1 24 Tryz.underlying49 hi0 hz0 hz1 hz2 rfl (by omega) u3 acc.length cs rfl (ow3.alloc _) (some ⟨w3.heap.size, 0, none⟩) 1 1 [.slice ap x.p.length cp] rfl rfl (fun h => by cases h) (fun ad had => by cases had; exact World.news_of_block (cs := #[.slice ap x.p.length cp]) (t := 65) (fr := (0, 0)) (heap_alloc_new _ _)) (by simp [Value.oneCell']) (by unfold maxLen; omega) (by omega) (by simp; omega) ?_); intro a4 c4 w4 hown4 hgrow4 hat4; have hsm4 := hid (hsm3.out.kept ((hgrow4.block w.heap.size (by simp; omega) (fun e => by have := (ow3.lt _ e.symm).1; have := HZ1.out; omega)).trans (heap_alloc_old _ _ (by omega)))))
          | (at_mapUpdate; refine wpList_setPut rfl _ _ _ 263 rfl 9 4 Tryz.underlying263 Tryz.underlying9 Tryz.underlying4 w.heap.size acc.length l rfl hsm4.out (by unfold maxLen; omega) sp hss rfl rfl ?_; intro w5 hsm5 hgrow5))
        have hwl : w.heap.size < w1.heap.size := by have := HZ1.out; omega
        have hfar : ∀ b, b < w3.heap.size → b ≠ w.heap.size → u3.ownBlock ≠ some b → w5.heap[b]? = w3.heap[b]? := fun b h1 h2 h3 => by
          have hg4 := hgrow4.size
          simp only [World.size_alloc] at hg4
          exact (hgrow5.block b (by omega) (fun e => h2 (Option.some.inj e))).trans ((hgrow4.block b (by simp; omega) (fun e => h3 e.symm)).trans (heap_alloc_old _ _ h1))
        have hul : ∀ b, u3.ownBlock = some b → w1.heap.size ≤ b := fun b hb => (ow3.lt b hb).1
        have hag5 : Agree S1 w3 w5 := fun b hb => by
          have h1 := HS1.out b hb
          exact hfar b (by omega) h1.2.1 (fun e => by have := hul b e; omega)
        have hkp5 : Hid (∀ b, b < w1.heap.size → b ≠ w.heap.size → w5.heap[b]? = w1.heap[b]?) := fun b h1 h2 => (hfar b (by omega) h2 (fun e => by have := hul b e; omega)).trans ((HK3.out b (by omega)).trans (hkp.out b h1 h2))
        have how5 : w5.ownsRow w1.heap.size 65 1 (.slice a4 (acc.length + 1) c4) (acc.length + 1) (cs ++ [.slice ap x.p.length cp]) := owns_agree hown4 fun g hg => by
          have h1 := hown4.lt g hg
          exact hgrow5.block g h1.2 (fun e => by have := Option.some.inj e; omega)
        have hlc5 : LCs rdPa S1 w5 (acc ++ [x.p]) (cs ++ [.slice ap x.p.length cp]) := ((hlc.out.agree HAG3.out).agree hag5).app (LCs.single ⟨ap, cp, rfl, (HPp.out.agree HAG3.out).agree hag5⟩)
        have hmem5 : Hid (∀ s, s ∈ sp :: l ↔ s ∈ (acc ++ [x.p]).map sptL) := fun s => by
          rw [List.map_append, List.mem_append, List.mem_cons, hmem.out s, ← HSP.out]
          simp only [List.map_cons, List.map_nil, List.mem_singleton]
          exact Or.comm
        have hap5 : Hid (∀ p ∈ acc ++ [x.p], p.length ≤ 1000) := fun p hp => by
          rcases List.mem_append.1 hp with h | h
          · exact hap.out p h
          · simp only [List.mem_singleton] at h; rw [h]; exact HOK.out.1
        have hsz4 := hgrow4.size
        simp only [World.size_alloc] at hsz4
        have hB5 : Hid (Below w.heap.size w w5) := ((HB3.out.alloc HB3.out.size _).grown hgrow4 (by have := HB3.out.size; simp; omega) (fun k hk => by have := hul k hk; omega)).grown hgrow5 (by have := HB3.out.size; omega) (fun k hk => by rw [Option.some.inj hk]; exact Nat.le_refl _)
        have hz5 := hgrow5.size
        go_roundw
        case rel => exact ⟨k + 1, acc ++ [x.p], cs ++ [.slice ap x.p.length cp], sp :: l, by omega, by simp; omega, by go_num, hdd, by simpa using how5, hid hlc5, by simpa [Hid] using hsm5, hmem5, hap5, hB5, hkp5, by omega⟩
        case measure => simp [intOf]; omega
    · obtain rfl : k = all.length := by omega
      have hlt' : ¬ (all.length : Int) < (all.length : Int) := by omega
      have hdn : ddP [] (all.map Fl.p) = acc := by
        rw [hD.out, List.drop_eq_nil_of_le (by simp)]; rfl
      have HDN := hid hdn
      clear hdn
      go_wp2_with fail
      refine (sort_any acc _ w1.heap.size cs S1 wr hown hlc.out (fun b hb => by
        have h1 := (HS1.out b hb).1
        exact ⟨by omega, fun e => by have := (hown.lt b e).1; omega⟩) hap.out (by omega)).mono ?_
      rintro e w6 ⟨rfl, cs6, hown6, hlc6, hgrow6⟩
      have HB6 := hid (hB.out.grown hgrow6 (by have := HZ1.out; omega) (fun k hk => by have := (hown.lt k hk).1; have := HZ1.out; omega))
      go_wp2_with fail
      go_ret
      obtain ⟨a9, c9, rfl, _, _⟩ := owns_shape hown6
      have hlen : (srtP acc).length = acc.length := (srtP_perm acc).length_eq
      rw [HPF.out, HDN.out, hlen]
      have hz6 := hgrow6.size
      refine ⟨a9, c9, by simp, ⟨cs6, ?_, ?_⟩, HB6.out⟩
      · rw [hlen]
        exact (SlC.of_owns hown6).wide fun b hb => .inr ⟨by have := hb.1; have := HZ1.out; omega, hb.2⟩
      · refine hlc6.wide fun b hb => ?_
        have h1 := HS1.out b hb
        rcases h1.2.2 with h | h
        · exact .inl h
        · exact .inr ⟨by omega, by omega⟩
end Go.Proofs.LF
