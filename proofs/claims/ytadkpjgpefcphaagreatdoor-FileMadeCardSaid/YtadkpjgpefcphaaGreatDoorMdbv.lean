/- Parts of the proof of a law of layer 11 (file): LfW96, LfJo, LfW78, LfW98, LfSyA, LfW78c, LfW99, LfMd. The conditions stand in each theorem. -/
import Derived.BigQuiet
import Derived.Deep.AppendLies
import Derived.Deep.Cut
import Derived.Deep.CutBlock
import Derived.Deep.CutRange
import Derived.Deep.QuietTactic
import Derived.Deep.RegionHeld3
import Derived.Laws.ResultCell
import Derived.Outline
import Derived.Shelf.SlSortCmp.WholeK
import Derived.Test.YtadkpjgpefcphaaGreatDoorProg
import Derived.WalkKit
import Derived.WalkLawsBesides
import Derived.WalkSpells
import Derived.Test.YtadkpjgpefcphaaGreatDoorMdaf
import Derived.Test.YtadkpjgpefcphaaGreatDoorMdag
import Derived.Test.YtadkpjgpefcphaaGreatDoorMdaj
import Derived.Test.YtadkpjgpefcphaaGreatDoorMdao
import Derived.Test.YtadkpjgpefcphaaGreatDoorMdat
import Derived.Test.YtadkpjgpefcphaaGreatDoorMdau
import Derived.Test.YtadkpjgpefcphaaGreatDoorMdav
import Derived.Test.YtadkpjgpefcphaaGreatDoorMdaw
import Derived.Test.YtadkpjgpefcphaaGreatDoorMdbg
import Derived.Test.YtadkpjgpefcphaaGreatDoorMdbi
import Derived.Test.YtadkpjgpefcphaaGreatDoorMdbk
import Derived.Test.YtadkpjgpefcphaaGreatDoorMdbl
import Derived.Test.YtadkpjgpefcphaaGreatDoorMdbm
import Derived.Test.YtadkpjgpefcphaaGreatDoorMdbn
import Derived.Test.YtadkpjgpefcphaaGreatDoorMdbo
import Derived.Test.YtadkpjgpefcphaaGreatDoorMdbp
import Derived.Test.YtadkpjgpefcphaaGreatDoorMdbs
import Derived.Test.YtadkpjgpefcphaaGreatDoorMdbu
set_option linter.all false
set_option linter.unusedVariables false
set_option linter.unusedSimpArgs false
namespace Go.Proofs.LF
open Go.RowKit Go.Sort
set_option maxHeartbeats 4000000
set_option maxRecDepth 100000
attribute [local go_sem] bs_toList bs_size bs_get
def backL (l : List Ch) : List Ch := if ckC l = 0 then l.map turnC else []
theorem Back_any (l : List Ch) (al : Option Addr) (cl : Nat) (S : Nat → Prop) (w : World) (hv : ChSl S w (.slice al l.length cl) l) (hS : ∀ b, S b → b < w.heap.size) (hl : l.length ≤ 1000) (hsm : SmCh l) :
    Calls Tryz.prog 72 #[.slice al l.length cl] w fun e w' => ∃ a c, e = .returned (.tuple #[.slice a (backL l).length c, .int .i64 (ckC l)]) ∧ ChSl (Rg w.heap.size w'.heap.size) w' (.slice a (backL l).length c) (backL l) ∧ Below w.heap.size w w' := by
  obtain ⟨i0, hi0, hz0, hz1, hz2⟩ := info_parts Tryz.info68'
  have CK := hid (CheckChanges_any l al cl S w hv hS hl hsm)
  obtain ⟨al', cl', ee, _, hcm, hat⟩ := LSl.at hv
  obtain ⟨rfl, rfl⟩ : al = al' ∧ cl = cl' := by cases ee; exact ⟨rfl, rfl⟩
  have HAT := hid hat
  have HS := hid hS
  have HSM := hid hsm
  unfold maxLen at hcm
  clear hv hS hsm ee hat
  go_enter Tryz.func72, Tryz.ntmps72
  go_wp2_with fail
  refine CK.out.mono ?_
  rintro e w1 ⟨rfl, hb1⟩
  by_cases he : ¬ ckC l = 0
  · have he' : (ckC l != 0) = true := by simpa using he
    have HE := hid he
    have HB1 := hid hb1
    clear he hb1
    go_wp2_with fail
    have hbl : backL l = [] := by rw [backL, if_neg HE.out]
    refine bodyPost_ret (v := .tuple #[.slice none 0 0, .int .i64 (ckC l)]) (by simp [results, Tryz.results72, go_sem]) rfl ?_
    rw [hbl]
    exact ⟨none, 0, rfl, ⟨[], ⟨rfl, none, 0, rfl, Nat.le_refl _, by simp [maxLen], fun _ => rfl, .inl rfl⟩, rfl⟩, HB1.out⟩
  have he : ckC l = 0 := by omega
  have hl120 : l.length ≤ 120 := by
    rw [ckC] at he
    split at he
    · cases he
    · omega
  have hbl : backL l = l.map turnC := by rw [backL, if_pos he]
  have HE := hid he
  have HBL := hid hbl
  have HB1 := hid hb1
  have hz1' := hb1.size
  rw [he]
  clear he hbl hb1
  go_wp2_with fail
  go_loopw [5, 15] (fun v i wr => ∃ (k : Nat) (cs : List Value), k ≤ l.length ∧ i = .int .i64 k ∧ wr.ownsRow w1.heap.size 68 5 v ((l.take k).map turnC).length cs ∧ Hid (LCs rdCh (Rx w1.heap.size wr.heap.size v) wr ((l.take k).map turnC) cs) ∧ Hid (Below w1.heap.size w1 wr)) (fun _ i _ => l.length - (intOf i).toNat)
  case atStart => exact ⟨0, [], by omega, rfl, World.ownsRow_nil _ _ _ _, rfl, Below.refl _ _⟩
  case round =>
    obtain ⟨k, cs, hk, rfl, hown, hlc, HB⟩ := hrel
    have hzr := HB.out.size
    by_cases hlt : k < l.length
    · have hlt' : (k : Int) < (l.length : Int) := by omega
      obtain ⟨g, o, cs1, rfl, hg, ⟨ap, cp, ao, co, an, cn, rfl, hP, hO, hN⟩, hcl⟩ := HAT.out k hlt
      have hbw := HB1.out.trans (HB.out.mono hz1')
      have hag := Agree.of_below (S := S) hbw HS.out
      have c0 := hag.cell hg (hcl 0 _ rfl)
      have c1 := hag.cell hg (hcl 1 _ rfl)
      have c2 := hag.cell hg (hcl 2 _ rfl)
      have c3 := hag.cell hg (hcl 3 _ rfl)
      have c4 := hag.cell hg (hcl 4 _ rfl)
      rw [Nat.add_zero] at c0
      simp only [← Nat.add_assoc] at c1 c2 c3 c4
      have hsm := HSM.out l[k] (List.getElem_mem hlt)
      have htk : l.take (k + 1) = l.take k ++ [l[k]] := List.take_succ_eq_append_getElem hlt
      obtain ⟨x, hx⟩ : ∃ x, l[k] = x := ⟨_, rfl⟩
      rw [hx] at hP hO hN c0 c1 c2 c3 c4 hsm htk
      have hll : ((l.take k).map turnC).length ≤ 120 := by rw [List.length_map, List.length_take]; omega
      obtain ⟨W4, hW4⟩ : ∃ W4, wr.alloc (.cells #[.slice ap x.p.length cp, .bool x.had, .bool x.has, .slice ao x.old.length co, .slice an x.new.length cn] 68) = W4 := ⟨_, rfl⟩
      have hz4 : W4.heap.size = wr.heap.size + 1 := by rw [← hW4]; simp
      have hb4 : Below wr.heap.size wr W4 := by rw [← hW4]; exact (Below.refl _ _).alloc (Nat.le_refl _) _
      have hnb : W4.heap[wr.heap.size]? = some (.cells #[.slice ap x.p.length cp, .bool x.had, .bool x.has, .slice ao x.old.length co, .slice an x.new.length cn] 68 (0, 0)) := by rw [← hW4]; exact heap_alloc_new _ _
      have d0 := cells_get hnb (k := 0) rfl
      have d1 := cells_get hnb (k := 1) rfl
      have d2 := cells_get hnb (k := 2) rfl
      have d3 := cells_get hnb (k := 3) rfl
      have d4 := cells_get hnb (k := 4) rfl
      have hag4 : Agree S w W4 := Agree.of_below (hbw.trans (hb4.mono (by omega))) HS.out
      have TC := hid (turned_any x ap ao an cp co cn S W4 (hP.agree hag4) (hO.agree hag4) (hN.agree hag4) (fun b hb => by have := HS.out b hb; omega) hsm.1 hsm.2.2.1 hsm.2.2.2)
      have how4 := owns_below hown hb4 (Nat.le_refl _)
      have hlc4 : Hid (LCs rdCh (Rx w1.heap.size W4.heap.size u5) W4 ((l.take k).map turnC) cs) := (hlc.out.agree (fun b hb => hb4.block b hb.2.1)).wide fun b hb => ⟨hb.1, by have := hb.2.1; omega, hb.2.2⟩
      have HB4 := hid (HB.out.trans (hb4.mono hzr))
      have HTK := hid htk
      have HW4 := hid hW4
      have S2 := hid hsm
      clear hcl hP hO hN hx hag hag4 hbw hnb hb4 hW4 htk hsm hlc
      go_wp2_with (rw [HW4.out])
      clear c0 c1 c2 c3 c4 d0 d1 d2 d3 d4
      refine TC.out.mono ?_
      rintro e w8 ⟨ap1, cp1, ao1, co1, an1, cn1, rfl, hp8, hn8, ho8, hb8⟩
      have hz8 := hb8.size
      have how8 := owns_below how4 hb8 (Nat.le_refl _)
      have HB8 := hid hb8
      have HP8 := hid hp8
      have HN8 := hid hn8
      have HO8 := hid ho8
      clear hb8 hp8 hn8 ho8
      have hlen : ((l.take k).map turnC).length = k := by rw [List.length_map, List.length_take]; omega
      have hz8' : w1.heap.size ≤ w8.heap.size := by omega
      go_wp2_with (at_builtin; refine (wpList_append_ao _ rfl _ _ _ rfl w1.heap.size 68 i0 _ 5 80 Tryz.underlying62 hi0 hz0 hz1 hz2 rfl (by omega) u5 ((l.take k).map turnC).length cs rfl (how8.alloc _) (some ⟨w8.heap.size, 0, none⟩) 1 1 [.slice ap1 x.p.length cp1, .bool x.has, .bool x.had, .slice an1 x.new.length cn1, .slice ao1 x.old.length co1] rfl rfl (fun h => by cases h) (fun ad had => by cases had; exact World.news_of_block (cs := #[.slice ap1 x.p.length cp1, .bool x.has, .bool x.had, .slice an1 x.new.length cn1, .slice ao1 x.old.length co1]) (t := 68) (fr := (0, 0)) (heap_alloc_new _ _)) (by simp [Value.oneCell']) (by unfold maxLen; omega) (by omega) (by simp; omega) ?_); intro a11 c11 w11 hown11 hgrow11 hat11)
      have hfm : (l.take (k + 1)).map turnC = (l.take k).map turnC ++ [turnC x] := by rw [HTK.out, List.map_append]; rfl
      have HFM := hid hfm
      clear hfm
      have hbW : Below W4.heap.size W4 (w8.alloc (.cells #[.slice ap1 x.p.length cp1, .bool x.has, .bool x.had, .slice an1 x.new.length cn1, .slice ao1 x.old.length co1] 68)) := HB8.out.alloc (by omega) _
      obtain ⟨g11, cap11, he11, hg11, hlt11⟩ := hown11.form (by omega)
      cases he11
      have hl37 : w1.heap.size ≤ W4.heap.size := by omega
      have st : Step w1.heap.size W4 (w8.alloc (.cells #[.slice ap1 x.p.length cp1, .bool x.has, .bool x.had, .slice an1 x.new.length cn1, .slice ao1 x.old.length co1] 68)) w11 u5 g11 := ⟨hbW, ⟨hgrow11.os, hgrow11.tape, hgrow11.output, hgrow11.size, hgrow11.block⟩, hl37, fun b hb => how4.lt b hb, hat11 g11 rfl, hlt11⟩
      have hv' : (Value.slice (some ⟨g11, 0, none⟩) (((l.take k).map turnC).length + 1) c11).ownBlock = some g11 := rfl
      have n1 := st.keep (Stable.lcs _ _) hv' hlc4.out
      have n2 := st.lift (p := W4.heap.size) (q := w8.heap.size) (Stable.pth _ _) hv' HP8.out (Nat.le_refl _) (by simp) ((Below.refl _ _).alloc (Nat.le_refl _) _)
      have n3 := st.lift (p := W4.heap.size) (q := w8.heap.size) (Stable.ints _ _) hv' HN8.out (Nat.le_refl _) (by simp) ((Below.refl _ _).alloc (Nat.le_refl _) _)
      have n4 := st.lift (p := W4.heap.size) (q := w8.heap.size) (Stable.ints _ _) hv' HO8.out (Nat.le_refl _) (by simp) ((Below.refl _ _).alloc (Nat.le_refl _) _)
      have n5 := st.out HB4.out
      have n6 : Hid (LCs rdCh (Rx w1.heap.size w11.heap.size (.slice (some ⟨g11, 0, none⟩) (((l.take k).map turnC).length + 1) c11)) w11 ((l.take k).map turnC ++ [turnC x]) (cs ++ [.slice ap1 x.p.length cp1, .bool x.has, .bool x.had, .slice an1 x.new.length cn1, .slice ao1 x.old.length co1])) :=
        n1.app (LCs.single ⟨ap1, cp1, an1, cn1, ao1, co1, rfl, n2, n3, n4⟩)
      clear n1 n2 n3 n4 st hbW
      go_wp2_with fail
      go_roundw
      case rel => exact ⟨k + 1, _, by omega, by go_num, by rw [HFM.out, List.length_append]; have h11 := hown11; rw [hlen] at h11 ⊢; exact h11, by rw [HFM.out]; have h16 := n6; rw [hlen] at h16; exact h16, n5⟩
      case measure => simp [intOf]; omega
    · obtain rfl : k = l.length := by omega
      have hlt' : ¬ (l.length : Int) < (l.length : Int) := by omega
      go_wp2_with fail
      obtain ⟨a9, c9, rfl, _, _⟩ := owns_shape hown
      rw [List.take_length] at hown hlc ⊢
      refine bodyPost_ret (v := .tuple #[.slice a9 (l.map turnC).length c9, .int .i64 0]) (by simp [results, Tryz.results72, go_sem]) rfl ?_
      rw [HBL.out, HE.out]
      exact ⟨a9, c9, rfl, ⟨cs, (SlC.of_owns hown).wide fun b hb => ⟨by have := hb.1; omega, hb.2⟩, hlc.out.wide fun b hb => ⟨by have := hb.1; omega, hb.2.1⟩⟩, HB1.out.trans (HB.out.mono hz1')⟩
end Go.Proofs.LF
namespace Go.Proofs.LF
open Go.RowKit Go.Sort
theorem cmpP_dropLast : ∀ {p : List Ky}, p ≠ [] → cmpP p.dropLast p < 0
  | [], h => absurd rfl h
  | [a], _ => by simp [cmpP]
  | a :: b :: p, _ => by
    have h := cmpP_dropLast (p := b :: p) (by simp)
    have e : byK a a = 0 := byK_ord.refl a
    rw [List.dropLast_cons_of_ne_nil (by simp), cmpP, if_neg (by simp [e])]
    exact h
theorem lsF_clo {a : List Fl} (ha : Srt a) (hc : Clo a) (hne : ∀ x ∈ a, x.p ≠ []) : ∀ (k r : List Fl), a = k ++ r → lsF k [] r = (a, [])
  | k, [], e => by rw [e]; simp [lsF]
  | k, f :: r, e => by
    have hk : Srt k := by rw [e] at ha; exact (List.pairwise_append.1 ha).1
    rw [lsF, if_pos, lsF_clo ha hc hne (k ++ [f]) r (by rw [e]; simp)]
    by_cases h1 : f.p.length = 1
    · exact .inr h1
    · left
      have hf : f ∈ a := by rw [e]; simp
      have hfp : f.p.dropLast ≠ [] := fun h => by
        have h2 := congrArg List.length h
        rw [List.length_dropLast] at h2
        have h3 : f.p.length ≠ 0 := fun h => hne f hf (List.eq_nil_of_length_eq_zero h)
        simp at h2
        omega
      obtain ⟨z, hz, hzp⟩ := hc f hf hfp
      have hzk : z ∈ k := by
        rw [e] at hz
        rcases List.mem_append.1 hz with h | h
        · exact h
        · exfalso
          have hlt : 0 ≤ cmpP z.p f.p := by
            rcases List.mem_cons.1 h with h | h
            · rw [h, cmpP_ord.refl]; omega
            · have h4 := ha
              rw [e] at h4
              have h5 := (List.pairwise_cons.1 (List.pairwise_append.1 h4).2.1).1 z h
              have := cmpP_ord.flip h5
              omega
          have hlt2 : cmpP z.p f.p < 0 := by
            rw [hzp]
            exact cmpP_dropLast (hne f hf)
          omega
      rw [fnd_rfd hk]
      exact rfd_iff.2 (List.mem_map.2 ⟨z, hzk, hzp⟩)
end Go.Proofs.LF
namespace Go.Proofs.LF
open Go.RowKit Go.Sort
def Bd (y : Fo) : Prop := y.len ≤ 1000 ∧ y.Sm ∧ y.cnt ≤ 900
def In (W : World) (v : Value) (y : Fo) : Prop := FSl (fun q => q < W.heap.size) W v y
theorem In.on {W W' : World} {v : Value} {y : Fo} (h : In W v y) (hb : Below W.heap.size W W') : In W' v y := FSl.on h hb
def PaIn (W : World) (v : Value) (ps : List (List Ky)) : Prop := PaSl (fun q => q < W.heap.size) W v ps
theorem PaIn.on {W W' : World} {v : Value} {ps : List (List Ky)} (h : PaIn W v ps) (hb : Below W.heap.size W W') : PaIn W' v ps := LSl.on h hb
def IsIn (W : World) (v : Value) (l : List Int) : Prop := Ints (fun q => q < W.heap.size) W v l
theorem IsIn.on {w w' : World} {v : Value} {l : List Int} (h : IsIn w v l) (hb : Below w.heap.size w w') : IsIn w' v l :=
  (Ints.agree h (Agree.of_below hb fun _ h => h)).wide fun b hq => by have := hb.size; omega
def PtIn (W : World) (v : Value) (l : List Ky) : Prop := Pth (fun q => q < W.heap.size) W v l
theorem PtIn.on {w w' : World} {v : Value} {l : List Ky} (h : PtIn w v l) (hb : Below w.heap.size w w') : PtIn w' v l :=
  (Pth.agree h (Agree.of_below hb fun _ h => h)).wide fun b hq => by have := hb.size; omega
def ChIn (W : World) (v : Value) (l : List Ch) : Prop := ChSl (fun q => q < W.heap.size) W v l
theorem ChIn.on {W W' : World} {v : Value} {ps : List Ch} (h : ChIn W v ps) (hb : Below W.heap.size W W') : ChIn W' v ps := LSl.on h hb
theorem diff_c (y a : Fo) (ay aa : Option Addr) (cy ca : Nat) (W : World) (hy : In W (.slice ay y.len cy) y) (ha : In W (.slice aa a.len ca) a) (by_ : Bd y) (ba : Bd a) (ht : Pow W) {D : List Ch} {E : Int} (h : difE y a = E ∧ difL y a = D) :
    Calls Tryz.prog 41 #[.slice ay y.len cy, .slice aa a.len ca] W fun e w' => ∃ ap cp, e = .returned (.tuple #[.slice ap D.length cp, .int .i64 E]) ∧ ChIn w' (.slice ap D.length cp) D ∧ Below W.heap.size W w' := by
  obtain ⟨rfl, rfl⟩ := h
  exact (Diff_any y a ay aa cy ca _ W hy ha (fun _ h => h) by_.1 ba.1 by_.2.1 ba.2.1 by_.2.2 ba.2.2 ht).mono fun e w' ⟨a1, c1, he, h1, h3⟩ => ⟨a1, c1, he, h1.wide fun b hb => hb.2, h3⟩
theorem same_c (y a : Fo) (ay aa : Option Addr) (cy ca : Nat) (W : World) (hy : In W (.slice ay y.len cy) y) (ha : In W (.slice aa a.len ca) a) (by_ : Bd y) (ba : Bd a) :
    Calls Tryz.prog 25 #[.slice ay y.len cy, .slice aa a.len ca] W fun e w' => e = .returned (.bool (decide (y = a))) ∧ Below W.heap.size W w' :=
  (alike_any (y.cnt + 1)).2 y a ay cy aa ca _ W (Nat.lt_succ_self _) hy ha (fun _ h => h) by_.1 ba.1 by_.2.1 ba.2.1
theorem check_c (y : Fo) (a : Option Addr) (c : Nat) (W : World) (hy : In W (.slice a y.len c) y) (hb : Bd y) : Calls Tryz.prog 23 #[.slice a y.len c] W fun e w' => e = .returned (.int .i64 (chkY y)) ∧ Below W.heap.size W w' :=
  Check_any y a c _ W hy (fun _ h => h) hb.1 hb.2.1 hb.2.2
def AllP (W w' : World) (v : Value) (ps : List (List Ky)) (n : Nat) (cs : List Value) : Prop := n = ps.length ∧ w'.ownsRow W.heap.size 65 1 v n cs ∧ ∃ T : Nat → Prop, LCs rdPa T w' ps cs ∧ ∀ b, T b → W.heap.size ≤ b ∧ b < w'.heap.size ∧ v.ownBlock ≠ some b
theorem all_c (y : Fo) (a : Option Addr) (c : Nat) (W : World) (hy : In W (.slice a y.len c) y) (hb : Bd y) :
    Calls Tryz.prog 43 #[.slice a y.len c, .slice none 0 0] W fun e w' => ∃ a1 c1 a2 c2 cs, e = .returned (.tuple #[.slice a1 y.cnt c1, .slice a2 y.cnt c2]) ∧ AllP W w' (.slice a1 y.cnt c1) (evP [] y) y.cnt cs ∧ Below W.heap.size W w' := by
  have hnil : Pth (fun _ => False) W (.slice none ([] : List Ky).length 0) [] := ⟨rfl, none, 0, rfl, Nat.le_refl _, by simp [maxLen], fun _ => rfl, .inl rfl⟩
  refine (all_all (y.cnt + 1) y [] a c none 0 _ (fun _ => False) W (Nat.lt_succ_self _) hy hnil (fun _ h => h) (fun _ h => h.elim) hb.1 hb.2.1 (by simpa using hb.2.2)).mono ?_
  rintro e w' ⟨a1, c1, a2, c2, he, ⟨T, cs, es, h1, h2, h3, h4, h5, h6⟩, hB⟩
  rw [evP_length] at h1
  exact ⟨a1, c1, a2, c2, cs, he, ⟨(evP_length [] y).symm, h1, T, h2, fun b hb => ⟨(h5 b hb).1, (h5 b hb).2.1, (h5 b hb).2.2.1⟩⟩, hB⟩
theorem AllP.news {W w' : World} {a : Option Addr} {n c : Nat} {ps : List (List Ky)} {cs : List Value} (h : AllP W w' (.slice a n c) ps n cs) : cs.length = n * 1 ∧ (a = none → n = 0 ∧ c = 0) ∧ (∀ ad, a = some ad → ∀ (j : Nat) (u : Value), cs[j]? = some u → w'.cell? (ad.add j) = some u) ∧ (∀ u ∈ cs, u.oneCell' = true) := by
  obtain ⟨_, h1, T, h2, h3⟩ := h
  have s1 := SlC.of_owns h1
  exact ⟨h1.1, fun h => (SlC.caps s1).2.2 h, SlC.news s1 Agree.refl, LCs.one h2⟩
theorem all_app {W0 w1 w2 w3 : World} {v1 v2 v3 : Value} {p1 p2 : List (List Ky)} {n1 n2 : Nat} {cs1 cs2 : List Value} (h1 : AllP W0 w1 v1 p1 n1 cs1) (b1 : Below W0.heap.size W0 w1) (h2 : AllP w1 w2 v2 p2 n2 cs2) (b2 : Below w1.heap.size w1 w2)
    (hown : w3.ownsRow W0.heap.size 65 1 v3 (n1 + n2) (cs1 ++ cs2)) (hg : w2.grownBy w3 v1.ownBlock) : PaIn w3 v3 (p1 ++ p2) ∧ Below W0.heap.size W0 w3 := by
  obtain ⟨e1, o1, T1, l1, t1⟩ := h1
  obtain ⟨e2, o2, T2, l2, t2⟩ := h2
  have z1 := b1.size
  have z2 := b2.size
  have z3 := hg.size
  have k1 : LCs rdPa T1 w3 p1 cs1 := (l1.agree (Agree.of_below b2 fun b hb => (t1 b hb).2.1)).agree (Agree.grown hg fun b hb => ⟨by have := (t1 b hb).2.1; omega, fun e => (t1 b hb).2.2 e⟩)
  have k2 : LCs rdPa T2 w3 p2 cs2 := l2.agree (Agree.grown hg fun b hb => ⟨by have := (t2 b hb).2.1; omega, fun e => by have := (o1.lt b e).2; have := (t2 b hb).1; omega⟩)
  have hs := SlC.of_owns hown
  have hn : n1 + n2 = (p1 ++ p2).length := by rw [List.length_append, e1, e2]
  rw [hn] at hs
  refine ⟨⟨cs1 ++ cs2, hs.wide fun b hb => hb.2, (k1.wide fun b hb => by have := (t1 b hb).2.1; omega).app (k2.wide fun b hb => by have := (t2 b hb).2.1; omega)⟩, ?_⟩
  exact (b1.trans (b2.mono z1)).grown hg (by omega) (fun b hb => (o1.lt b hb).1)
theorem at_c (y : Fo) (q : List Ky) (a aq : Option Addr) (c cq : Nat) (W : World) (hy : In W (.slice a y.len c) y) (hq : PtIn W (.slice aq q.length cq) q) (hb : Bd y) (lq : q.length ≤ 1000) {n : List Int} {i : Bool} (h : nsAt y q = n ∧ isAt y q = i) :
    Calls Tryz.prog 44 #[.slice a y.len c, .slice aq q.length cq] W fun e w' => ∃ a1 c1, e = .returned (.tuple #[.slice a1 n.length c1, .bool i]) ∧ IsIn w' (.slice a1 n.length c1) n ∧ Below W.heap.size W w' := by
  obtain ⟨rfl, rfl⟩ := h
  refine (atY_any y q a aq c cq _ _ W hy hq (fun _ h => h) (fun _ h => h) hb.1 hb.2.1 hb.2.2 lq).mono ?_
  rintro e w' ⟨a1, c1, he, h1, hB⟩
  exact ⟨a1, c1, he, h1.wide fun b hb => by have := hB.size; omega, hB⟩
theorem nsAt_len {y : Fo} (hb : Bd y) (q : List Ky) : (nsAt y q).length ≤ 1000 := by
  have key : ∀ (y : Fo) (u : List Ky), y.Sm → ∀ x ∈ flsL u y, x.l.length ≤ 1000 := by
    intro y
    induction y with
    | nil => intro u _ x hx; cases hx
    | cons n l s r ihs ihr =>
      intro u hs x hx
      obtain ⟨h1, h2, h3, h4, h5⟩ := hs
      rw [flsL_cons, List.mem_cons, List.mem_append] at hx
      rcases hx with rfl | hx | hx
      · exact h2
      · exact ihs _ h4 x hx
      · exact ihr _ h5 x hx
  unfold nsAt
  cases h : rfd (flsL [] y) q with
  | none => simp
  | some x => exact key y [] hb.2.1 x (rfd_some h).1
theorem eqN_c (l m : List Int) (al am : Option Addr) (cl cm : Nat) (W : World) (hl : IsIn W (.slice al l.length cl) l) (hm : IsIn W (.slice am m.length cm) m) (h1 : l.length ≤ 1000) (h2 : m.length ≤ 1000) {b : Bool} (h : decide (l = m) = b) :
    Calls Tryz.prog 47 #[.slice al l.length cl, .slice am m.length cm] W fun e w' => e = .returned (.bool b) ∧ Below W.heap.size W w' := by
  subst h
  exact eqInts_any l m al am cl cm _ W hl hm (by omega) (by omega)
theorem okF_bd {y : Fo} (h : OkF 0 y) (hc : y.cnt ≤ 900) : Bd y := ⟨by have := len_cnt y; omega, okF_sm y 0 h (by omega), hc⟩
def PAt (W w' : World) : Prop := Hp W.heap.size (fun q => q < W.heap.size) w' ∧ w'.heap.size = W.heap.size + 1 ∧ Below W.heap.size W w'
def ByIn (W : World) (v : Value) (l : List Int) : Prop := Byt (fun q => q < W.heap.size) W v l
theorem ByIn.on {W W' : World} {v : Value} {l : List Int} (h : ByIn W v l) (hb : Below W.heap.size W W') : ByIn W' v l :=
  (SlC.agree h (Agree.of_below hb fun _ h => h)).wide fun b hq => by have := hb.size; omega
theorem pile_c (l : List Int) (a : Option Addr) (c : Nat) (W : World) (h : ByIn W (.slice a l.length c) l) :
    Calls Tryz.prog 38 #[.slice a l.length c] W fun e w' => e = .returned (.pointer (some ⟨W.heap.size, 0, none⟩)) ∧ PAt W w' :=
  (Pile_any a l c _ W h (fun _ h => h)).mono fun e w' ⟨he, h1, h2, h3⟩ => ⟨he, h1, h2, h3⟩
theorem made1_c (W w1 : World) (h : PAt W w1) : Calls Tryz.prog 37 #[.pointer (some ⟨W.heap.size, 0, none⟩), .int .i64 3] w1 fun e w' => ∃ y a c, e = .returned (.slice a y.len c) ∧ In w' (.slice a y.len c) y ∧ (OkF 1 y ∧ y.cnt ≤ 78) ∧ Below W.heap.size W w' := by
  obtain ⟨h1, h2, h3⟩ := h
  refine (Made_any 3 W.heap.size _ w1 (by omega) (by omega) h1 (by omega) (fun q hq => by omega)).mono ?_
  rintro e w' ⟨y, a, c, he, hF, ho, _, hc, _, hk⟩
  exact ⟨y, a, c, he, hF.wide fun b hb => hb.2, ⟨ho, hc⟩, h3.trans (Keep.below hk (by omega) (fun b hb => by omega))⟩
theorem made_c (W w1 : World) (h : PAt W w1) : Calls Tryz.prog 37 #[.pointer (some ⟨W.heap.size, 0, none⟩), .int .i64 3] w1 fun e w' => ∃ y a c, e = .returned (.slice a y.len c) ∧ In w' (.slice a y.len c) y ∧ (OkF 0 y ∧ y.cnt ≤ 78) ∧ Below W.heap.size W w' :=
  (made1_c W w1 h).mono fun e w' ⟨y, a, c, he, h1, h2, h3⟩ => ⟨y, a, c, he, h1, ⟨okF_down h2.1, h2.2⟩, h3⟩
theorem few_c (y : Fo) (a : Option Addr) (c : Nat) (W : World) (hy : In W (.slice a y.len c) y) (ho : OkF 0 y) (hc : y.cnt ≤ 800) {q : Bool} (h : decide (60 < y.cnt) = q) :
    Calls Tryz.prog 40 #[.slice a y.len c] W fun e w' => e = .returned (.bool q) ∧ Below W.heap.size W w' := by
  subst h
  exact fewY_any y a c _ W ho hc hy (fun _ h => h)
theorem checkE_c (y : Fo) (a : Option Addr) (c : Nat) (W : World) (hy : In W (.slice a y.len c) y) (hb : Bd y) {E : Int} (h : chkY y = E) : Calls Tryz.prog 23 #[.slice a y.len c] W fun e w' => e = .returned (.int .i64 E) ∧ Below W.heap.size W w' := by
  subst h
  exact check_c y a c W hy hb
theorem okF_few {y : Fo} (h : OkF 0 y) (hc : y.cnt ≤ 60) : chkY y = 0 := by rw [okF_chk h, if_pos hc]
theorem okF_many2 {y : Fo} (h : OkF 0 y) (hc : ¬ y.cnt ≤ 60) : chkY y = 2 := by rw [okF_chk h, if_neg hc]
theorem eqY_c (y : Fo) (ay aa : Option Addr) (cy ca : Nat) (W : World) (hy : In W (.slice ay y.len cy) y) (ha : In W (.slice aa y.len ca) y) (by_ : Bd y) :
    Calls Tryz.prog 25 #[.slice ay y.len cy, .slice aa y.len ca] W fun e w' => e = .returned (.bool true) ∧ Below W.heap.size W w' := by
  have h := same_c y y ay aa cy ca W hy ha by_ by_
  rwa [decide_eq_true rfl] at h
end Go.Proofs.LF
namespace Go.Proofs.LF
open Go.RowKit Go.Sort
set_option maxHeartbeats 4000000
set_option maxRecDepth 100000
attribute [local go_sem] bs_toList bs_size bs_get
theorem enters165 : Enters 165 := by intro args W; simp [go_sem]
theorem cmp165g (x y : Fl) (ap aq an am : Option Addr) (cp cq ln cn lm cm : Nat) (S : Nat → Prop) (w : World) (hp : Pth S w (.slice ap x.p.length cp) x.p) (hq : Pth S w (.slice aq y.p.length cq) y.p) (hS : ∀ b, S b → b < w.heap.size) (lp : x.p.length ≤ 1000) (lq : y.p.length ≤ 1000) :
    Calls Tryz.prog 165 #[.agg #[.slice ap x.p.length cp, .slice an ln cn], .agg #[.slice aq y.p.length cq, .slice am lm cm]] w fun e w' => e = .returned (.int .i64 (cmpP x.p y.p)) ∧ Grw w w' := by
  obtain ⟨vn, hvn⟩ : ∃ vn, Value.slice an ln cn = vn := ⟨_, rfl⟩
  obtain ⟨vm, hvm⟩ : ∃ vm, Value.slice am lm cm = vm := ⟨_, rfl⟩
  have hA := (Below.refl w.heap.size w).alloc (Nat.le_refl _) (.cells #[.slice ap x.p.length cp, .slice an ln cn] 171)
  have hbA := heap_alloc_new w (.cells #[.slice ap x.p.length cp, .slice an ln cn] 171)
  obtain ⟨wA, hwA⟩ : ∃ wA, w.alloc (.cells #[.slice ap x.p.length cp, .slice an ln cn] 171) = wA := ⟨_, rfl⟩
  have hzA : wA.heap.size = w.heap.size + 1 := by rw [← hwA]; simp
  rw [hwA] at hA hbA
  have hB := (Below.refl wA.heap.size wA).alloc (Nat.le_refl _) (.cells #[.slice aq y.p.length cq, .slice am lm cm] 171)
  have hbB := heap_alloc_new wA (.cells #[.slice aq y.p.length cq, .slice am lm cm] 171)
  obtain ⟨wB, hwB⟩ : ∃ wB, wA.alloc (.cells #[.slice aq y.p.length cq, .slice am lm cm] 171) = wB := ⟨_, rfl⟩
  rw [hwB] at hB hbB
  have hAB := hA.trans (hB.mono (by omega))
  have hbA2 : wB.heap[w.heap.size]? = some (.cells #[.slice ap x.p.length cp, .slice an ln cn] 171 (0, 0)) := (hB.block w.heap.size (by omega)).trans hbA
  have c0 := cells_get hbA2 (k := 0) rfl
  rw [hzA] at hbB
  have d0 := cells_get hbB (k := 0) rfl
  have hc := byPath_g x.p y.p ap aq cp cq S wB (hp.agree (Agree.of_below hAB hS)) (hq.agree (Agree.of_below hAB hS)) (fun b hb => Nat.lt_of_lt_of_le (hS b hb) hAB.size) lp lq
  have HC := hid hc
  have HG : Hid (Grw w wB) := by
    rw [← hwB, ← hwA]
    exact ((Grw.refl w).alloc _).alloc _
  have HAB := hid hAB
  have HWA := hid hwA
  have HWB := hid hwB
  clear hp hq hS hA hbA hB hbB hbA2 hc hAB hwA hwB hvn hvm
  go_enter Tryz.func165, Tryz.ntmps165
  go_wp2_with (rw [HWA.out, HWB.out])
  refine HC.out.mono ?_
  rintro e w1 ⟨rfl, hb1⟩
  go_wp2_with fail
  go_ret
  exact ⟨rfl, HG.out.trans hb1⟩
end Go.Proofs.LF
namespace Go.Proofs.LF
def FlOk (x : Fl) : Prop := x.p.length ≤ 4 ∧ (∃ v n, x.p = v ++ [kyOf n x.l] ∧ badNm n = false) ∧ x.l.length ≤ 4 ∧ badNs x.l = false
theorem fls_flok : ∀ (y : Fo) (u : List Ky), OkG u.length y → ∀ x ∈ flsL u y, FlOk x
  | .nil, u, _, x, h => by cases h
  | .cons n l s r, u, ⟨⟨h1, h2, h3, h4⟩, h5, _, h7⟩, x, h => by
    rw [flsL_cons] at h
    rcases List.mem_cons.1 h with rfl | h
    · exact ⟨by simp; omega, ⟨u, n, rfl, h2⟩, h3, h4⟩
    · rcases List.mem_append.1 h with h | h
      · exact fls_flok s _ (by simpa using h5) x h
      · exact fls_flok r u h7 x h
end Go.Proofs.LF
namespace Go.Proofs.LF
open Go.RowKit Go.Sort
theorem changed_c (y : Fo) (a : Option Addr) (c : Nat) (W w1 : World) (h : PAt W w1) (hy : In W (.slice a y.len c) y) (ho : OkF 0 y) (hc : y.cnt ≤ 300) :
    Calls Tryz.prog 39 #[.pointer (some ⟨W.heap.size, 0, none⟩), .slice a y.len c] w1 fun e w' => ∃ y' a' c', e = .returned (.slice a' y'.len c') ∧ In w' (.slice a' y'.len c') y' ∧ (OkF 0 y' ∧ y'.cnt ≤ 2 * y.cnt + 1) ∧ Below W.heap.size W w' := by
  obtain ⟨h1, h2, h3⟩ := h
  refine (changed_any y a c W.heap.size _ (fun q => q < W.heap.size) w1 hc ho (hy.agree (Agree.of_below h3 (fun _ h => h))) (fun q hq => by omega) h1 (by omega) (fun q hq => by omega)).mono ?_
  rintro e w' ⟨y', a', c', he, hF, ho', hc', _, hk⟩
  exact ⟨y', a', c', he, hF.wide fun b hb => hb.2, ⟨ho', hc'⟩, h3.trans (Keep.below hk (by omega) (fun b hb => by omega))⟩
end Go.Proofs.LF
namespace Go.Proofs.LF
open Go.RowKit Go.Sort
theorem fmK_len {α : Type} (enc : α → List Value) (k : Nat) (hk : ∀ x, (enc x).length = k) : ∀ (ds : List α), (ds.flatMap enc).length = ds.length * k
  | [] => by simp
  | x :: ds => by rw [List.flatMap_cons, List.length_append, hk, fmK_len enc k hk ds, List.length_cons, Nat.add_mul]; omega
theorem fmK_get {α : Type} [Inhabited α] (enc : α → List Value) (k : Nat) (hk : ∀ x, (enc x).length = k) (hp : 0 < k) : ∀ (ds : List α) (t : Nat), t < ds.length * k → (ds.flatMap enc)[t]! = (enc ds[t / k]!)[t % k]!
  | [], t, h => by simp at h
  | x :: ds, t, h => by
    rw [List.flatMap_cons]
    by_cases h1 : t < k
    · have h2 : t / k = 0 := Nat.div_eq_of_lt h1
      have h3 : t % k = t := Nat.mod_eq_of_lt h1
      rw [h2, h3]
      simp [List.getElem!_eq_getElem?_getD, List.getElem?_append, hk, h1]
    · obtain ⟨u, rfl⟩ : ∃ u, t = k + u := ⟨t - k, by omega⟩
      have h2 : (k + u) / k = u / k + 1 := by rw [Nat.add_comm, Nat.add_div_right _ hp]
      have h3 : (k + u) % k = u % k := by rw [Nat.add_comm, Nat.add_mod_right]
      have h4 : u < ds.length * k := by rw [List.length_cons, Nat.add_mul] at h; omega
      have := fmK_get enc k hk hp ds u h4
      rw [h2, h3]
      simp [List.getElem!_eq_getElem?_getD, List.getElem?_append, hk, show ¬ k + u < k by omega] at this ⊢
      exact this
structure FV where
  ap : Option Addr
  cp : Nat
  an : Option Addr
  cn : Nat
  f : Fl
def FV.vs (x : FV) : List Value := [.slice x.ap x.f.p.length x.cp, .slice x.an x.f.l.length x.cn]
abbrev FVs (M : Nat → Prop) (w : World) := { x : FV // Pth M w (.slice x.ap x.f.p.length x.cp) x.f.p ∧ Ints M w (.slice x.an x.f.l.length x.cn) x.f.l ∧ x.f.p.length ≤ 1000 }
theorem fvs_of {M : Nat → Prop} {w : World} : ∀ {ls : List Fl} {cs : List Value}, LCs rdFl M w ls cs → (∀ f ∈ ls, f.p.length ≤ 1000) → ∃ ds : List (FVs M w), ds.flatMap (·.1.vs) = cs ∧ ds.map (·.1.f) = ls
  | [], _, h, _ => ⟨[], by rw [show _ = [] from h]; rfl, rfl⟩
  | x :: ls, _, ⟨c, es, h1, ⟨ap, cp, an, cn, h2, h3, h4⟩, h5⟩, hl => by
    obtain ⟨ds, hd1, hd2⟩ := fvs_of h5 (fun q hq => hl q (by simp [hq]))
    exact ⟨⟨⟨ap, cp, an, cn, x⟩, h3, h4, hl x (by simp)⟩ :: ds, by rw [h1, h2, ← hd1]; rfl, by simp [hd2]⟩
theorem fvs_to {M : Nat → Prop} {w : World} : ∀ (ds : List (FVs M w)), LCs rdFl M w (ds.map (·.1.f)) (ds.flatMap (·.1.vs))
  | [] => rfl
  | x :: ds => ⟨x.1.vs, ds.flatMap (·.1.vs), rfl, ⟨_, _, _, _, rfl, x.2.1, x.2.2.1⟩, fvs_to ds⟩
set_option maxHeartbeats 4000000
set_option maxRecDepth 100000
theorem flatK_list {α : Type} [Inhabited α] (enc : α → List Value) (k : Nat) (hk : ∀ x, (enc x).length = k) (hp : 0 < k) (ds : List α) : (flatK enc k ds.toArray).toList = ds.flatMap enc := by
  apply List.ext_getElem
  · rw [fmK_len enc k hk]; simp
  · intro t h1 h2
    have h3 : t < ds.length * k := by rwa [fmK_len enc k hk] at h2
    have e1 := get_flatK enc k ds.toArray t (by simpa using h3)
    have e2 := fmK_get enc k hk hp ds t h3
    rw [getElem!_pos (flatK enc k ds.toArray) t (by simpa using h3)] at e1
    rw [getElem!_pos (ds.flatMap enc) t h2] at e2
    rw [Array.getElem_toList, e1, e2]
    simp
theorem sortF_any (ls : List Fl) (v : Value) (B : Nat) (cs : List Value) (M : Nat → Prop) (w : World) (hown : w.ownsRow B 171 2 v ls.length cs) (hlc : LCs rdFl M w ls cs) (hM : ∀ b, M b → b < w.heap.size ∧ v.ownBlock ≠ some b) (hls : ∀ f ∈ ls, f.p.length ≤ 1000) (hl : ls.length ≤ 100000) :
    Calls Tryz.prog 164 #[v, .func (.func 165) #[] #[]] w fun e w' => e = .returned (.tuple #[]) ∧ ∃ ls' cs', ls'.Perm ls ∧ ls'.Pairwise (fun a b => cmpP a.p b.p ≤ 0) ∧ w'.ownsRow B 171 2 v ls.length cs' ∧ LCs rdFl M w' ls' cs' ∧ w.grownBy w' v.ownBlock := by
  by_cases h0 : ls.length = 0
  · obtain rfl := List.eq_nil_of_length_eq_zero h0
    obtain ⟨a, c, rfl, _, _⟩ := owns_shape hown
    refine (AnyF.slices_SortFunc_none Tryz.laysSortQ a c (.func (.func 165) #[] #[]) w).mono ?_
    rintro e w' ⟨rfl, rfl⟩
    exact ⟨rfl, [], cs, List.Perm.refl _, List.Pairwise.nil, hown, hlc, World.grownBy.refl _ _⟩
  obtain ⟨h1, ⟨rfl, h2⟩ | ⟨g, cap, cur, rfl, hbg, hgg, hn, hcap, hsz, htk⟩⟩ := hown
  · omega
  · obtain ⟨ds, hd1, hd2⟩ := fvs_of hlc hls
    have hdl : ds.length = ls.length := by rw [← hd2]; simp
    have hgl : g < w.heap.size := (Array.getElem?_eq_some_iff.1 hgg).1
    haveI : Inhabited (FVs M w) := ⟨ds[0]'(by omega)⟩
    have hMg : ∀ b, M b → b ≠ g := fun b hb e => (hM b hb).2 (by simp [Value.ownBlock, e])
    have hk2 : ∀ x : FVs M w, x.1.vs.length = 2 := fun x => rfl
    have hfl := flatK_list (fun x : FVs M w => x.1.vs) 2 hk2 (by omega) ds
    rw [hd1] at hfl
    have hH : HoldsK (fun x : FVs M w => x.1.vs) 2 w g 0 ds.toArray := by
      intro j hj
      have e1 : cs[j]? = some (flatK (fun x : FVs M w => x.1.vs) 2 ds.toArray)[j] := by rw [← hfl]; simp [Array.getElem?_eq_getElem hj]
      have hj2 : j < ls.length * 2 := by rw [size_flatK] at hj; simpa [hdl] using hj
      rw [← htk, List.getElem?_take] at e1
      rw [if_pos (by omega)] at e1
      refine ⟨?_, by simp [World.frozen?, hgg]⟩
      simp only [World.cell?, hgg, Nat.zero_add]
      rw [← Array.getElem?_toList, e1]
      rw [getElem!_pos _ j hj]; rfl
    have hag : ∀ m os (dk : Array (FVs M w)), Agree M w (sortWorldK (fun x : FVs M w => x.1.vs) 2 w g 0 m dk os) := fun m os dk b hb => sortW_block (enc := id) (d := flatK (fun x : FVs M w => x.1.vs) 2 dk) (hM b hb).1 (hMg b hb)
    have hgr : ∀ m os (dk : Array (FVs M w)), w.grownBy (sortWorldK (fun x : FVs M w => x.1.vs) 2 w g 0 m dk os) (some g) := fun m os dk => sortW_grown (enc := id) (flatK (fun x : FVs M w => x.1.vs) 2 dk)
    have hcmp : CmpLays Tryz.prog 165 #[] (fun x : FVs M w => x.1.vs) 2 (fun x y => cmpP x.1.f.p y.1.f.p) g 0 ds.toArray.size w := by
      intro m os dk hs x y
      have := cmp165g x.1.f y.1.f x.1.ap y.1.ap x.1.an y.1.an x.1.cp y.1.cp x.1.f.l.length x.1.cn y.1.f.l.length y.1.cn M (sortWorldK (fun x : FVs M w => x.1.vs) 2 w g 0 m dk os) (x.2.1.agree (hag m os dk)) (y.2.1.agree (hag m os dk)) (fun b hb => by have h9 := (hgr m os dk).size; have := (hM b hb).1; omega) x.2.2.2 y.2.2.2
      simpa [Grw, FV.vs] using this
    have hcon := AnyQ.slices_SortFunc Tryz.laysSortQ 2 (fun w => Tryz.isAgg171 w) (fun w => Tryz.sizeOf171 w) (fun x : FVs M w => x.1.vs) hk2 (fun x v hv => by simp [FV.vs] at hv; rcases hv with rfl | rfl <;> rfl) (fun x y => cmpP x.1.f.p y.1.f.p) (swoP fun x : FVs M w => x.1.f.p) 165 #[] g 0 cap ds.toArray w enters165 hcmp hH hgl (by simp; omega)
    have e1 : ds.toArray.size = ls.length := by simpa using hdl
    rw [e1] at hcon
    refine hcon.mono ?_
    rintro e w' ⟨rfl, d', n, os, ⟨hp1, _, hp3⟩, hs, rfl⟩
    have hd's : d'.size = ls.length := by rw [hp1, e1]
    have h3 : d'.toList.Perm ds := by
      have := hp3
      rw [← e1] at this
      rw [Array.extract_eq_self_of_le (by omega), Array.extract_eq_self_of_le (by omega)] at this
      simpa using this
    have hfl' := flatK_list (fun x : FVs M w => x.1.vs) 2 hk2 (by omega) d'.toList
    have hsz' : (flatK (fun x : FVs M w => x.1.vs) 2 d').size = ls.length * 2 := by rw [size_flatK, hd's]
    refine ⟨rfl, d'.toList.map (·.1.f), d'.toList.flatMap (·.1.vs), by rw [← hd2]; exact h3.map _, ?_, ⟨by rw [fmK_len _ 2 hk2]; simp [hd's], .inr ⟨g, cap, _, rfl, hbg, sortW_row (enc := id) (d := flatK (fun x : FVs M w => x.1.vs) 2 d') hgg, hn, hcap, by simp [putCells, hsz], ?_⟩⟩, (fvs_to d'.toList).agree (hag n os d'), hgr n os d'⟩
    · rw [List.pairwise_map, List.pairwise_iff_getElem]
      intro i j hi hj hij
      have hi' : i < d'.size := by simpa using hi
      have hj' : j < d'.size := by simpa using hj
      have := hs i j (Nat.zero_le _) hij (by omega)
      simp only [ltOf, decide_eq_false_iff_not] at this
      rw [getElem!_pos d' j hj', getElem!_pos d' i hi'] at this
      simp only [Array.getElem_toList]
      rcases Int.lt_trichotomy (cmpP d'[i].1.f.p d'[j].1.f.p) 0 with h | h | h
      · omega
      · omega
      · exact absurd (cmpP_ord.flop h) this
    · rw [← hsz', take_putC _ _ _ (by omega), List.map_id]
      simpa using hfl'
end Go.Proofs.LF
namespace Go.Proofs.LF
def chR (a b : List Fl) (p : List Ky) : Ch := ⟨p, (rfd a p).isSome, (rfd b p).isSome, ((rfd a p).getD fl0).l, ((rfd b p).getD fl0).l⟩
theorem dfF_eq {a b : List Fl} (ha : Srt a) (hb : Srt b) : dfF a b = ((pthsF [a, b]).filter fun p => !eqR a b p).map (chR a b) := by
  unfold dfF
  induction pthsF [a, b] with
  | nil => rfl
  | cons p ps ih =>
    rw [List.filterMap_cons, List.filter_cons, chD, smF_eqR ha hb, fnd_rfd ha, fnd_rfd hb]
    cases eqR a b p
    · simp [ih, chR]
    · simp [ih]
theorem difL_eq {y x : Fo} (hy : chkY y = 0) (hx : chkY x = 0) : difE y x = 0 ∧ difL y x = dfF (flsL [] y) (flsL [] x) := by
  have : difE y x = 0 := by simp [difE, hy, hx]
  exact ⟨this, by rw [difL, if_pos this]⟩
theorem good2 {y x : Fo} (hy : chkY y = 0) (hx : chkY x = 0) : ∀ l ∈ [flsL [] y, flsL [] x], ∀ q ∈ l, GoodP q.p := fun l hl q hq => by
  simp only [List.mem_cons, List.not_mem_nil, or_false] at hl
  rcases hl with rfl | rfl
  · exact fls_good hy q hq
  · exact fls_good hx q hq
theorem dif_mem {y x : Fo} (hy : chkY y = 0) (hx : chkY x = 0) {c : Ch} : c ∈ difL y x ↔ (c.p ∈ (flsL [] y).map Fl.p ∨ c.p ∈ (flsL [] x).map Fl.p) ∧ eqR (flsL [] y) (flsL [] x) c.p = false ∧ c = chR (flsL [] y) (flsL [] x) c.p := by
  obtain ⟨_, h6⟩ := pths_spec (good2 hy hx)
  rw [(difL_eq hy hx).2, dfF_eq (fls_srt hy) (fls_srt hx), List.mem_map]
  constructor
  · rintro ⟨p, hp, rfl⟩
    rw [List.mem_filter, h6] at hp
    obtain ⟨⟨l, hl, h1⟩, h2⟩ := hp
    simp only [List.mem_cons, List.not_mem_nil, or_false] at hl
    refine ⟨?_, by simpa [chR] using h2, rfl⟩
    rcases hl with rfl | rfl
    · exact .inl h1
    · exact .inr h1
  · rintro ⟨h1, h2, h3⟩
    refine ⟨c.p, ?_, h3.symm⟩
    rw [List.mem_filter, h6]
    refine ⟨?_, by simp [h2]⟩
    rcases h1 with h | h
    · exact ⟨_, by simp, h⟩
    · exact ⟨_, by simp, h⟩
theorem dif_srt {y x : Fo} (hy : chkY y = 0) (hx : chkY x = 0) : (difL y x).Pairwise (fun a b => cmpP a.p b.p < 0) := by
  obtain ⟨h5, _⟩ := pths_spec (good2 hy hx)
  rw [(difL_eq hy hx).2, dfF_eq (fls_srt hy) (fls_srt hx), List.pairwise_map]
  exact (List.Pairwise.sublist List.filter_sublist h5).imp fun h => h
def KyOk (k : Ky) : Prop := badNm k.n = false ∧ inB k.x 0 9999 = true ∧ (k.h || decide (k.x = 0)) = true
theorem kyOk_of {n : List UInt8} {l : List Int} (h1 : badNm n = false) (h2 : badNs l = false) : KyOk (kyOf n l) := by
  cases l with
  | nil => exact ⟨by simpa [kyOf] using h1, by simp [kyOf, inB], by simp [kyOf]⟩
  | cons x l =>
    have := badNs_mem h2 x (by simp)
    exact ⟨by simpa [kyOf] using h1, by simp [kyOf, inB, this.1, this.2], by simp [kyOf]⟩
theorem fls_kyok : ∀ (y : Fo) (u : List Ky) (d : Nat), OkG d y → (∀ k ∈ u, KyOk k) → ∀ x ∈ flsL u y, ∀ k ∈ x.p, KyOk k
  | .nil, u, _, _, _, x, h => by cases h
  | .cons n l s r, u, d, ⟨⟨h1, h2, h3, h4⟩, h5, _, h7⟩, hu, x, h => by
    rw [flsL_cons] at h
    have hu' : ∀ k ∈ u ++ [kyOf n l], KyOk k := fun k hk => by
      rcases List.mem_append.1 hk with h | h
      · exact hu k h
      · simp only [List.mem_singleton] at h; rw [h]; exact kyOk_of h2 h4
    rcases List.mem_cons.1 h with rfl | h
    · exact hu'
    · rcases List.mem_append.1 h with h | h
      · exact fls_kyok s _ _ h5 hu' x h
      · exact fls_kyok r u d h7 hu x h
theorem ckL_of : ∀ (l : List Ch) (q : Option (List Ky)), (∀ c ∈ l, ckOne none c = 0) → l.Pairwise (fun a b => cmpP a.p b.p < 0) → (∀ r, q = some r → ∀ c ∈ l, cmpP r c.p < 0) → ckL q l = 0
  | [], _, _, _, _ => rfl
  | c :: l, q, h1, h2, h3 => by
    obtain ⟨h4, h5⟩ := List.pairwise_cons.1 h2
    have h0 := h1 c (by simp)
    have hb : behB q c.p = false := by
      cases q with
      | none => rfl
      | some r => have := h3 r rfl c (by simp); simp [behB]; omega
    have h6 : ckOne q c = 0 := by
      rw [← h0]
      unfold ckOne
      rw [hb, show behB none c.p = false from rfl]
    simp only [ckL]
    rw [if_pos h6]
    exact ckL_of l (some c.p) (fun x hx => h1 x (by simp [hx])) h5 (fun r hr x hx => by cases hr; exact h4 x hx)
theorem begK_kyOf (n : List UInt8) (l : List Int) : begK (kyOf n l) l = true := by
  cases l <;> simp [begK, kyOf]
theorem lstK_snoc (v : List Ky) (k : Ky) : lstK (v ++ [k]) = k := by simp [lstK]
theorem fls_one {y : Fo} (hy : chkY y = 0) {x : Fl} (hx : x ∈ flsL [] y) : (1 ≤ x.p.length ∧ x.p.length ≤ 4) ∧ okNm x.p = true ∧ okNu x.p = true ∧ (x.p.all fun k => k.h || decide (k.x = 0)) = true ∧ x.l.length ≤ 4 ∧ badNs x.l = false ∧ begK (lstK x.p) x.l = true := by
  have hg := chk_okG hy
  obtain ⟨h1, ⟨v, n, h2, h3⟩, h4, h5⟩ := fls_flok y [] hg x hx
  have hk := fls_kyok y [] 0 hg (by simp) x hx
  refine ⟨⟨by rw [h2]; simp, h1⟩, ?_, ?_, ?_, h4, h5, by rw [h2, lstK_snoc]; exact begK_kyOf n x.l⟩
  · simp only [okNm, List.all_eq_true]; intro k h; have := (hk k h).1; simp [this]
  · simp only [okNu, List.all_eq_true]; intro k h; exact (hk k h).2.1
  · simp only [List.all_eq_true]; intro k h; exact (hk k h).2.2
theorem rfd_no {l : List Fl} {p : List Ky} (h : p ∉ l.map Fl.p) : rfd l p = none := by
  cases hr : rfd l p with
  | none => rfl
  | some x => exact absurd (rfd_iff.1 (by rw [hr]; rfl)) h
theorem dif_one {y x : Fo} (hy : chkY y = 0) (hx : chkY x = 0) {c : Ch} (hc : c ∈ difL y x) : ckOne none c = 0 := by
  obtain ⟨h1, h2, h3⟩ := (dif_mem hy hx).1 hc
  obtain ⟨p, had, has, old, new⟩ := c
  simp only [chR, Ch.mk.injEq, true_and] at h3 h1 h2
  obtain ⟨rfl, rfl, rfl, rfl⟩ := h3
  have key : ∀ p, (∃ z, (z ∈ flsL [] y ∨ z ∈ flsL [] x) ∧ z.p = p) → (1 ≤ p.length ∧ p.length ≤ 4) ∧ okNm p = true ∧ okNu p = true ∧ (p.all fun k => k.h || decide (k.x = 0)) = true := by
    rintro p ⟨z, hz | hz, rfl⟩
    · have := fls_one hy hz; exact ⟨this.1, this.2.1, this.2.2.1, this.2.2.2.1⟩
    · have := fls_one hx hz; exact ⟨this.1, this.2.1, this.2.2.1, this.2.2.2.1⟩
  have kp := key p (by
    rcases h1 with h | h
    · obtain ⟨z, hz, e⟩ := List.mem_map.1 h; exact ⟨z, .inl hz, e⟩
    · obtain ⟨z, hz, e⟩ := List.mem_map.1 h; exact ⟨z, .inr hz, e⟩)
  obtain ⟨k1, k2, k3, k4⟩ := kp
  have side : ∀ {q : Fo}, chkY q = 0 → ((rfd (flsL [] q) p).getD fl0).l.length ≤ 4 ∧ badNs ((rfd (flsL [] q) p).getD fl0).l = false ∧ ((rfd (flsL [] q) p).isSome = true → begK (lstK p) ((rfd (flsL [] q) p).getD fl0).l = true) ∧ ((rfd (flsL [] q) p).isSome = false → ((rfd (flsL [] q) p).getD fl0).l = []) := by
    intro q hq
    cases hr : rfd (flsL [] q) p with
    | none => exact ⟨by simp [fl0], by simp [fl0, badNs], by simp, by simp [fl0]⟩
    | some z =>
      obtain ⟨m1, m2⟩ := rfd_some hr
      have := fls_one hq m1
      rw [m2] at this
      exact ⟨this.2.2.2.2.1, this.2.2.2.2.2.1, fun _ => this.2.2.2.2.2.2, by simp⟩
  obtain ⟨a1, a2, a3, a4⟩ := side hy
  obtain ⟨b1, b2, b3, b4⟩ := side hx
  have hrt : rtC ⟨p, (rfd (flsL [] y) p).isSome, (rfd (flsL [] x) p).isSome, ((rfd (flsL [] y) p).getD fl0).l, ((rfd (flsL [] x) p).getD fl0).l⟩ (lstK p) = true := by
    unfold rtC
    have hor : (rfd (flsL [] y) p).isSome = true ∨ (rfd (flsL [] x) p).isSome = true := by
      rcases h1 with h | h
      · exact .inl (rfd_iff.2 h)
      · exact .inr (rfd_iff.2 h)
    have hne : eqR (flsL [] y) (flsL [] x) p = false := h2
    unfold eqR at hne
    simp only
    rw [if_neg, if_neg, if_neg]
    · cases h7 : rfd (flsL [] y) p with
      | none => simp
      | some u =>
        cases h8 : rfd (flsL [] x) p with
        | none => simp
        | some v => rw [h7, h8] at hne; simpa using hne
    · rw [k4]; simp
    · cases h7 : (rfd (flsL [] y) p).isSome <;> cases h8 : (rfd (flsL [] x) p).isSome <;> simp [h7, h8, a3, b3]
    · cases h7 : (rfd (flsL [] y) p).isSome <;> cases h8 : (rfd (flsL [] x) p).isSome
      · rw [h7, h8] at hor; simp at hor
      · rw [a4 h7]; simp
      · rw [b4 h8]; simp
      · simp
  unfold ckOne
  simp only
  rw [if_neg (by simp [inB]; omega), if_neg (by rw [k2]; simp), if_neg (by simp; omega), if_neg (by rw [k3, a2, b2]; simp), if_neg (by rw [hrt]; simp), if_neg (by simp [behB])]
theorem dif_len {y x : Fo} (hy : chkY y = 0) (hx : chkY x = 0) : (difL y x).length ≤ 120 := by
  rw [(difL_eq hy hx).2, dfF_eq (fls_srt hy) (fls_srt hx), List.length_map]
  have h1 := List.length_filter_le (fun p => !eqR (flsL [] y) (flsL [] x) p) (pthsF [flsL [] y, flsL [] x])
  have h2 := pths_len (ls := [flsL [] y, flsL [] x])
  simp only [List.flatten_cons, List.flatten_nil, List.append_nil, List.length_append] at h2
  have h3 := (fls_ok hy).2.2
  have h4 := (fls_ok hx).2.2
  omega
theorem dif_ck {y x : Fo} (hy : chkY y = 0) (hx : chkY x = 0) : ckC (difL y x) = 0 := by
  unfold ckC
  rw [if_neg (by have := dif_len hy hx; omega)]
  exact ckL_of _ none (fun c hc => dif_one hy hx hc) (dif_srt hy hx) (fun r hr => by cases hr)
theorem rfd_at {x : Fl} : ∀ {L : List Fl}, Srt L → x ∈ L → rfd L x.p = some x
  | [], _, h => by cases h
  | y :: L, hs, h => by
    obtain ⟨h1, h2⟩ := List.pairwise_cons.1 hs
    rw [rfd, List.find?_cons]
    rcases List.mem_cons.1 h with rfl | h
    · simp
    · have hne : ¬ y.p = x.p := (fun e => by have h2 := h1 x h; rw [e, cmpP_ord.refl] at h2; omega)
      simp only [hne, decide_false]
      exact rfd_at h2 h
theorem mk_dif {y x : Fo} (hy : chkY y = 0) (hx : chkY x = 0) : mkE y (difL y x) = 0 ∧ mkY y (difL y x) = x := by
  have hck := dif_ck hy hx
  have hsy := fls_srt hy
  have hsx := fls_srt hx
  have hO : mkO y (difL y x) = flsL [] x := by
    refine srt_ext (mkO_srt hsy (dif_srt hy hx)) hsx fun z => ?_
    rw [mkO, srtFl_mem, List.mem_append, keptF_mem, newsF_mem]
    constructor
    · rintro (⟨h1, h2⟩ | ⟨c, hc, hh, rfl⟩)
      · have he : eqR (flsL [] y) (flsL [] x) z.p = true := by
          cases hq : eqR (flsL [] y) (flsL [] x) z.p with
          | true => rfl
          | false => exact absurd rfl (h2 (chR (flsL [] y) (flsL [] x) z.p) ((dif_mem hy hx).2 ⟨.inl (List.mem_map.2 ⟨z, h1, rfl⟩), hq, rfl⟩))
        have := rfd_same he
        rw [rfd_at hsy h1] at this
        exact (rfd_some this.symm).1
      · obtain ⟨_, _, h3⟩ := (dif_mem hy hx).1 hc
        have e1 := congrArg Ch.has h3
        have e2 := congrArg Ch.new h3
        rw [hh] at e1
        simp only [chR] at e1 e2
        cases hr : rfd (flsL [] x) c.p with
        | none => rw [hr] at e1; cases e1
        | some v =>
          obtain ⟨m1, m2⟩ := rfd_some hr
          rw [hr] at e2
          simp only [Option.getD_some] at e2
          rw [e2, ← m2]
          exact m1
    · intro h
      have hr := rfd_at hsx h
      cases he : eqR (flsL [] y) (flsL [] x) z.p with
      | true =>
        left
        have := rfd_same he
        rw [hr] at this
        refine ⟨(rfd_some this).1, fun c hc e => ?_⟩
        have := ((dif_mem hy hx).1 hc).2.1
        rw [e, he] at this
        cases this
      | false =>
        right
        exact ⟨chR (flsL [] y) (flsL [] x) z.p, (dif_mem hy hx).2 ⟨.inr (List.mem_map.2 ⟨z, h, rfl⟩), he, rfl⟩, by simp [chR, hr], by simp [chR, hr]⟩
  have hfit : (difL y x).all (fitC (flsL [] y)) = true := by
    rw [List.all_eq_true]
    intro c hc
    obtain ⟨_, _, h3⟩ := (dif_mem hy hx).1 hc
    unfold fitC
    rw [fnd_rfd hsy]
    have e1 := congrArg Ch.had h3
    have e2 := congrArg Ch.old h3
    simp only [chR] at e1 e2
    rw [← e1, ← e2]; simp
  have hls : lsF [] [] (flsL [] x) = (flsL [] x, []) := lsF_clo hsx clo_fls (fun z hz => by
    obtain ⟨k, t, e⟩ := flsL_pre x [] z hz
    rw [e]; simp) [] _ rfl
  have hE : mkE y (difL y x) = 0 := by
    unfold mkE
    rw [if_neg (by simpa using hy), if_neg (by simpa using hck), if_neg (by rw [hfit]; simp), hO, hls, if_neg (by simp), if_neg (by have := (fls_ok hx).2.2; omega)]
  exact ⟨hE, by rw [mkY, if_pos hE, hO, treF_flsL]⟩
theorem dif_turn {y x : Fo} (hy : chkY y = 0) (hx : chkY x = 0) : (difL y x).map turnC = difL x y := by
  obtain ⟨h5, h6⟩ := pths_spec (good2 hy hx)
  obtain ⟨g5, g6⟩ := pths_spec (good2 hx hy)
  have hps : pthsF [flsL [] y, flsL [] x] = pthsF [flsL [] x, flsL [] y] := srtP_ext h5 g5 fun p => by
    rw [h6 p, g6 p]
    simp only [List.mem_cons, List.not_mem_nil, or_false]
    constructor
    · rintro ⟨l, h | h, h'⟩
      · exact ⟨l, .inr h, h'⟩
      · exact ⟨l, .inl h, h'⟩
    · rintro ⟨l, h | h, h'⟩
      · exact ⟨l, .inr h, h'⟩
      · exact ⟨l, .inl h, h'⟩
  rw [(difL_eq hy hx).2, (difL_eq hx hy).2, dfF_eq (fls_srt hy) (fls_srt hx), dfF_eq (fls_srt hx) (fls_srt hy), hps, List.map_map]
  have : (fun p => !eqR (flsL [] y) (flsL [] x) p) = fun p => !eqR (flsL [] x) (flsL [] y) p := funext fun p => by rw [eqR_symm]
  rw [this]
  rfl
end Go.Proofs.LF
