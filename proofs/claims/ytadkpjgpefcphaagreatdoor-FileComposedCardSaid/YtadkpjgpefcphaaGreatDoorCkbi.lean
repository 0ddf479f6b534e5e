/- Parts of the proof of a law of layer 11 (file): LfW96, LfMd, LfPre, LfTu. The conditions stand in each theorem. -/
import Derived.Test.YtadkpjgpefcphaaGreatDoorProg
import Derived.Test.YtadkpjgpefcphaaGreatDoorCkad
import Derived.Test.YtadkpjgpefcphaaGreatDoorCkae
import Derived.Test.YtadkpjgpefcphaaGreatDoorCkai
import Derived.Test.YtadkpjgpefcphaaGreatDoorCkan
import Derived.Test.YtadkpjgpefcphaaGreatDoorCkax
import Derived.Test.YtadkpjgpefcphaaGreatDoorCkbc
import Derived.Test.YtadkpjgpefcphaaGreatDoorCkbd
import Derived.Test.YtadkpjgpefcphaaGreatDoorCkbf
import Derived.Test.YtadkpjgpefcphaaGreatDoorCkbg
set_option linter.all false
set_option linter.unusedVariables false
set_option linter.unusedSimpArgs false
namespace Go.Proofs.LF
open Go.RowKit Go.Sort
set_option maxHeartbeats 4000000
set_option maxRecDepth 100000
attribute [local go_sem] bs_toList bs_size bs_get
def backL (l : List Ch) : List Ch := if ckC l = 0 then l.map turnC else []
theorem Back_any (l : List Ch) (al : Option Addr) (cl : Nat) (S : Nat → Prop) (w : World) (hv : ChSl S w (.slice al l.length cl) l) (hS : ∀ b, S b → b < w.heap.size) (hl : l.length ≤ 1000) (hsm : SmCh l) :
 Calls Tryz.prog 72 #[.slice al l.length cl] w fun e w' => ∃ a c, e = .returned (.tuple #[.slice a (backL l).length c, .int .i64 (ckC l)]) ∧ ChSl (Rg w.heap.size w'.heap.size) w' (.slice a (backL l).length c) (backL l) ∧ Below w.heap.size w w' := by
 obtain ⟨i0, hi0, hz0, hz1, hz2⟩ := info_parts Tryz.info68'
 have CK := hid (CheckChanges_any l al cl S w hv hS hl hsm)
 obtain ⟨al', cl', ee, _, hcm, hat⟩ := LSl.at hv
 obtain ⟨rfl, rfl⟩ : al = al' ∧ cl = cl' := by cases ee; exact ⟨rfl, rfl⟩
 have HAT := hid hat
 have HS := hid hS
 have HSM := hid hsm
 unfold maxLen at hcm
 clear hv hS hsm ee hat
 go_enter Tryz.func72, Tryz.ntmps72
 go_wp2_with fail
 refine CK.out.mono ?_
 rintro e w1 ⟨rfl, hb1⟩
 by_cases he : ¬ ckC l = 0
 · have he' : (ckC l != 0) = true := by simpa using he
   have HE := hid he
   have HB1 := hid hb1
   clear he hb1
   go_wp2_with fail
   have hbl : backL l = [] := by rw [backL, if_neg HE.out]
   refine bodyPost_ret (v := .tuple #[.slice none 0 0, .int .i64 (ckC l)]) (by simp [results, Tryz.results72, go_sem]) rfl ?_
   rw [hbl]
   exact ⟨none, 0, rfl, ⟨[], ⟨rfl, none, 0, rfl, nl_ _, by simp [maxLen], fun _ => rfl, .inl rfl⟩, rfl⟩, HB1.out⟩
 have he : ckC l = 0 := by omega
 have hl120 : l.length ≤ 120 := by
  rw [ckC] at he
  split at he
  · cases he
  · omega
 have hbl : backL l = l.map turnC := by rw [backL, if_pos he]
 have HE := hid he
 have HBL := hid hbl
 have HB1 := hid hb1
 have hz1' := hb1.size
 rw [he]
 clear he hbl hb1
 go_wp2_with fail
 go_loopw [5, 15] (fun v i wr => ∃ (k : Nat) (cs : List Value), k ≤ l.length ∧ i = .int .i64 k ∧ wr.ownsRow w1.heap.size 68 5 v ((l.take k).map turnC).length cs ∧ Hid (LCs rdCh (Rx w1.heap.size wr.heap.size v) wr ((l.take k).map turnC) cs) ∧ Hid (Below w1.heap.size w1 wr)) (fun _ i _ => l.length - (intOf i).toNat)
 case atStart => exact ⟨0, [], by omega, rfl, World.ownsRow_nil _ _ _ _, rfl, Below.refl _ _⟩
 case round =>
  obtain ⟨k, cs, hk, rfl, hown, hlc, HB⟩ := hrel
  have hzr := HB.out.size
  by_cases hlt : k < l.length
  · have hlt' : (k : Int) < (l.length : Int) := by omega
    obtain ⟨g, o, cs1, rfl, hg, ⟨ap, cp, ao, co, an, cn, rfl, hP, hO, hN⟩, hcl⟩ := HAT.out k hlt
    have hbw := HB1.out.trans (HB.out.mono hz1')
    have hag := Ag_b (S := S) hbw HS.out
    have c0 := hag.cell hg (hcl 0 _ rfl)
    have c1 := hag.cell hg (hcl 1 _ rfl)
    have c2 := hag.cell hg (hcl 2 _ rfl)
    have c3 := hag.cell hg (hcl 3 _ rfl)
    have c4 := hag.cell hg (hcl 4 _ rfl)
    rw [Nat.add_zero] at c0
    simp only [← Nat.add_assoc] at c1 c2 c3 c4
    have hsm := HSM.out l[k] (List.getElem_mem hlt)
    have htk : l.take (k + 1) = l.take k ++ [l[k]] := List.take_succ_eq_append_getElem hlt
    obtain ⟨x, hx⟩ : ∃ x, l[k] = x := ⟨_, rfl⟩
    rw [hx] at hP hO hN c0 c1 c2 c3 c4 hsm htk
    have hll : ((l.take k).map turnC).length ≤ 120 := by rw [List.length_map, List.length_take]; omega
    obtain ⟨W4, hW4⟩ : ∃ W4, wr.alloc (.cells #[.slice ap x.p.length cp, .bool x.had, .bool x.has, .slice ao x.old.length co, .slice an x.new.length cn] 68) = W4 := ⟨_, rfl⟩
    have hz4 : W4.heap.size = wr.heap.size + 1 := by rw [← hW4]; simp
    have hb4 : Below wr.heap.size wr W4 := by rw [← hW4]; exact (Below.refl _ _).alloc (nl_ _) _
    have hnb : W4.heap[wr.heap.size]? = some (.cells #[.slice ap x.p.length cp, .bool x.had, .bool x.has, .slice ao x.old.length co, .slice an x.new.length cn] 68 (0, 0)) := by rw [← hW4]; exact heap_alloc_new _ _
    have d0 := cg_ hnb (k := 0) rfl
    have d1 := cg_ hnb (k := 1) rfl
    have d2 := cg_ hnb (k := 2) rfl
    have d3 := cg_ hnb (k := 3) rfl
    have d4 := cg_ hnb (k := 4) rfl
    have hag4 : Agree S w W4 := Ag_b (hbw.trans (hb4.mono (by omega))) HS.out
    have TC := hid (turned_any x ap ao an cp co cn S W4 (hP.agree hag4) (hO.agree hag4) (hN.agree hag4) (fun b hb => by have := HS.out b hb; omega) hsm.1 hsm.2.2.1 hsm.2.2.2)
    have how4 := ob_ hown hb4 (nl_ _)
    have hlc4 : Hid (LCs rdCh (Rx w1.heap.size W4.heap.size u5) W4 ((l.take k).map turnC) cs) := (hlc.out.agree (fun b hb => hb4.block b hb.2.1)).wide fun b hb => ⟨hb.1, by have := hb.2.1; omega, hb.2.2⟩
    have HB4 := hid (HB.out.trans (hb4.mono hzr))
    have HTK := hid htk
    have HW4 := hid hW4
    have S2 := hid hsm
    clear hcl hP hO hN hx hag hag4 hbw hnb hb4 hW4 htk hsm hlc
    go_wp2_with (rw [HW4.out])
    clear c0 c1 c2 c3 c4 d0 d1 d2 d3 d4
    refine TC.out.mono ?_
    rintro e w8 ⟨ap1, cp1, ao1, co1, an1, cn1, rfl, hp8, hn8, ho8, hb8⟩
    have hz8 := hb8.size
    have how8 := ob_ how4 hb8 (nl_ _)
    have HB8 := hid hb8
    have HP8 := hid hp8
    have HN8 := hid hn8
    have HO8 := hid ho8
    clear hb8 hp8 hn8 ho8
    have hlen : ((l.take k).map turnC).length = k := by rw [List.length_map, List.length_take]; omega
    have hz8' : w1.heap.size ≤ w8.heap.size := by omega
    go_wp2_with (at_builtin; refine (wpList_append_ao _ rfl _ _ _ rfl w1.heap.size 68 i0 _ 5 80 Tryz.underlying62 hi0 hz0 hz1 hz2 rfl (by omega) u5 ((l.take k).map turnC).length cs rfl (how8.alloc _) (some ⟨w8.heap.size, 0, none⟩) 1 1 [.slice ap1 x.p.length cp1, .bool x.has, .bool x.had, .slice an1 x.new.length cn1, .slice ao1 x.old.length co1] rfl rfl (fun h => by cases h) (fun ad had => by cases had; exact World.news_of_block (cs := #[.slice ap1 x.p.length cp1, .bool x.has, .bool x.had, .slice an1 x.new.length cn1, .slice ao1 x.old.length co1]) (t := 68) (fr := (0, 0)) (heap_alloc_new _ _)) (by simp [Value.oneCell']) (by unfold maxLen; omega) (by omega) (by simp; omega) ?_); intro a11 c11 w11 hown11 hgrow11 hat11)
    have hfm : (l.take (k + 1)).map turnC = (l.take k).map turnC ++ [turnC x] := by rw [HTK.out, List.map_append]; rfl
    have HFM := hid hfm
    clear hfm
    have hbW : Below W4.heap.size W4 (w8.alloc (.cells #[.slice ap1 x.p.length cp1, .bool x.has, .bool x.had, .slice an1 x.new.length cn1, .slice ao1 x.old.length co1] 68)) := HB8.out.alloc (by omega) _
    obtain ⟨g11, cap11, he11, hg11, hlt11⟩ := hown11.form (by omega)
    cases he11
    have hl37 : w1.heap.size ≤ W4.heap.size := by omega
    have st : Step w1.heap.size W4 (w8.alloc (.cells #[.slice ap1 x.p.length cp1, .bool x.has, .bool x.had, .slice an1 x.new.length cn1, .slice ao1 x.old.length co1] 68)) w11 u5 g11 := ⟨hbW, ⟨hgrow11.os, hgrow11.tape, hgrow11.output, hgrow11.size, hgrow11.block⟩, hl37, fun b hb => how4.lt b hb, hat11 g11 rfl, hlt11⟩
    have hv' : (Value.slice (some ⟨g11, 0, none⟩) (((l.take k).map turnC).length + 1) c11).ownBlock = some g11 := rfl
    have n1 := st.keep (Stable.lcs _ _) hv' hlc4.out
    have n2 := st.lift (p := W4.heap.size) (q := w8.heap.size) (Stable.pth _ _) hv' HP8.out (nl_ _) (by simp) ((Below.refl _ _).alloc (nl_ _) _)
    have n3 := st.lift (p := W4.heap.size) (q := w8.heap.size) (Stable.ints _ _) hv' HN8.out (nl_ _) (by simp) ((Below.refl _ _).alloc (nl_ _) _)
    have n4 := st.lift (p := W4.heap.size) (q := w8.heap.size) (Stable.ints _ _) hv' HO8.out (nl_ _) (by simp) ((Below.refl _ _).alloc (nl_ _) _)
    have n5 := st.out HB4.out
    have n6 : Hid (LCs rdCh (Rx w1.heap.size w11.heap.size (.slice (some ⟨g11, 0, none⟩) (((l.take k).map turnC).length + 1) c11)) w11 ((l.take k).map turnC ++ [turnC x]) (cs ++ [.slice ap1 x.p.length cp1, .bool x.has, .bool x.had, .slice an1 x.new.length cn1, .slice ao1 x.old.length co1])) :=
     n1.app (LCs.single ⟨ap1, cp1, an1, cn1, ao1, co1, rfl, n2, n3, n4⟩)
    clear n1 n2 n3 n4 st hbW
    go_wp2_with fail
    go_roundw
    case rel => exact ⟨k + 1, _, by omega, by go_num, by rw [HFM.out, List.length_append]; have h11 := hown11; rw [hlen] at h11 ⊢; exact h11, by rw [HFM.out]; have h16 := n6; rw [hlen] at h16; exact h16, n5⟩
    case measure => simp [intOf]; omega
  · obtain rfl : k = l.length := by omega
    have hlt' : ¬ (l.length : Int) < (l.length : Int) := by omega
    go_wp2_with fail
    obtain ⟨a9, c9, rfl, _, _⟩ := owns_shape hown
    rw [List.take_length] at hown hlc ⊢
    refine bodyPost_ret (v := .tuple #[.slice a9 (l.map turnC).length c9, .int .i64 0]) (by simp [results, Tryz.results72, go_sem]) rfl ?_
    rw [HBL.out, HE.out]
    exact ⟨a9, c9, rfl, ⟨cs, (SlC.of_owns hown).wide fun b hb => ⟨by have := hb.1; omega, hb.2⟩, hlc.out.wide fun b hb => ⟨by have := hb.1; omega, hb.2.1⟩⟩, HB1.out.trans (HB.out.mono hz1')⟩
end Go.Proofs.LF
namespace Go.Proofs.LF
def chR (a b : List Fl) (p : List Ky) : Ch := ⟨p, (rfd a p).isSome, (rfd b p).isSome, ((rfd a p).getD fl0).l, ((rfd b p).getD fl0).l⟩
theorem dfF_eq {a b : List Fl} (ha : Srt a) (hb : Srt b) : dfF a b = ((pthsF [a, b]).filter fun p => !eqR a b p).map (chR a b) := by
 unfold dfF
 induction pthsF [a, b] with
 | nil => rfl
 | cons p ps ih =>
   rw [List.filterMap_cons, List.filter_cons, chD, smF_eqR ha hb, fnd_rfd ha, fnd_rfd hb]
   cases eqR a b p
   · simp [ih, chR]
   · simp [ih]
theorem difL_eq {y x : Fo} (hy : chkY y = 0) (hx : chkY x = 0) : difE y x = 0 ∧ difL y x = dfF (flsL [] y) (flsL [] x) := by
 have : difE y x = 0 := by simp [difE, hy, hx]
 exact ⟨this, by rw [difL, if_pos this]⟩
theorem good2 {y x : Fo} (hy : chkY y = 0) (hx : chkY x = 0) : ∀ l ∈ [flsL [] y, flsL [] x], ∀ q ∈ l, GoodP q.p := fun l hl q hq => by
 simp only [List.mem_cons, List.not_mem_nil, or_false] at hl
 rcases hl with rfl | rfl
 · exact fls_good hy q hq
 · exact fls_good hx q hq
theorem dif_mem {y x : Fo} (hy : chkY y = 0) (hx : chkY x = 0) {c : Ch} : c ∈ difL y x ↔ (c.p ∈ (flsL [] y).map Fl.p ∨ c.p ∈ (flsL [] x).map Fl.p) ∧ eqR (flsL [] y) (flsL [] x) c.p = false ∧ c = chR (flsL [] y) (flsL [] x) c.p := by
 obtain ⟨_, h6⟩ := pths_spec (good2 hy hx)
 rw [(difL_eq hy hx).2, dfF_eq (fls_srt hy) (fls_srt hx), List.mem_map]
 constructor
 · rintro ⟨p, hp, rfl⟩
   rw [List.mem_filter, h6] at hp
   obtain ⟨⟨l, hl, h1⟩, h2⟩ := hp
   simp only [List.mem_cons, List.not_mem_nil, or_false] at hl
   refine ⟨?_, by simpa [chR] using h2, rfl⟩
   rcases hl with rfl | rfl
   · exact .inl h1
   · exact .inr h1
 · rintro ⟨h1, h2, h3⟩
   refine ⟨c.p, ?_, h3.symm⟩
   rw [List.mem_filter, h6]
   refine ⟨?_, by simp [h2]⟩
   rcases h1 with h | h
   · exact ⟨_, by simp, h⟩
   · exact ⟨_, by simp, h⟩
theorem dif_srt {y x : Fo} (hy : chkY y = 0) (hx : chkY x = 0) : (difL y x).Pairwise (fun a b => cmpP a.p b.p < 0) := by
 obtain ⟨h5, _⟩ := pths_spec (good2 hy hx)
 rw [(difL_eq hy hx).2, dfF_eq (fls_srt hy) (fls_srt hx), List.pairwise_map]
 exact (List.Pairwise.sublist List.filter_sublist h5).imp fun h => h
def KyOk (k : Ky) : Prop := badNm k.n = false ∧ inB k.x 0 9999 = true ∧ (k.h || decide (k.x = 0)) = true
theorem kyOk_of {n : List UInt8} {l : List Int} (h1 : badNm n = false) (h2 : badNs l = false) : KyOk (kyOf n l) := by
 cases l with
 | nil => exact ⟨by simpa [kyOf] using h1, by simp [kyOf, inB], by simp [kyOf]⟩
 | cons x l =>
   have := badNs_mem h2 x (by simp)
   exact ⟨by simpa [kyOf] using h1, by simp [kyOf, inB, this.1, this.2], by simp [kyOf]⟩
theorem fls_kyok : ∀ (y : Fo) (u : List Ky) (d : Nat), OkG d y → (∀ k ∈ u, KyOk k) → ∀ x ∈ flsL u y, ∀ k ∈ x.p, KyOk k
 | .nil, u, _, _, _, x, h => by cases h
 | .cons n l s r, u, d, ⟨⟨h1, h2, h3, h4⟩, h5, _, h7⟩, hu, x, h => by
   rw [flsL_cons] at h
   have hu' : ∀ k ∈ u ++ [kyOf n l], KyOk k := fun k hk => by
    rcases List.mem_append.1 hk with h | h
    · exact hu k h
    · simp only [List.mem_singleton] at h; rw [h]; exact kyOk_of h2 h4
   rcases List.mem_cons.1 h with rfl | h
   · exact hu'
   · rcases List.mem_append.1 h with h | h
     · exact fls_kyok s _ _ h5 hu' x h
     · exact fls_kyok r u d h7 hu x h
theorem ckL_of : ∀ (l : List Ch) (q : Option (List Ky)), (∀ c ∈ l, ckOne none c = 0) → l.Pairwise (fun a b => cmpP a.p b.p < 0) → (∀ r, q = some r → ∀ c ∈ l, cmpP r c.p < 0) → ckL q l = 0
 | [], _, _, _, _ => rfl
 | c :: l, q, h1, h2, h3 => by
   obtain ⟨h4, h5⟩ := List.pairwise_cons.1 h2
   have h0 := h1 c (by simp)
   have hb : behB q c.p = false := by
    cases q with
    | none => rfl
    | some r => have := h3 r rfl c (by simp); simp [behB]; omega
   have h6 : ckOne q c = 0 := by
    rw [← h0]
    unfold ckOne
    rw [hb, show behB none c.p = false from rfl]
   simp only [ckL]
   rw [if_pos h6]
   exact ckL_of l (some c.p) (fun x hx => h1 x (by simp [hx])) h5 (fun r hr x hx => by cases hr; exact h4 x hx)
theorem begK_kyOf (n : List UInt8) (l : List Int) : begK (kyOf n l) l = true := by
 cases l <;> simp [begK, kyOf]
theorem lstK_snoc (v : List Ky) (k : Ky) : lstK (v ++ [k]) = k := by simp [lstK]
theorem fls_one {y : Fo} (hy : chkY y = 0) {x : Fl} (hx : x ∈ flsL [] y) : (1 ≤ x.p.length ∧ x.p.length ≤ 4) ∧ okNm x.p = true ∧ okNu x.p = true ∧ (x.p.all fun k => k.h || decide (k.x = 0)) = true ∧ x.l.length ≤ 4 ∧ badNs x.l = false ∧ begK (lstK x.p) x.l = true := by
 have hg := chk_okG hy
 obtain ⟨h1, ⟨v, n, h2, h3⟩, h4, h5⟩ := fls_flok y [] hg x hx
 have hk := fls_kyok y [] 0 hg (by simp) x hx
 refine ⟨⟨by rw [h2]; simp, h1⟩, ?_, ?_, ?_, h4, h5, by rw [h2, lstK_snoc]; exact begK_kyOf n x.l⟩
 · simp only [okNm, List.all_eq_true]; intro k h; have := (hk k h).1; simp [this]
 · simp only [okNu, List.all_eq_true]; intro k h; exact (hk k h).2.1
 · simp only [List.all_eq_true]; intro k h; exact (hk k h).2.2
theorem rfd_no {l : List Fl} {p : List Ky} (h : p ∉ l.map Fl.p) : rfd l p = none := by
 cases hr : rfd l p with
 | none => rfl
 | some x => exact absurd (rfd_iff.1 (by rw [hr]; rfl)) h
theorem dif_one {y x : Fo} (hy : chkY y = 0) (hx : chkY x = 0) {c : Ch} (hc : c ∈ difL y x) : ckOne none c = 0 := by
 obtain ⟨h1, h2, h3⟩ := (dif_mem hy hx).1 hc
 obtain ⟨p, had, has, old, new⟩ := c
 simp only [chR, Ch.mk.injEq, true_and] at h3 h1 h2
 obtain ⟨rfl, rfl, rfl, rfl⟩ := h3
 have key : ∀ p, (∃ z, (z ∈ flsL [] y ∨ z ∈ flsL [] x) ∧ z.p = p) → (1 ≤ p.length ∧ p.length ≤ 4) ∧ okNm p = true ∧ okNu p = true ∧ (p.all fun k => k.h || decide (k.x = 0)) = true := by
  rintro p ⟨z, hz | hz, rfl⟩
  · have := fls_one hy hz; exact ⟨this.1, this.2.1, this.2.2.1, this.2.2.2.1⟩
  · have := fls_one hx hz; exact ⟨this.1, this.2.1, this.2.2.1, this.2.2.2.1⟩
 have kp := key p (by
  rcases h1 with h | h
  · obtain ⟨z, hz, e⟩ := List.mem_map.1 h; exact ⟨z, .inl hz, e⟩
  · obtain ⟨z, hz, e⟩ := List.mem_map.1 h; exact ⟨z, .inr hz, e⟩)
 obtain ⟨k1, k2, k3, k4⟩ := kp
 have side : ∀ {q : Fo}, chkY q = 0 → ((rfd (flsL [] q) p).getD fl0).l.length ≤ 4 ∧ badNs ((rfd (flsL [] q) p).getD fl0).l = false ∧ ((rfd (flsL [] q) p).isSome = true → begK (lstK p) ((rfd (flsL [] q) p).getD fl0).l = true) ∧ ((rfd (flsL [] q) p).isSome = false → ((rfd (flsL [] q) p).getD fl0).l = []) := by
  intro q hq
  cases hr : rfd (flsL [] q) p with
  | none => exact ⟨by simp [fl0], by simp [fl0, badNs], by simp, by simp [fl0]⟩
  | some z =>
    obtain ⟨m1, m2⟩ := rfd_some hr
    have := fls_one hq m1
    rw [m2] at this
    exact ⟨this.2.2.2.2.1, this.2.2.2.2.2.1, fun _ => this.2.2.2.2.2.2, by simp⟩
 obtain ⟨a1, a2, a3, a4⟩ := side hy
 obtain ⟨b1, b2, b3, b4⟩ := side hx
 have hrt : rtC ⟨p, (rfd (flsL [] y) p).isSome, (rfd (flsL [] x) p).isSome, ((rfd (flsL [] y) p).getD fl0).l, ((rfd (flsL [] x) p).getD fl0).l⟩ (lstK p) = true := by
  unfold rtC
  have hor : (rfd (flsL [] y) p).isSome = true ∨ (rfd (flsL [] x) p).isSome = true := by
   rcases h1 with h | h
   · exact .inl (rfd_iff.2 h)
   · exact .inr (rfd_iff.2 h)
  have hne : eqR (flsL [] y) (flsL [] x) p = false := h2
  unfold eqR at hne
  simp only
  rw [if_neg, if_neg, if_neg]
  · cases h7 : rfd (flsL [] y) p with
    | none => simp
    | some u =>
      cases h8 : rfd (flsL [] x) p with
      | none => simp
      | some v => rw [h7, h8] at hne; simpa using hne
  · rw [k4]; simp
  · cases h7 : (rfd (flsL [] y) p).isSome <;> cases h8 : (rfd (flsL [] x) p).isSome <;> simp [h7, h8, a3, b3]
  · cases h7 : (rfd (flsL [] y) p).isSome <;> cases h8 : (rfd (flsL [] x) p).isSome
    · rw [h7, h8] at hor; simp at hor
    · rw [a4 h7]; simp
    · rw [b4 h8]; simp
    · simp
 unfold ckOne
 simp only
 rw [if_neg (by simp [inB]; omega), if_neg (by rw [k2]; simp), if_neg (by simp; omega), if_neg (by rw [k3, a2, b2]; simp), if_neg (by rw [hrt]; simp), if_neg (by simp [behB])]
theorem dif_len {y x : Fo} (hy : chkY y = 0) (hx : chkY x = 0) : (difL y x).length ≤ 120 := by
 rw [(difL_eq hy hx).2, dfF_eq (fls_srt hy) (fls_srt hx), List.length_map]
 have h1 := List.length_filter_le (fun p => !eqR (flsL [] y) (flsL [] x) p) (pthsF [flsL [] y, flsL [] x])
 have h2 := pths_len (ls := [flsL [] y, flsL [] x])
 simp only [List.flatten_cons, List.flatten_nil, List.append_nil, List.length_append] at h2
 have h3 := (fls_ok hy).2.2
 have h4 := (fls_ok hx).2.2
 omega
theorem dif_ck {y x : Fo} (hy : chkY y = 0) (hx : chkY x = 0) : ckC (difL y x) = 0 := by
 unfold ckC
 rw [if_neg (by have := dif_len hy hx; omega)]
 exact ckL_of _ none (fun c hc => dif_one hy hx hc) (dif_srt hy hx) (fun r hr => by cases hr)
theorem eqR_rfd {a b : List Fl} {p : List Ky} (h : rfd a p = rfd b p) : eqR a b p = true := by
 unfold eqR; rw [h]; cases rfd b p <;> simp
theorem rfd_at {x : Fl} : ∀ {L : List Fl}, Srt L → x ∈ L → rfd L x.p = some x
 | [], _, h => by cases h
 | y :: L, hs, h => by
   obtain ⟨h1, h2⟩ := List.pairwise_cons.1 hs
   rw [rfd, List.find?_cons]
   rcases List.mem_cons.1 h with rfl | h
   · simp
   · have hne : ¬ y.p = x.p := (fun e => by have h2 := h1 x h; rw [e, cmpP_ord.refl] at h2; omega)
     simp only [hne, decide_false]
     exact rfd_at h2 h
theorem mk_dif {y x : Fo} (hy : chkY y = 0) (hx : chkY x = 0) : mkE y (difL y x) = 0 ∧ mkY y (difL y x) = x := by
 have hck := dif_ck hy hx
 have hsy := fls_srt hy
 have hsx := fls_srt hx
 have hO : mkO y (difL y x) = flsL [] x := by
  refine srt_ext (mkO_srt hsy (dif_srt hy hx)) hsx fun z => ?_
  rw [mkO, srtFl_mem, List.mem_append, keptF_mem, newsF_mem]
  constructor
  · rintro (⟨h1, h2⟩ | ⟨c, hc, hh, rfl⟩)
    · have he : eqR (flsL [] y) (flsL [] x) z.p = true := by
       cases hq : eqR (flsL [] y) (flsL [] x) z.p with
       | true => rfl
       | false => exact absurd rfl (h2 (chR (flsL [] y) (flsL [] x) z.p) ((dif_mem hy hx).2 ⟨.inl (List.mem_map.2 ⟨z, h1, rfl⟩), hq, rfl⟩))
      have := rfd_same he
      rw [rfd_at hsy h1] at this
      exact (rfd_some this.symm).1
    · obtain ⟨_, _, h3⟩ := (dif_mem hy hx).1 hc
      have e1 := congrArg Ch.has h3
      have e2 := congrArg Ch.new h3
      rw [hh] at e1
      simp only [chR] at e1 e2
      cases hr : rfd (flsL [] x) c.p with
      | none => rw [hr] at e1; cases e1
      | some v =>
        obtain ⟨m1, m2⟩ := rfd_some hr
        rw [hr] at e2
        simp only [Option.getD_some] at e2
        rw [e2, ← m2]
        exact m1
  · intro h
    have hr := rfd_at hsx h
    cases he : eqR (flsL [] y) (flsL [] x) z.p with
    | true =>
      left
      have := rfd_same he
      rw [hr] at this
      refine ⟨(rfd_some this).1, fun c hc e => ?_⟩
      have := ((dif_mem hy hx).1 hc).2.1
      rw [e, he] at this
      cases this
    | false =>
      right
      exact ⟨chR (flsL [] y) (flsL [] x) z.p, (dif_mem hy hx).2 ⟨.inr (List.mem_map.2 ⟨z, h, rfl⟩), he, rfl⟩, by simp [chR, hr], by simp [chR, hr]⟩
 have hfit : (difL y x).all (fitC (flsL [] y)) = true := by
  rw [List.all_eq_true]
  intro c hc
  obtain ⟨_, _, h3⟩ := (dif_mem hy hx).1 hc
  unfold fitC
  rw [fnd_rfd hsy]
  have e1 := congrArg Ch.had h3
  have e2 := congrArg Ch.old h3
  simp only [chR] at e1 e2
  rw [← e1, ← e2]; simp
 have hls : lsF [] [] (flsL [] x) = (flsL [] x, []) := lsF_clo hsx clo_fls (fun z hz => by
  obtain ⟨k, t, e⟩ := flsL_pre x [] z hz
  rw [e]; simp) [] _ rfl
 have hE : mkE y (difL y x) = 0 := by
  unfold mkE
  rw [if_neg (by simpa using hy), if_neg (by simpa using hck), if_neg (by rw [hfit]; simp), hO, hls, if_neg (by simp), if_neg (by have := (fls_ok hx).2.2; omega)]
 exact ⟨hE, by rw [mkY, if_pos hE, hO, treF_flsL]⟩
theorem dif_turn {y x : Fo} (hy : chkY y = 0) (hx : chkY x = 0) : (difL y x).map turnC = difL x y := by
 obtain ⟨h5, h6⟩ := pths_spec (good2 hy hx)
 obtain ⟨g5, g6⟩ := pths_spec (good2 hx hy)
 have hps : pthsF [flsL [] y, flsL [] x] = pthsF [flsL [] x, flsL [] y] := srtP_ext h5 g5 fun p => by
  rw [h6 p, g6 p]
  simp only [List.mem_cons, List.not_mem_nil, or_false]
  constructor
  · rintro ⟨l, h | h, h'⟩
    · exact ⟨l, .inr h, h'⟩
    · exact ⟨l, .inl h, h'⟩
  · rintro ⟨l, h | h, h'⟩
    · exact ⟨l, .inr h, h'⟩
    · exact ⟨l, .inl h, h'⟩
 rw [(difL_eq hy hx).2, (difL_eq hx hy).2, dfF_eq (fls_srt hy) (fls_srt hx), dfF_eq (fls_srt hx) (fls_srt hy), hps, List.map_map]
 have : (fun p => !eqR (flsL [] y) (flsL [] x) p) = fun p => !eqR (flsL [] x) (flsL [] y) p := funext fun p => by rw [eqR_symm]
 rw [this]
 rfl
end Go.Proofs.LF
namespace Go.Proofs.LF
open Go.RowKit Go.Sort
theorem keys_take (p : List Ky) (b : Nat) (h : b ≤ p.length) : (p.flatMap Ky.cells).take (b * 3) = (p.take b).flatMap Ky.cells := by
 have h2 : p.flatMap Ky.cells = (p.take b).flatMap Ky.cells ++ (p.drop b).flatMap Ky.cells := by rw [← List.flatMap_append, List.take_append_drop]
 rw [h2, List.take_left' (by rw [len_keys, List.length_take, Nat.min_eq_left h])]
theorem Pth.pre {S : Nat → Prop} {w : World} {p : List Ky} {a : Option Addr} {c b : Nat} (hp : Pth S w (.slice a p.length c) p) (h : b ≤ p.length) : Pth S w (.slice a b c) (p.take b) := by
 have := SlC.pre (k := 3) (m := b) hp h
 unfold Pth
 rw [List.length_take, Nat.min_eq_left h, ← keys_take p b h]
 exact this
end Go.Proofs.LF
namespace Go.Proofs.LF
open Go.RowKit Go.Sort
theorem turn1_u (x : Ch) (ap ao an : Option Addr) (cp co cn : Nat) (S : Nat → Prop) (w : World) (hp : Pth S w (.slice ap x.p.length cp) x.p) (ho : Ints S w (.slice ao x.old.length co) x.old) (hn : Ints S w (.slice an x.new.length cn) x.new) (hS : ∀ b, S b → b < w.heap.size) (lp : x.p.length ≤ 1000) (lo : x.old.length ≤ 1000) (ln : x.new.length ≤ 1000) :
 Calls Tryz.prog 166 #[.agg #[.slice ap x.p.length cp, .bool x.had, .bool x.has, .slice ao x.old.length co, .slice an x.new.length cn]] w fun e w' =>
  ∃ ap cp ao co an cn, e = .returned (.agg #[.slice ap x.p.length cp, .bool x.has, .bool x.had, .slice an x.new.length cn, .slice ao x.old.length co]) ∧ PthU (Rg w.heap.size w'.heap.size) w' (.slice ap x.p.length cp) x.p ∧ IntU (Rg w.heap.size w'.heap.size) w' (.slice an x.new.length cn) x.new ∧ IntU (Rg w.heap.size w'.heap.size) w' (.slice ao x.old.length co) x.old ∧ Below w.heap.size w w' :=
 turned_u x ap ao an cp co cn S w hp ho hn hS lp lo ln
theorem turn2_u (x : Ch) (ap ao an : Option Addr) (cp co cn : Nat) (S : Nat → Prop) (w : World) (hp : Pth S w (.slice ap x.p.length cp) x.p) (ho : Ints S w (.slice ao x.old.length co) x.old) (hn : Ints S w (.slice an x.new.length cn) x.new) (hS : ∀ b, S b → b < w.heap.size) (lp : x.p.length ≤ 1000) (lo : x.old.length ≤ 1000) (ln : x.new.length ≤ 1000) :
 Calls Tryz.prog 166 #[.agg #[.slice ap x.p.length cp, .bool x.has, .bool x.had, .slice an x.new.length cn, .slice ao x.old.length co]] w fun e w' =>
  ∃ v, e = .returned v ∧ ChV (Rg w.heap.size w'.heap.size) w' x v ∧ Below w.heap.size w w' := by
 refine (turned_u (turnC x) ap an ao cp cn co S w hp hn ho hS lp ln lo).mono ?_
 rintro e w' ⟨ap1, cp1, ao1, co1, an1, cn1, he, h1, h2, h3, hb⟩
 exact ⟨_, he, ⟨ap1, cp1, an1, cn1, ao1, co1, rfl, h1, h2, h3⟩, hb⟩
theorem turn2_x (x : Ch) (ap ao an : Option Addr) (cp co cn : Nat) (S : Nat → Prop) (w : World) (hp : Pth S w (.slice ap x.p.length cp) x.p) (ho : Ints S w (.slice ao x.old.length co) x.old) (hn : Ints S w (.slice an x.new.length cn) x.new) (hS : ∀ b, S b → b < w.heap.size) (lp : x.p.length ≤ 1000) (lo : x.old.length ≤ 1000) (ln : x.new.length ≤ 1000) :
 Calls Tryz.prog 166 #[.agg #[.slice ap x.p.length cp, .bool x.has, .bool x.had, .slice an x.new.length cn, .slice ao x.old.length co]] w fun e w' =>
  ∃ ap cp ao co an cn, e = .returned (.agg #[.slice ap x.p.length cp, .bool x.had, .bool x.has, .slice ao x.old.length co, .slice an x.new.length cn]) ∧ PthU (Rg w.heap.size w'.heap.size) w' (.slice ap x.p.length cp) x.p ∧ IntU (Rg w.heap.size w'.heap.size) w' (.slice ao x.old.length co) x.old ∧ IntU (Rg w.heap.size w'.heap.size) w' (.slice an x.new.length cn) x.new ∧ Below w.heap.size w w' := by
 refine (turned_u (turnC x) ap an ao cp cn co S w hp hn ho hS lp ln lo).mono ?_
 rintro e w' ⟨ap1, cp1, ao1, co1, an1, cn1, he, h1, h2, h3, hb⟩
 exact ⟨ap1, cp1, an1, cn1, ao1, co1, he, h1, h2, h3, hb⟩
theorem owns_set {w : World} {B e k n g c i : Nat} {cs : List Value} {u : Value} (h : w.ownsRow B e k (.slice (some ⟨g, 0, none⟩) n c) n cs) (hi : i < n * k) : (w.setCell ⟨g, i, none⟩ u).ownsRow B e k (.slice (some ⟨g, 0, none⟩) n c) n (cs.set i u) ∧ w.grownBy (w.setCell ⟨g, i, none⟩ u) (some g) := by
 obtain ⟨h1, ⟨he, _⟩ | ⟨g', cap, cur, he, hbg, hgg, hn, hcap, hsz, htk⟩⟩ := h
 · cases he
 · cases he
   refine ⟨⟨by simpa using h1, .inr ⟨g, c, cur.setIfInBounds i u, rfl, hbg, ?_, hn, hcap, by simpa using hsz, ?_⟩⟩, ⟨rfl, rfl, rfl, by simp [World.setCell], fun b hb hne => Below.heap_setCell _ _ _ _ (fun e => hne (by rw [e]))⟩⟩
   · simp [World.setCell, Array.getElem?_modify, hgg]
   · rw [Array.toList_setIfInBounds, List.take_set, htk]
theorem owns_cell {w : World} {B e k n g c i : Nat} {cs : List Value} {u : Value} (h : w.ownsRow B e k (.slice (some ⟨g, 0, none⟩) n c) n cs) (hi : i < n * k) (hu : cs[i]? = some u) : w.cell? ⟨g, i, none⟩ = some u ∧ w.frozen? ⟨g, i, none⟩ = false := by
 obtain ⟨h1, ⟨he, _⟩ | ⟨g', cap, cur, he, hbg, hgg, hn, hcap, hsz, htk⟩⟩ := h
 · cases he
 · cases he
   refine ⟨cg_ hgg ?_, cells_frz hgg⟩
   rw [← htk, List.getElem?_take, if_pos hi] at hu
   simpa using hu
end Go.Proofs.LF
