/- Parts of the proof of a law of layer 11 (file): LfW104. The conditions stand in each theorem. -/
import Derived.Test.YtadkpjgpefcphaaGreatDoorProg
import Derived.Test.YtadkpjgpefcphaaGreatDoorAfal
import Derived.Test.YtadkpjgpefcphaaGreatDoorAfap
import Derived.Test.YtadkpjgpefcphaaGreatDoorAfbd
set_option linter.all false
set_option linter.unusedVariables false
set_option linter.unusedSimpArgs false
namespace Go.Proofs.LF
open Go.RowKit Go.Sort
set_option maxHeartbeats 4000000
set_option maxRecDepth 100000
attribute [local go_sem] bs_toList bs_size bs_get
theorem lcsU {M : Nat → Prop} {w w' : World} {xs : List Ch} {cs : List Value} (h : LCs rdCh (US M w) w xs cs) (ha : Agree M w w') : LCs rdCh (US M w') w' xs cs := (h.agree (US.agree ha).1).wide (US.agree ha).2
theorem lcsUw {M M' : Nat → Prop} {w : World} {xs : List Ch} {cs : List Value} (h : LCs rdCh (US M w) w xs cs) (hs : ∀ b, M b → M' b) : LCs rdCh (US M' w) w xs cs := h.wide (US.wide hs)
theorem remC_nil (m : List Ch) : remC [] m = m := List.filter_eq_self.2 fun c _ => by simp
theorem remC_snoc (l m : List Ch) (x : Ch) (c : Ch) : c ∈ remC (l ++ [x]) m ↔ c ∈ remC l m ∧ c.p ≠ x.p := by
 simp only [remC_mem, List.mem_append, List.mem_singleton]
 constructor
 · rintro ⟨h1, h2⟩; exact ⟨⟨h1, fun a ha => h2 a (.inl ha)⟩, fun e => h2 x (.inr rfl) e.symm⟩
 · rintro ⟨⟨h1, h2⟩, h3⟩
   refine ⟨h1, fun a ha => ?_⟩
   rcases ha with ha | rfl
   · exact h2 a ha
   · exact fun e => h3 e.symm
theorem ownBlock_len (a : Option Addr) (n n' c c' : Nat) : (Value.slice a n c).ownBlock = (Value.slice a n' c').ownBlock := by cases a <;> rfl
def sptC (c : Ch) : List UInt8 := sptL c.p
def AftR (l m : List Ch) (w : World) (e : Ending) (w' : World) : Prop :=
 ∃ a c, e = .returned (.tuple #[.slice a (aftL l m).length c, .int .i64 (aftE l m)]) ∧ ChSl (US (Rg w.heap.size w'.heap.size) w') w' (.slice a (aftL l m).length c) (aftL l m) ∧ Below w.heap.size w w'
theorem AftR.bad {l m : List Ch} {w w' : World} {E : Int} (h : aftE l m = E) (h0 : E ≠ 0) (hb : Below w.heap.size w w') : AftR l m w (.returned (.tuple #[.slice none 0 0, .int .i64 E])) w' := by
 subst h
 have h1 : aftL l m = [] := by rw [aftL, if_neg h0]
 unfold AftR
 rw [h1]
 exact ⟨none, 0, rfl, ⟨[], ⟨rfl, none, 0, rfl, nl_ _, by simp [maxLen], fun _ => rfl, .inl rfl⟩, rfl⟩, hb⟩
theorem run_zero68 (w : World) : (zeroValue 68).run Tryz.prog w = .ok (.agg #[.slice none 0 0, .bool false, .bool false, .slice none 0 0, .slice none 0 0]) w := by kernel_rfl
theorem After_any (l m : List Ch) (al am : Option Addr) (cl cm : Nat) (S T : Nat → Prop) (w : World) (hl : ChSl S w (.slice al l.length cl) l) (hS : ∀ b, S b → b < w.heap.size) (hm : ChSl T w (.slice am m.length cm) m) (hT : ∀ b, T b → b < w.heap.size) (ll : l.length ≤ 1000) (lm : m.length ≤ 1000) (sl : SmCh l) (sm : SmCh m) (ht : Pow w) :
 Calls Tryz.prog 76 #[.slice al l.length cl, .slice am m.length cm] w (AftR l m w) := by
 obtain ⟨i0, hi0, hz0, hz1, hz2⟩ := info_parts Tryz.info68'
 have HL := hid hl
 have HM := hid hm
 have HS := hid hS
 have HT := hid hT
 have SL := hid sl
 have SM := hid sm
 have HP := hid ht
 have hb1 : Below w.heap.size w (w.alloc (.cells #[.slice al l.length cl, .slice am m.length cm] 62)) := (Below.refl _ _).alloc (nl_ _) _
 have HB1 := hid hb1
 clear hl hm hS hT sl sm hb1 ht
 go_enter Tryz.func76, Tryz.ntmps76
 go_upto_block 0 with fail
 go_cut [] from 6 (fun wx => ckC l = 0 ∧ ckC m = 0 ∧ Below w.heap.size w wx)
 case first =>
  as_aux_lemma =>
  go_wp2_with fail
  go_loopw [25] (fun i wr => ∃ k : Nat, k ≤ 2 ∧ i = .int .i64 k ∧ (0 < k → ckC l = 0) ∧ (1 < k → ckC m = 0) ∧ Below (w.heap.size + 1) (w.alloc (.cells #[.slice al l.length cl, .slice am m.length cm] 62)) wr) (fun i _ => 2 - (intOf i).toNat)
  case atStart => exact ⟨0, by omega, rfl, by omega, by omega, Below.refl _ _⟩
  case round =>
   obtain ⟨k, hk, rfl, h1, h2, hB⟩ := hrel
   have hwr := (hB.block w.heap.size (by omega)).trans (heap_alloc_new _ _)
   have q0 := cg_ hwr (k := 0) rfl
   have q1 := cg_ hwr (k := 1) rfl
   have hBw : Below w.heap.size w wr := HB1.out.trans (hB.mono (by omega))
   have hsz := hBw.size
   have CX := hid (CheckChanges_any l al cl S wr (HL.out.agree (Ag_b hBw HS.out)) (fun b hb => by have := HS.out b hb; omega) ll SL.out)
   have CY := hid (CheckChanges_any m am cm T wr (HM.out.agree (Ag_b hBw HT.out)) (fun b hb => by have := HT.out b hb; omega) lm SM.out)
   have HBW := hid hBw
   have hzb := hB.size
   simp only [World.size_alloc] at hzb
   clear hwr hBw
   obtain rfl | rfl | rfl : k = 0 ∨ k = 1 ∨ k = 2 := by omega
   · go_wp2_with fail
     refine CX.out.mono ?_
     rintro e w2 ⟨rfl, hb2⟩
     by_cases he : ckC l = 0
     · have he' : (ckC l != 0) = false := by simpa using he
       have HE := hid he
       clear he
       go_wp2_with fail
       go_roundw
       case rel => exact ⟨1, by omega, rfl, fun _ => HE.out, fun h => by omega, hB.trans (hb2.mono (by omega))⟩
       case measure => simp [intOf]
     · have he' : (ckC l != 0) = true := by simpa using he
       have HE := hid he
       clear he
       go_wp2_with fail
       refine bodyPost_ret (v := .tuple #[.slice none 0 0, .int .i64 (ckC l)]) (by simp [results, Tryz.results76, go_sem]) rfl ?_
       exact AftR.bad (by rw [aftE, if_pos HE.out]) HE.out (HBW.out.trans (hb2.mono hsz))
   · have H1X := hid (h1 (by omega))
     clear h1
     go_wp2_with fail
     refine CY.out.mono ?_
     rintro e w2 ⟨rfl, hb2⟩
     by_cases he : ckC m = 0
     · have he' : (ckC m != 0) = false := by simpa using he
       have HE := hid he
       clear he
       go_wp2_with fail
       go_roundw
       case rel => exact ⟨2, by omega, rfl, fun _ => H1X.out, fun _ => HE.out, hB.trans (hb2.mono (by omega))⟩
       case measure => simp [intOf]
     · have he' : (ckC m != 0) = true := by simpa using he
       have HE := hid he
       clear he
       go_wp2_with fail
       refine bodyPost_ret (v := .tuple #[.slice none 0 0, .int .i64 (ckC m)]) (by simp [results, Tryz.results76, go_sem]) rfl ?_
       exact AftR.bad (by rw [aftE, if_neg (by simpa using H1X.out), if_pos HE.out]) HE.out (HBW.out.trans (hb2.mono hsz))
   · have H1X := hid (h1 (by omega))
     have H2X := hid (h2 (by omega))
     clear h1 h2
     go_wp2_with fail
     go_meet
     case rel => exact ⟨H1X.out, H2X.out, HBW.out⟩
 case rest =>
  obtain ⟨h1, h2, hB⟩ := hcut
  have hsz := hB.size
  have HPc := hid (HP.out.below hB)
  have c1 := ckC_zero h1
  have c2 := ckC_zero h2
  have hE : aftE l m = if l.any (claC m) then 7 else if 120 < (aftO l m).length then 2 else 0 := by rw [aftE, if_neg (by simpa using h1), if_neg (by simpa using h2)]
  have HE := hid hE
  have HBc := hid hB
  have ll120 := c1.1
  have lm120 := c2.1
  have CKL := hid c1.2
  have CKM := hid c2.2
  have hLc := HL.out.agree (Ag_b hB HS.out)
  have hMc := HM.out.agree (Ag_b hB HT.out)
  obtain ⟨al', cl', ee, _, hclm, hatL⟩ := LSl.at hLc
  obtain ⟨rfl, rfl⟩ : al = al' ∧ cl = cl' := by cases ee; exact ⟨rfl, rfl⟩
  obtain ⟨am', cm', ee2, _, hcmm, hatM⟩ := LSl.at hMc
  obtain ⟨rfl, rfl⟩ : am = am' ∧ cm = cm' := by cases ee2; exact ⟨rfl, rfl⟩
  have HATL := hid hatL
  have HATM := hid hatM
  have HSc := hid (show ∀ b, S b → b < wc.heap.size from fun b hb => by have := HS.out b hb; omega)
  have HTc := hid (show ∀ b, T b → b < wc.heap.size from fun b hb => by have := HT.out b hb; omega)
  unfold maxLen at hclm hcmm
  obtain ⟨w0, hw0⟩ : ∃ w0, w0 = wc := ⟨_, rfl⟩
  subst hw0
  have hmm := @run_makeMap Tryz.prog
  have HCM := hid (CMap.made (P := Tryz.prog) (k := 9) (q := sptC) (S := fun _ => False) w0)
  have HBM := hid ((Below.refl w0.heap.size w0).alloc (nl_ _) (.map #[] 0))
  clear h1 h2 hB c1 c2 hE hLc hMc hatL hatM ee ee2 HL HM HB1 HP HS HT
  go_wp2_with fail
  clear hmm
  go_loopw [38] (fun i wr => ∃ (k : Nat) (M : Nat → Prop), k ≤ m.length ∧ i = .int .i64 k ∧ Hid (CMap Tryz.prog 9 sptC M w0.heap.size k (m.take k) wr) ∧ Hid (∀ b, M b → w0.heap.size < b ∧ b < wr.heap.size) ∧ Hid (Below w0.heap.size w0 wr)) (fun i _ => m.length - (intOf i).toNat)
  case atStart => exact ⟨0, fun _ => False, by omega, rfl, HCM.out, fun b hb => hb.elim, HBM.out⟩
  case round =>
   obtain ⟨k, M, hk, rfl, hcm, hM, HB⟩ := hrel
   have hzr := HB.out.size
   have hml := hcm.out.lt
   by_cases hlt : k < m.length
   · as_aux_lemma =>
     have hlt' : (k : Int) < (m.length : Int) := by omega
     obtain ⟨g, o, cs1, rfl, hg, ⟨ap, cp, ao, co, an, cn, rfl, hP, hO, hN⟩, hcl⟩ := HATM.out k hlt
     have hag := Ag_b (S := T) HB.out HTc.out
     have c0 := hag.cell hg (hcl 0 _ rfl)
     have c1 := hag.cell hg (hcl 1 _ rfl)
     have c2 := hag.cell hg (hcl 2 _ rfl)
     have c3 := hag.cell hg (hcl 3 _ rfl)
     have c4 := hag.cell hg (hcl 4 _ rfl)
     rw [Nat.add_zero] at c0
     simp only [← Nat.add_assoc] at c1 c2 c3 c4
     have htk : m.take (k + 1) = m.take k ++ [m[k]] := List.take_succ_eq_append_getElem hlt
     have hsm := SM.out m[k] (List.getElem_mem hlt)
     have hne : ∀ d ∈ m.take k, sptC d ≠ sptC m[k] := fun d hd e => by
      obtain ⟨j, hj, rfl⟩ := List.getElem_of_mem hd
      rw [List.length_take] at hj
      have hjm : j < m.length := by omega
      rw [List.getElem_take] at e
      have h3 := spt_inj CKM.out.1 CKM.out.1 (List.getElem_mem hjm) (List.getElem_mem hlt) e
      have h4 := List.pairwise_iff_getElem.1 CKM.out.2 j k hjm hlt (by omega)
      rw [h3, cmpP_ord.refl] at h4
      omega
     have hgd := ck_good (CKM.out.1 m[k] (List.getElem_mem hlt))
     obtain ⟨x, hx⟩ : ∃ x, m[k] = x := ⟨_, rfl⟩
     rw [hx] at hP hO hN c0 c1 c2 c3 c4 htk hsm hne hgd
     obtain ⟨W4, hW4⟩ : ∃ W4, wr.alloc (.cells #[.slice ap x.p.length cp, .bool x.had, .bool x.has, .slice ao x.old.length co, .slice an x.new.length cn] 68) = W4 := ⟨_, rfl⟩
     have hz4 : W4.heap.size = wr.heap.size + 1 := by rw [← hW4]; simp
     have hb4 : Below wr.heap.size wr W4 := by rw [← hW4]; exact (Below.refl _ _).alloc (nl_ _) _
     have hnb : W4.heap[wr.heap.size]? = some (.cells #[.slice ap x.p.length cp, .bool x.had, .bool x.has, .slice ao x.old.length co, .slice an x.new.length cn] 68 (0, 0)) := by rw [← hW4]; exact heap_alloc_new _ _
     have hag4 := Ag_b (S := T) (HB.out.trans (hb4.mono hzr)).drew HTc.out
     have SP := hid (spelt_any x.p ap cp T W4.drew (hP.agree hag4) (fun b hb => by have := HTc.out b hb; show b < W4.heap.size; omega) hsm.1 hgd.2 (HPc.out.below ((HB.out.trans (hb4.mono hzr)).drew)))
     have hS0 : W4.drew.cell? ⟨wr.heap.size, 0, none⟩ = some (.slice ap x.p.length cp) ∧ W4.drew.cell? ⟨wr.heap.size, 1, none⟩ = some (.bool x.had) ∧ W4.drew.cell? ⟨wr.heap.size, 2, none⟩ = some (.bool x.has) ∧ W4.drew.cell? ⟨wr.heap.size, 3, none⟩ = some (.slice ao x.old.length co) ∧ W4.drew.cell? ⟨wr.heap.size, 4, none⟩ = some (.slice an x.new.length cn) := ⟨cg_ hnb (k := 0) rfl, cg_ hnb (k := 1) rfl, cg_ hnb (k := 2) rfl, cg_ hnb (k := 3) rfl, cg_ hnb (k := 4) rfl⟩
     have hspl := sptL_len hgd.2
     have hspm : (sptL x.p).length ≤ 1006000 := by have := hsm.1; omega
     have hcm4 := hcm.out.kept (w' := W4.drew) (hb4.block _ hml) (Ag_b hb4.drew fun b hb => (hM.out b hb).2)
     have HP4 := hid (hP.agree hag4)
     have HO4 := hid (hO.agree hag4)
     have HN4 := hid (hN.agree hag4)
     have HSM := hid hsm
     have HNE := hid hne
     have HTK := hid htk
     have HS0 := hid hS0
     have HCM4 := hid hcm4
     have HW4 := hid hW4
     have HB4 := hid hb4
     have HZ4 := hid hz4
     have hw4 : wr.heap.size < W4.heap.size := by omega
     clear hcl hP hO hN hx hag hag4 htk hsm hne hgd hS0 hcm4 hW4 hb4 hnb hspl hz4
     go_upto_region 13 with (rw [HW4.out])
     try rw [HW4.out]
     clear c0 c1 c2 c3 c4
     refine (wpIn_wide (n := 9)).1 ?_
     refine region_held (fun w' : World => w'.cell? ⟨wr.heap.size, 0, none⟩ = some (.slice ap x.p.length cp) ∧ w'.cell? ⟨wr.heap.size, 1, none⟩ = some (.bool x.had) ∧ w'.cell? ⟨wr.heap.size, 2, none⟩ = some (.bool x.has) ∧ w'.cell? ⟨wr.heap.size, 3, none⟩ = some (.slice ao x.old.length co) ∧ w'.cell? ⟨wr.heap.size, 4, none⟩ = some (.slice an x.new.length cn)) (by kernel_rfl) ?_
     have hS0 := HS0.out
     refine tkY 0 42 (.map (some w0.heap.size)) rfl rfl hS0 (fun w' hs => ?_) ?_
     · go_simp
     refine tkY 1 43 (.pointer (some ⟨wr.heap.size, 0, none⟩)) rfl rfl hS0 (fun w' hs => ?_) ?_
     · go_simp
     refine tkY 2 44 (.slice ap x.p.length cp) rfl rfl hS0 (fun w' hs => ?_) ?_
     · obtain ⟨y0, y1, y2, y3, y4⟩ := hs
       go_simp
     refine tkY 4 46 (.agg #[.slice ap x.p.length cp, .bool x.had, .bool x.has, .slice ao x.old.length co, .slice an x.new.length cn]) rfl rfl hS0 (fun w' hs => ?_) ?_
     · obtain ⟨y0, y1, y2, y3, y4⟩ := hs
       go_simp
     refine AnyH_one (i := 3) (by kernel_rfl) rfl (by kernel_rfl) (fun K hK => ?_)
     go_simp
     refine ⟨trivial, (callsIn_wide.2 SP.out).mono ?_⟩
     rintro e w5 ⟨rfl, hb5⟩
     have hz5 : W4.heap.size ≤ w5.heap.size := hb5.size
     have hS1 : w5.cell? ⟨wr.heap.size, 0, none⟩ = some (.slice ap x.p.length cp) ∧ w5.cell? ⟨wr.heap.size, 1, none⟩ = some (.bool x.had) ∧ w5.cell? ⟨wr.heap.size, 2, none⟩ = some (.bool x.has) ∧ w5.cell? ⟨wr.heap.size, 3, none⟩ = some (.slice ao x.old.length co) ∧ w5.cell? ⟨wr.heap.size, 4, none⟩ = some (.slice an x.new.length cn) := ⟨bc_ hb5 hw4 hS0.1, bc_ hb5 hw4 hS0.2.1, bc_ hb5 hw4 hS0.2.2.1, bc_ hb5 hw4 hS0.2.2.2.1, bc_ hb5 hw4 hS0.2.2.2.2⟩
     have TU := hid (turn1_u x ap ao an cp co cn T w5 (HP4.out.agree (Ag_b hb5 fun b hb => by have := HTc.out b hb; show b < W4.heap.size; omega)) (HO4.out.agree (Ag_b hb5 fun b hb => by have := HTc.out b hb; show b < W4.heap.size; omega)) (HN4.out.agree (Ag_b hb5 fun b hb => by have := HTc.out b hb; show b < W4.heap.size; omega)) (fun b hb => by have := HTc.out b hb; omega) HSM.out.1 HSM.out.2.2.1 HSM.out.2.2.2)
     have HB5 := hid hb5
     refine hK _ _ ⟨hS1, ?_⟩
     clear hK hb5 hS0 HP4 HO4 HN4
     refine AnyH_one (i := 5) (by kernel_rfl) rfl (by kernel_rfl) (fun K hK => ?_)
     go_simp
     refine ⟨trivial, (callsIn_wide.2 TU.out).mono ?_⟩
     rintro e w6 ⟨ap1, cp1, ao1, co1, an1, cn1, rfl, hp6, hn6, ho6, hb6⟩
     have hz6 := hb6.size
     have hS2 : w6.cell? ⟨wr.heap.size, 0, none⟩ = some (.slice ap x.p.length cp) ∧ w6.cell? ⟨wr.heap.size, 1, none⟩ = some (.bool x.had) ∧ w6.cell? ⟨wr.heap.size, 2, none⟩ = some (.bool x.has) ∧ w6.cell? ⟨wr.heap.size, 3, none⟩ = some (.slice ao x.old.length co) ∧ w6.cell? ⟨wr.heap.size, 4, none⟩ = some (.slice an x.new.length cn) := ⟨bc_ hb6 (by omega) hS1.1, bc_ hb6 (by omega) hS1.2.1, bc_ hb6 (by omega) hS1.2.2.1, bc_ hb6 (by omega) hS1.2.2.2.1, bc_ hb6 (by omega) hS1.2.2.2.2⟩
     have TV := hid (turn2_u x ap1 ao1 an1 cp1 co1 cn1 (fun b => b < w6.heap.size) w6 (Pth.wide hp6 fun b hb => hb.1.2) (Ints.wide ho6 fun b hb => hb.1.2) (Ints.wide hn6 fun b hb => hb.1.2) (fun b hb => hb) HSM.out.1 HSM.out.2.2.1 HSM.out.2.2.2)
     have HB6 := hid hb6
     refine hK _ _ ⟨hS2, ?_⟩
     clear hK hb6 hS1 hp6 hn6 ho6 TU
     refine AnyH_one (i := 6) (by kernel_rfl) rfl (by kernel_rfl) (fun K hK => ?_)
     go_simp
     refine ⟨trivial, (callsIn_wide.2 TV.out).mono ?_⟩
     rintro e w7 ⟨v, rfl, hv7, hb7⟩
     have hz7 := hb7.size
     have hS3 : w7.cell? ⟨wr.heap.size, 0, none⟩ = some (.slice ap x.p.length cp) ∧ w7.cell? ⟨wr.heap.size, 1, none⟩ = some (.bool x.had) ∧ w7.cell? ⟨wr.heap.size, 2, none⟩ = some (.bool x.has) ∧ w7.cell? ⟨wr.heap.size, 3, none⟩ = some (.slice ao x.old.length co) ∧ w7.cell? ⟨wr.heap.size, 4, none⟩ = some (.slice an x.new.length cn) := ⟨bc_ hb7 (by omega) hS2.1, bc_ hb7 (by omega) hS2.2.1, bc_ hb7 (by omega) hS2.2.2.1, bc_ hb7 (by omega) hS2.2.2.2.1, bc_ hb7 (by omega) hS2.2.2.2.2⟩
     have hB47 : Below W4.heap.size W4.drew w7 := HB5.out.trans ((HB6.out.trans (hb7.mono hz6)).mono hz5)
     obtain ⟨M', hM'⟩ : ∃ M' : Nat → Prop, M' = fun b => M b ∨ Rg w6.heap.size w7.heap.size b := ⟨_, rfl⟩
     have hMw : ∀ b, M b → M' b := fun b hb => by rw [hM']; exact .inl hb
     have hMr : ∀ b, Rg w6.heap.size w7.heap.size b → M' b := fun b hb => by rw [hM']; exact .inr hb
     have hMl : ∀ b, M' b → w0.heap.size < b ∧ b < w7.heap.size := fun b hb => by
      rw [hM'] at hb
      rcases hb with h | h
      · have := hM.out b h; omega
      · have := h.1; have := h.2; omega
     have hcm7 := (HCM4.out.kept (w' := w7) (hB47.block _ (by omega)) (Ag_b hB47 fun b hb => by have := (hM.out b hb).2; omega)).wide hMw
     obtain ⟨w8, hr8, hcm8, hg8⟩ := hcm7.put Tryz.underlying234 Tryz.underlying9 x v (hv7.wide hMr) (by show (sptL x.p).length ≤ maxLen; unfold maxLen; omega) (by unfold maxLen; omega) HNE.out (fun b hb => ⟨(hMl b hb).2, by have := (hMl b hb).1; omega⟩)
     have hr8' : Sem.run Tryz.prog (Instr.mapUpdate 234 (.map (some w0.heap.size)) (.string (bs (sptL x.p))) v) w7 = .ok () w8 := hr8
     have HB7 := hid hb7
     have HB47 := hid hB47
     have HML := hid hMl
     have HCM8 := hid hcm8
     have HG8 := hid hg8
     refine hK _ _ ⟨hS3, ?_⟩
     clear hK hb7 hS2 hv7 TV hB47 hM' hMw hMr hMl hcm7 hcm8 hg8 hr8
     refine AnyH_one (i := 7) (by kernel_rfl) rfl (by kernel_rfl) (fun K hK => ?_)
     go_simp
     have hz8 := HG8.out.size
     have hS4 : w8.cell? ⟨wr.heap.size, 0, none⟩ = some (.slice ap x.p.length cp) ∧ w8.cell? ⟨wr.heap.size, 1, none⟩ = some (.bool x.had) ∧ w8.cell? ⟨wr.heap.size, 2, none⟩ = some (.bool x.has) ∧ w8.cell? ⟨wr.heap.size, 3, none⟩ = some (.slice ao x.old.length co) ∧ w8.cell? ⟨wr.heap.size, 4, none⟩ = some (.slice an x.new.length cn) := by
      have e : w8.heap[wr.heap.size]? = w7.heap[wr.heap.size]? := HG8.out.block _ (by omega) (fun e => by have := Option.some.inj e; omega)
      exact ⟨(World.cell?_of_block e).trans hS3.1, (World.cell?_of_block e).trans hS3.2.1, (World.cell?_of_block e).trans hS3.2.2.1, (World.cell?_of_block e).trans hS3.2.2.2.1, (World.cell?_of_block e).trans hS3.2.2.2.2⟩
     refine hK _ _ ⟨hS4, ?_⟩
     clear hK hS3 hS4 hr8'
     refine AnyH_done (by kernel_rfl) ?_
     go_simp
     go_wp2_with fail
     go_roundw
     case rel => exact ⟨k + 1, M', by omega, by go_num, by rw [HTK.out]; exact HCM8.out, (fun b hb => by have := HML.out b hb; omega), ((HB.out.trans (HB4.out.mono hzr)).drew.trans (HB47.out.mono (by show _ ≤ W4.heap.size; omega))).grown HG8.out (by omega) (fun b hb => by have := Option.some.inj hb; omega)⟩
     case measure => simp [intOf]; omega
   · obtain rfl : k = m.length := by omega
     have hlt' : ¬ (m.length : Int) < (m.length : Int) := by omega
     rw [List.take_length] at hcm
     clear hlt hk
     obtain ⟨w1, hw1⟩ : ∃ w1, w1 = wr := ⟨_, rfl⟩
     subst hw1
     have HCM1 := hid hcm.out
     have HM1 := hid hM.out
     have HB1 := hid HB.out
     have hz1r := HB.out.size
     clear hcm hM HB HCM HBM
     obtain ⟨B0, hB0⟩ : ∃ B0, B0 = w1.heap.size := ⟨_, rfl⟩
     have hmb : w0.heap.size < B0 := by omega
     go_wp2_with fail
     go_loopw [9, 52] (fun v i wr => ∃ (k : Nat) (M : Nat → Prop) (cs : List Value), k ≤ l.length ∧ i = .int .i64 k ∧ wr.ownsRow B0 68 5 v k cs ∧ Hid (LCs rdCh (US M wr) wr ((l.take k).map (mrgC m)) cs) ∧ Hid (CMap Tryz.prog 9 sptC M w0.heap.size m.length (remC (l.take k) m) wr) ∧ Hid (∀ b, M b → w0.heap.size < b ∧ b < wr.heap.size ∧ v.ownBlock ≠ some b) ∧ Hid ((l.take k).any (claC m) = false) ∧ B0 ≤ wr.heap.size ∧ Hid (Below w0.heap.size w0 wr)) (fun _ i _ => l.length - (intOf i).toNat)
     case atStart => exact ⟨0, M, [], by omega, rfl, World.ownsRow_nil _ _ _ _, rfl, by rw [Hid, List.take_zero, remC_nil]; exact HCM1.out, (fun b hb => ⟨(HM1.out b hb).1, (HM1.out b hb).2, by simp [Value.ownBlock]⟩), by simp [Hid], by omega, HB1.out⟩
     case round =>
      obtain ⟨k, M, cs, hk, rfl, hown, hlc, hcm, hM, hcla, hBw, HB⟩ := hrel
      have hzr := HB.out.size
      have hml := hcm.out.lt
      by_cases hlt : k < l.length
      · skip
        have hlt' : (k : Int) < (l.length : Int) := by omega
        obtain ⟨g, o, cs1, rfl, hg, ⟨ap, cp, ao, co, an, cn, rfl, hP, hO, hN⟩, hcl⟩ := HATL.out k hlt
        have hag := Ag_b (S := S) HB.out HSc.out
        have c0 := hag.cell hg (hcl 0 _ rfl)
        have c1 := hag.cell hg (hcl 1 _ rfl)
        have c2 := hag.cell hg (hcl 2 _ rfl)
        have c3 := hag.cell hg (hcl 3 _ rfl)
        have c4 := hag.cell hg (hcl 4 _ rfl)
        rw [Nat.add_zero] at c0
        simp only [← Nat.add_assoc] at c1 c2 c3 c4
        have htk : l.take (k + 1) = l.take k ++ [l[k]] := List.take_succ_eq_append_getElem hlt
        have hsm := SL.out l[k] (List.getElem_mem hlt)
        have hgd := ck_good (CKL.out.1 l[k] (List.getElem_mem hlt))
        have hear : ∀ c ∈ m, c.p = l[k].p → c ∈ remC (l.take k) m := fun c hc e => remC_mem.2 ⟨hc, fun a ha e2 => by
         obtain ⟨j, hj, rfl⟩ := List.getElem_of_mem ha
         rw [List.length_take] at hj
         have hjl : j < l.length := by omega
         rw [List.getElem_take] at e2
         have h4 := List.pairwise_iff_getElem.1 CKL.out.2 j k hjl hlt (by omega)
         rw [e2, e, cmpP_ord.refl] at h4
         omega⟩
        have hin : l[k] ∈ l := List.getElem_mem hlt
        have hsq : ∀ c ∈ m, c.p ≠ l[k].p → sptC c ≠ sptL l[k].p := fun c hc e e2 => e (spt_inj CKM.out.1 CKL.out.1 hc (List.getElem_mem hlt) e2)
        obtain ⟨x, hx⟩ : ∃ x, l[k] = x := ⟨_, rfl⟩
        rw [hx] at hP hO hN c0 c1 c2 c3 c4 htk hsm hgd hear hsq hin
        obtain ⟨K, hK⟩ : ∃ K, (l.take k).map (mrgC m) = K := ⟨_, rfl⟩
        obtain ⟨R, hR⟩ : ∃ R, remC (l.take k) m = R := ⟨_, rfl⟩
        have HKL := hid (show K.length = k by rw [← hK, List.length_map, List.length_take]; omega)
        have htm : (l.take (k + 1)).map (mrgC m) = K ++ [mrgC m x] := by rw [htk, List.map_append, hK]; rfl
        have hta : (l.take (k + 1)).any (claC m) = claC m x := by rw [htk, List.any_append, hcla.out]; simp
        have hrs : ∀ c, c ∈ remC (l.take (k + 1)) m ↔ c ∈ R ∧ c.p ≠ x.p := fun c => by rw [htk, ← hR]; exact remC_snoc _ _ _ _
        have hRm : ∀ c ∈ R, c ∈ m := fun c hc => by rw [← hR] at hc; exact (remC_mem.1 hc).1
        rw [hK] at hlc
        rw [hR] at hcm hear
        obtain ⟨W4, hW4⟩ : ∃ W4, wr.alloc (.cells #[.slice ap x.p.length cp, .bool x.had, .bool x.has, .slice ao x.old.length co, .slice an x.new.length cn] 68) = W4 := ⟨_, rfl⟩
        have hz4 : W4.heap.size = wr.heap.size + 1 := by rw [← hW4]; simp
        have hb4 : Below wr.heap.size wr W4 := by rw [← hW4]; exact (Below.refl _ _).alloc (nl_ _) _
        have hnb : W4.heap[wr.heap.size]? = some (.cells #[.slice ap x.p.length cp, .bool x.had, .bool x.has, .slice ao x.old.length co, .slice an x.new.length cn] 68 (0, 0)) := by rw [← hW4]; exact heap_alloc_new _ _
        have hag4 := Ag_b (S := S) (HB.out.trans (hb4.mono hzr)) HSc.out
        have hS4 : ∀ b, S b → b < W4.heap.size := fun b hb => by have := HSc.out b hb; omega
        have TU := hid (turn1_u x ap ao an cp co cn S W4 (hP.agree hag4) (hO.agree hag4) (hN.agree hag4) hS4 hsm.1 hsm.2.2.1 hsm.2.2.2)
        have hspl := sptL_len hgd.2
        have hspm : (sptL x.p).length ≤ maxLen := by have := hsm.1; unfold maxLen; omega
        have d0 := cg_ hnb (k := 0) rfl
        have d1 := cg_ hnb (k := 1) rfl
        have d2 := cg_ hnb (k := 2) rfl
        have d3 := cg_ hnb (k := 3) rfl
        have d4 := cg_ hnb (k := 4) rfl
        have how4 := ob_ hown hb4 (nl_ _)
        have hul : ∀ b, u9.ownBlock = some b → B0 ≤ b ∧ b < wr.heap.size := fun b hb => hown.lt b hb
        have hlc4 := lcsU hlc.out (Ag_b hb4 fun b hb => (hM.out b hb).2.1)
        have hcm4 := hcm.out.kept (hb4.block _ hml) (Ag_b hb4 fun b hb => (hM.out b hb).2.1)
        have HLC4 := hid hlc4
        have HCM4 := hid hcm4
        have HUL := hid hul
        have HNB := hid hnb
        have HP0 := hid hP
        have HN0 := hid hN
        have HSM := hid hsm
        have HGD := hid hgd
        have HEAR := hid hear
        have HSQ := hid hsq
        have HIN := hid hin
        have HTM := hid htm
        have HTA := hid hta
        have HRS := hid hrs
        have HRM := hid hRm
        have HW4 := hid hW4
        have HB4 := hid (HB.out.trans (hb4.mono hzr))
        have hw4 : wr.heap.size < W4.heap.size := by omega
        have hw0 : w0.heap.size ≤ wr.heap.size := hzr
        have HMM := hid hM.out
        clear hcl hP hO hN hx hag hag4 htk hsm hgd hear htm hta hW4 hb4 hnb hspl hz4 hS4 hK hR hrs hRm hlc hcm hown hlc4 hcm4 hul hsq hM hin
        go_upto_region 18 with (rw [HW4.out])
        try rw [HW4.out]
        clear c0 c1 c2 c3 c4
        go_cut [9] from 56 to 61 (fun v' wx => ∃ (a9 : Option Addr) (c9 : Nat) (M' : Nat → Prop) (cs' : List Value), v' = .slice a9 (k + 1) c9 ∧ wx.ownsRow B0 68 5 (.slice a9 (k + 1) c9) (k + 1) cs' ∧ Hid (LCs rdCh (US M' wx) wx (K ++ [x]) cs') ∧ Hid (∀ b, M' b → w0.heap.size < b ∧ b < wx.heap.size ∧ (Value.slice a9 (k + 1) c9).ownBlock ≠ some b) ∧ Hid (CMap Tryz.prog 9 sptC M' w0.heap.size m.length R wx) ∧ Hid (wx.heap[wr.heap.size]? = some (.cells #[.slice ap x.p.length cp, .bool x.had, .bool x.has, .slice ao x.old.length co, .slice an x.new.length cn] 68 (0, 0))) ∧ (Value.slice a9 (k + 1) c9).ownBlock ≠ some wr.heap.size ∧ Hid (Below w0.heap.size w0 wx) ∧ B0 ≤ wx.heap.size ∧ wr.heap.size < wx.heap.size)
        case first =>
         go_wp2_with fail
         refine TU.out.mono ?_
         rintro e w5 ⟨ap1, cp1, ao1, co1, an1, cn1, rfl, hp5, hn5, ho5, hb5⟩
         have hz5 := hb5.size
         have TV := hid (turn2_x x ap1 ao1 an1 cp1 co1 cn1 (fun b => b < w5.heap.size) w5 (Pth.wide hp5 fun b hb => hb.1.2) (Ints.wide ho5 fun b hb => hb.1.2) (Ints.wide hn5 fun b hb => hb.1.2) (fun b hb => hb) HSM.out.1 HSM.out.2.2.1 HSM.out.2.2.2)
         have HB5 := hid hb5
         clear hb5 hp5 hn5 ho5 TU d0 d1 d2 d3 d4
         apply_assumption
         go_wp2_with fail
         refine TV.out.mono ?_
         rintro e w6 ⟨ap2, cp2, ao2, co2, an2, cn2, rfl, hp6, ho6, hn6, hb6⟩
         have hz6 := hb6.size
         have hb46 := HB5.out.trans (hb6.mono hz5)
         have how6 := ob_ how4 hb46 (nl_ _)
         have HP6 := hid hp6
         have HO6 := hid ho6
         have HN6 := hid hn6
         have HB46 := hid hb46
         have hw46 : W4.heap.size ≤ w6.heap.size := by omega
         have hk1000 : k ≤ 1000 := by omega
         have hB06 : B0 ≤ w6.heap.size := by omega
         clear hb46 hb6 hp6 ho6 hn6 TV how4
         apply_assumption
         go_wp2_with (at_builtin; refine (wpList_append_ao _ rfl _ _ _ rfl B0 68 i0 _ 5 80 Tryz.underlying62 hi0 hz0 hz1 hz2 rfl (by omega) u9 k cs rfl (how6.alloc _) (some ⟨w6.heap.size, 0, none⟩) 1 1 [.slice ap2 x.p.length cp2, .bool x.had, .bool x.has, .slice ao2 x.old.length co2, .slice an2 x.new.length cn2] rfl rfl (fun h => by cases h) (fun ad had => by cases had; exact World.news_of_block (cs := #[.slice ap2 x.p.length cp2, .bool x.had, .bool x.has, .slice ao2 x.old.length co2, .slice an2 x.new.length cn2]) (t := 68) (fr := (0, 0)) (heap_alloc_new _ _)) (by simp [Value.oneCell']) (by unfold maxLen; omega) (by omega) (by simp; omega) ?_); intro a9 c9 w9 hown9 hgrow9 hat9)
         go_meet
         case rel =>
          have hg9 := hgrow9.size
          simp only [World.size_alloc] at hg9
          obtain ⟨g9, cap9, he9, hgb9, hlt9⟩ := hown9.form (by omega)
          cases he9
          have hfar : ∀ b, b < w6.heap.size → u9.ownBlock ≠ some b → w9.heap[b]? = w6.heap[b]? := fun b h1 h2 => (hgrow9.block b (by simp; omega) (fun e => h2 e.symm)).trans (heap_alloc_old _ _ h1)
          have hat := hat9 g9 rfl
          simp only [World.size_alloc] at hat
          have hz9 : w6.heap.size + 1 ≤ w9.heap.size := hg9
          refine ⟨some ⟨g9, 0, none⟩, c9, fun b => M b ∨ Rg w5.heap.size w6.heap.size b, _, rfl, hown9, ?_, ?_, ?_, ?_, ?_, ?_, by omega, by omega⟩
          · have e1 := lcsUw (lcsU HLC4.out (w' := w9) (fun b hb => (hfar b (by have := (HMM.out b hb).2.1; omega) (HMM.out b hb).2.2).trans (HB46.out.block b (by have := (HMM.out b hb).2.1; omega)))) (M' := fun b => M b ∨ Rg w5.heap.size w6.heap.size b) (fun b hb => .inl hb)
            have hA : Agree (Rg w5.heap.size w6.heap.size) w6 w9 := fun b hb => hfar b hb.2 (fun e => by have := (HUL.out b e).2; have := hb.1; omega)
            have hw' : ∀ b, Rg w5.heap.size w6.heap.size b → (M b ∨ Rg w5.heap.size w6.heap.size b) := fun b hb => .inr hb
            exact e1.app (LCs.single ⟨ap2, cp2, ao2, co2, an2, cn2, rfl, PthU.wide (PthU.agree HP6.out hA) hw', IntU.wide (IntU.agree HO6.out hA) hw', IntU.wide (IntU.agree HN6.out hA) hw'⟩)
          · intro b hb
            refine ⟨?_, ?_, fun e => ?_⟩
            · rcases hb with h | h
              · exact (HMM.out b h).1
              · have := h.1; omega
            · rcases hb with h | h
              · have := (HMM.out b h).2.1; omega
              · have := h.2; omega
            · have e' : g9 = b := by simpa [Value.ownBlock] using e
              subst e'
              rcases hb with h | h
              · rcases hat with h2 | h2
                · exact (HMM.out _ h).2.2 h2
                · have := (HMM.out _ h).2.1; omega
              · rcases hat with h2 | h2
                · have := (HUL.out _ h2).2; have := h.1; omega
                · have := h.2; omega
          · have hmbl : w0.heap.size < W4.heap.size := by omega
            refine (HCM4.out.kept ((hfar _ (by omega) (fun e => by have := (HUL.out _ e).1; omega)).trans (HB46.out.block _ hmbl)) (fun b hb => ?_)).wide fun b hb => .inl hb
            exact (hfar b (by have := (HMM.out b hb).2.1; omega) (HMM.out b hb).2.2).trans (HB46.out.block b (by have := (HMM.out b hb).2.1; omega))
          · exact (hfar _ (by omega) (fun e => by have := (HUL.out _ e).2; omega)).trans ((HB46.out.block _ hw4).trans HNB.out)
          · intro e
            have e' : g9 = wr.heap.size := by simpa [Value.ownBlock] using e
            rcases hat with h2 | h2
            · have := (HUL.out _ h2).2; omega
            · omega
          · exact ((HB4.out.trans (HB46.out.mono (by omega))).alloc (by omega) _).grown hgrow9 (by simp; omega) (fun b hb => by have := (HUL.out b hb).1; omega)
        case rest =>
         obtain ⟨a9, c9, M', cs', rfl, hown, hlc, hM', hcm, hblk, hne9, HB9, hB09, hw9⟩ := hcut
         obtain ⟨w8, hw8⟩ : ∃ w8, w8 = wc := ⟨_, rfl⟩
         subst hw8
         clear d0 d1 d2 d3 d4 how4 TU
         have hw08 : w0.heap.size ≤ w8.heap.size := HB9.out.size
         have HPx := hid (HP0.out.agree (Ag_b HB9.out HSc.out))
         have hS8 : ∀ b, S b → b < w8.heap.size := fun b hb => by have := HSc.out b hb; omega
         have HS8 := hid hS8
         have hmb8 : w0.heap.size < w8.heap.size := by omega
         have d0 := cg_ hblk.out (k := 0) rfl
         have SP := hid (spelt_any x.p ap cp S w8 HPx.out hS8 HSM.out.1 HGD.out.2 (HPc.out.below HB9.out))
         clear hS8
         go_upto_region 19 with fail
         go_cut [15, 16] from 62 to 69 (fun p q wx => ∃ b15, p = .pointer (some ⟨b15, 0, none⟩) ∧ w8.heap.size ≤ b15 ∧ b15 < wx.heap.size ∧ Hid (Below w8.heap.size w8 wx) ∧ ((q = .bool false ∧ Hid (fdC m x.p = none)) ∨ (q = .bool true ∧ ∃ y aq cq ar cr an' cn', Hid (fdC m x.p = some y) ∧ Hid (wx.heap[b15]? = some (.cells #[.slice aq y.p.length cq, .bool y.had, .bool y.has, .slice ar y.old.length cr, .slice an' y.new.length cn'] 68 (0, 0))) ∧ Hid (IntU M' wx (.slice ar y.old.length cr) y.old) ∧ Hid (IntU M' wx (.slice an' y.new.length cn') y.new))))
         case first =>
          go_wp2_with fail
          refine SP.out.mono ?_
          rintro e w9 ⟨rfl, hb9⟩
          have hz9 := hb9.size
          have hcm9 := hcm.out.kept (hb9.block _ hmb8) (Ag_b hb9 fun b hb => (hM'.out b hb).2.1)
          cases hf : fdC m x.p with
          | none =>
            have hr := hcm9.miss Tryz.underlying234 Tryz.underlying9 (run_zero68 w9) (sptL x.p) hspm (fun c hc => HSQ.out c (HRM.out c hc) (fdC_none hf c (HRM.out c hc)))
            have HF := hid hf
            have HB := hid (hb9.alloc hz9 (.cells #[.slice none 0 0, .bool false, .bool false, .slice none 0 0, .slice none 0 0] 68))
            clear hcm9 hf hb9 SP d0
            apply_assumption
            go_wp2_with fail
            go_meet
            case rel => exact ⟨w9.heap.size, rfl, hz9, by simp, HB.out, .inl ⟨rfl, HF⟩⟩
          | some y =>
            obtain ⟨hy1, hy2⟩ := fdC_some hf
            obtain ⟨v, hr, aq, cq, ar, cr, an', cn', rfl, hq1, hq2, hq3⟩ := hcm9.hit Tryz.underlying234 Tryz.underlying9 (run_zero68 w9) (sptL x.p) hspm (HEAR.out y hy1 hy2) (by show sptL y.p = sptL x.p; rw [hy2])
            have HF := hid hf
            have hb10 : Below w9.heap.size w9 (w9.alloc (.cells #[.slice aq y.p.length cq, .bool y.had, .bool y.has, .slice ar y.old.length cr, .slice an' y.new.length cn'] 68)) := (Below.refl _ _).alloc (nl_ _) _
            have HB := hid (hb9.trans (hb10.mono hz9))
            have hA : Agree M' w9 (w9.alloc (.cells #[.slice aq y.p.length cq, .bool y.had, .bool y.has, .slice ar y.old.length cr, .slice an' y.new.length cn'] 68)) := Ag_b hb10 fun b hb => by have := (hM'.out b hb).2.1; omega
            have HQ2 := hid (IntU.agree hq2 hA)
            have HQ3 := hid (IntU.agree hq3 hA)
            have HNW := hid (heap_alloc_new w9 (.cells #[.slice aq y.p.length cq, .bool y.had, .bool y.has, .slice ar y.old.length cr, .slice an' y.new.length cn'] 68))
            clear hcm9 hf hb9 SP d0 hy1 hy2 hq1 hq2 hq3 hb10 hA
            apply_assumption
            go_wp2_with fail
            go_meet
            case rel => exact ⟨w9.heap.size, rfl, hz9, by simp, HB.out, .inr ⟨rfl, y, aq, cq, ar, cr, an', cn', HF, HNW, HQ2, HQ3⟩⟩
         case rest =>
          obtain ⟨b15, hp15, hb15, hlt15, HB10, hc⟩ := hcut
          obtain ⟨w10, hw10⟩ : ∃ w10, w10 = wc := ⟨_, rfl⟩
          subst hw10
          subst hp15
          have hsz10 := HB10.out.size
          have how10 := ob_ hown HB10.out (nl_ _)
          have hown10lt : ∀ g, (Value.slice a9 (k + 1) c9).ownBlock = some g → B0 ≤ g ∧ g < w8.heap.size := fun g h => hown.lt g h
          have HLC10 := hid (lcsU hlc.out (Ag_b HB10.out fun b hb => (hM'.out b hb).2.1))
          have HCM10 := hid (hcm.out.kept (HB10.out.block _ hmb8) (Ag_b HB10.out fun b hb => (hM'.out b hb).2.1))
          have HBL10 := hid ((HB10.out.block wr.heap.size hw9).trans hblk.out)
          have HB010 := hid (HB9.out.trans (HB10.out.mono hw08))
          have HM10 := hid (show ∀ b, M' b → w0.heap.size < b ∧ b < w10.heap.size ∧ (Value.slice a9 (k + 1) c9).ownBlock ≠ some b from fun b hb => ⟨(hM'.out b hb).1, by have := (hM'.out b hb).2.1; omega, (hM'.out b hb).2.2⟩)
          clear SP d0
          rcases hc with ⟨rfl, hf⟩ | ⟨rfl, y, aq, cq, ar, cr, an', cn', hf, hy, hyo, hyn⟩
          · have hmx : mrgC m x = x := by unfold mrgC; rw [hf.out]
            have hcx : claC m x = false := by unfold claC; rw [hf.out]
            have HMX := hid hmx
            have HCX := hid hcx
            have HCM11 := hid (HCM10.out.same (L' := remC (l.take (k + 1)) m) fun c => by
             rw [HRS.out c]
             exact ⟨fun h => h.1, fun h => ⟨h, fdC_none hf.out c (HRM.out c h)⟩⟩)
            clear hmx hcx hown
            go_wp2_with fail
            go_roundw
            case rel => exact ⟨k + 1, M', cs', by omega, by go_num, how10, by rw [HTM.out, HMX.out]; exact HLC10, HCM11, HM10, by rw [Hid, HTA.out]; exact HCX.out, by omega, HB010⟩
            case measure => simp [intOf]; omega
          · have hly : y.old.length ≤ 1000 ∧ y.new.length ≤ 1000 ∧ y.p = x.p := by
             have := fdC_some hf.out
             have h2 := SM.out y this.1
             exact ⟨h2.2.2.1, h2.2.2.2, this.2⟩
            obtain ⟨hly1, hly2, hyp⟩ := hly
            have HYP := hid hyp
            have hcl : claC m x = !((x.has == y.had) && decide (x.new = y.old)) := by unfold claC; rw [hf.out]
            have hmx : mrgC m x = ⟨x.p, x.had, y.has, x.old, y.new⟩ := by unfold mrgC; rw [hf.out]
            have HCL := hid hcl
            have HMX := hid hmx
            have hlxn := HSM.out.2.2.2
            have EQ := hid (eqInts_any x.new y.old an ar cn cr (fun b => b < w10.heap.size) w10 ((HN0.out.agree (Ag_b HB010.out HSc.out)).wide fun b hb => by have := HSc.out b hb; omega) (Ints.wide hyo.out fun b hb => (HM10.out b hb.1).2.1) (by omega) (by omega))
            clear hyp hcl hmx hown
            go_upto_region 21 with fail
            go_cut [84] from 72 to 83 (fun q wx => q = .bool (claC m x) ∧ Hid (Below w10.heap.size w10 wx))
            case first =>
             have e2 := cg_ HBL10.out (k := 2) rfl
             have e4 := cg_ HBL10.out (k := 4) rfl
             have f1 := cg_ hy.out (k := 1) rfl
             have f3 := cg_ hy.out (k := 3) rfl
             have hcl := HCL.out
             obtain ⟨b1, hb1⟩ : ∃ b, x.has = b := ⟨_, rfl⟩
             obtain ⟨b2, hb2⟩ : ∃ b, y.had = b := ⟨_, rfl⟩
             obtain ⟨b3, hb3⟩ : ∃ b, decide (x.new = y.old) = b := ⟨_, rfl⟩
             rw [hb1] at e2 hcl
             rw [hb2] at f1 hcl
             rw [hb3] at hcl
             have EQ2 := EQ.out
             rw [hb3] at EQ2
             have EQ3 := hid EQ2
             have HCL2 := hid hcl
             clear hb1 hb2 hb3 hcl EQ2
             cases b1 <;> cases b2
             all_goals
              go_wp2_with fail
              first
               | (go_meet
                  case rel => exact ⟨by rw [HCL2.out]; rfl, Below.refl _ _⟩)
               | (refine EQ3.out.mono ?_
                  rintro e w11 ⟨rfl, hb11⟩
                  have HB11 := hid hb11
                  clear hb11
                  apply_assumption
                  go_wp2_with fail
                  go_meet
                  case rel => exact ⟨by rw [HCL2.out]; cases b3 <;> rfl, HB11⟩)
            case rest =>
             obtain ⟨hq84, HB11⟩ := hcut
             obtain ⟨w11, hw11⟩ : ∃ w11, w11 = wc := ⟨_, rfl⟩
             subst hw11
             have hsz11 := HB11.out.size
             obtain ⟨cl0, hcl0⟩ : ∃ q, claC m x = q := ⟨_, rfl⟩
             rw [hcl0] at hq84
             subst hq84
             have HCL0 := hid hcl0
             clear hcl0
             have HB011 := hid (HB010.out.trans (HB11.out.mono (by have := HB010.out.size; omega)))
             cases cl0
             rotate_left
             · go_wp2_with fail
               refine bodyPost_ret (v := .tuple #[.slice none 0 0, .int .i64 7]) (by simp [results, Tryz.results76, go_sem]) rfl ?_
               exact AftR.bad (by rw [HE.out, if_pos (List.any_eq_true.2 ⟨x, HIN.out, HCL0.out⟩)]) (by omega) (HBc.out.trans (HB011.out.mono (by omega)))
             have how11 := ob_ how10 HB11.out (nl_ _)
             obtain ⟨g9, c9', he9, hgb9, hlt9⟩ := how11.form (by omega)
             cases he9
             have hM10 := HM10.out
             have hne11 : ∀ b, M' b → b ≠ g9 := fun b hb e => (hM10 b hb).2.2 (by rw [e]; rfl)
             have HLC11 := hid (lcsU HLC10.out (Ag_b HB11.out fun b hb => (hM10 b hb).2.1))
             have HCM11 := hid (HCM10.out.kept (HB11.out.block _ (by have := HB010.out.size; omega)) (Ag_b HB11.out fun b hb => (hM10 b hb).2.1))
             have HBL11 := hid ((HB11.out.block wr.heap.size (by omega)).trans HBL10.out)
             have HY11 := hid ((HB11.out.block b15 hlt15).trans hy.out)
             have HYN11 := hid (IntU.agree hyn.out (Ag_b HB11.out fun b hb => (hM10 b hb).2.1))
             obtain ⟨an9, cn9, s2, z2, s4, z4⟩ := last_cells HKL.out how11 HLC11.out
             obtain ⟨cs2, hown2, hlc2, hg2⟩ := last_set (y := y) HKL.out how11 HLC11.out hne11 (fun b hb => by have := (hM10 b hb).2.1; omega) HYN11.out
             have HLS := hid hlc2
             have HG2 := hid hg2
             have HOW2 := hid hown2
             have y2 := cg_ HY11.out (k := 2) rfl
             have y4 := cg_ HY11.out (k := 4) rfl
             have hgne15 : g9 ≠ b15 := by
              have := hown10lt g9 rfl
              omega
             have hgner : g9 ≠ wr.heap.size := fun e => hne9 (by rw [e]; rfl)
             have hgnem : g9 ≠ w0.heap.size := by omega
             have hS0 : w11.drew.cell? ⟨b15, 2, none⟩ = some (.bool y.has) ∧ w11.drew.cell? ⟨b15, 4, none⟩ = some (.slice an' y.new.length cn') := ⟨y2, y4⟩
             have HS0 := hid hS0
             have S2 := hid s2
             have Z2 := hid z2
             have S4 := hid s4
             have Z4 := hid z4
             have HNE := hid hne11
             have hk1 : (k : Int) < (k : Int) + 1 := by omega
             have hk0 : (0 : Int) ≤ (k : Int) := by omega
             have hkw : IntKind.i64.wrap (k : Int) = (k : Int) := IntWalk.i64_in _ (by omega)
             have hks : ((k : Int) + 1) - 1 = (k : Int) := by omega
             clear hM10 hne11 hlc2 hg2 hown2 y2 y4 hS0 s2 z2 s4 z4 how11 how10
             go_upto_region 23 with fail
             go_cut [] from 85 to 100 (fun wx => Hid (wx.ownsRow B0 68 5 (.slice (some ⟨g9, 0, none⟩) (k + 1) c9) (k + 1) cs2) ∧ Hid (LCs rdCh (US M' wx) wx (K ++ [mrgC m x]) cs2) ∧ Hid (w11.grownBy wx (some g9)))
             case first =>
              refine (wpIn_wide (n := 9)).1 ?_
              refine region_held (fun w' : World => w'.cell? ⟨b15, 2, none⟩ = some (.bool y.has) ∧ w'.cell? ⟨b15, 4, none⟩ = some (.slice an' y.new.length cn')) (by kernel_rfl) ?_
              have hS0 := HS0.out
              refine tkY 0 85 (.slice (some ⟨g9, 0, none⟩) (k + 1) c9) rfl rfl hS0 (fun w' hs => ?_) ?_
              · go_simp
              refine tkY 1 86 (.slice (some ⟨g9, 0, none⟩) (k + 1) c9) rfl rfl hS0 (fun w' hs => ?_) ?_
              · go_simp
              refine tkY 2 87 (.int .i64 ((k : Int) + 1)) rfl rfl hS0 (fun w' hs => ?_) ?_
              · go_simp
              refine tkY 3 88 (.int .i64 (k : Int)) rfl rfl hS0 (fun w' hs => ?_) ?_
              · go_simp
              refine tkY 4 89 (.slice (some ⟨g9, 0, none⟩) (k + 1) c9) rfl rfl hS0 (fun w' hs => ?_) ?_
              · go_simp
              refine tkY 5 90 (.slice (some ⟨g9, 0, none⟩) (k + 1) c9) rfl rfl hS0 (fun w' hs => ?_) ?_
              · go_simp
              refine tkY 6 91 (.int .i64 ((k : Int) + 1)) rfl rfl hS0 (fun w' hs => ?_) ?_
              · go_simp
              refine tkY 7 92 (.int .i64 (k : Int)) rfl rfl hS0 (fun w' hs => ?_) ?_
              · go_simp
              refine tkY 8 93 (.pointer (some ⟨b15, 2, none⟩)) rfl rfl hS0 (fun w' hs => ?_) ?_
              · go_simp
              refine tkY 9 94 (.bool y.has) rfl rfl hS0 (fun w' hs => ?_) ?_
              · obtain ⟨y2, y4⟩ := hs
                go_simp
              refine tkY 10 95 (.pointer (some ⟨b15, 4, none⟩)) rfl rfl hS0 (fun w' hs => ?_) ?_
              · go_simp
              refine tkY 11 96 (.slice an' y.new.length cn') rfl rfl hS0 (fun w' hs => ?_) ?_
              · obtain ⟨y2, y4⟩ := hs
                go_simp
              refine tkY 12 97 (.pointer (some ⟨g9, k * 5, none⟩)) rfl rfl hS0 (fun w' hs => ?_) ?_
              · go_simp
              refine tkY 13 98 (.pointer (some ⟨g9, k * 5 + 2, none⟩)) rfl rfl hS0 (fun w' hs => ?_) ?_
              · go_simp
              have s2 : w11.drew.cell? ⟨g9, k * 5 + 2, none⟩ = some (.bool x.has) := S2.out
              have z2 : w11.drew.frozen? ⟨g9, k * 5 + 2, none⟩ = false := Z2.out
              refine AnyH_one (i := 14) (by kernel_rfl) rfl (by kernel_rfl) (fun K hK => ?_)
              go_simp
              obtain ⟨W1, hW1⟩ : ∃ W1, w11.setCell ⟨g9, k * 5 + 2, none⟩ (.bool y.has) = W1 := ⟨_, rfl⟩
              have hb1 : ∀ b, b ≠ g9 → W1.heap[b]? = w11.heap[b]? := fun b h => by rw [← hW1]; exact Below.heap_setCell _ _ _ _ h
              have hS1 : W1.drew.cell? ⟨b15, 2, none⟩ = some (.bool y.has) ∧ W1.drew.cell? ⟨b15, 4, none⟩ = some (.slice an' y.new.length cn') := ⟨(World.cell?_of_block (hb1 b15 (fun e => hgne15 e.symm))).trans hS0.1, (World.cell?_of_block (hb1 b15 (fun e => hgne15 e.symm))).trans hS0.2⟩
              have hoo := cell_ne (w := w11) (g := g9) (i := k * 5 + 2) (j := k * 5 + 4) (v := .bool y.has) (by omega)
              have s4 : W1.cell? ⟨g9, k * 5 + 4, none⟩ = some (.slice an9 x.new.length cn9) := by rw [← hW1]; exact hoo.1.trans S4.out
              have z4 : W1.frozen? ⟨g9, k * 5 + 4, none⟩ = false := by rw [← hW1]; exact hoo.2.trans Z4.out
              have HW1 := hid hW1
              try rw [hW1]
              refine hK _ _ ⟨hS1, ?_⟩
              clear hK hS0 hoo hb1 s2 z2 hW1
              refine tkY 15 99 (.pointer (some ⟨g9, k * 5, none⟩)) rfl rfl hS1 (fun w' hs => ?_) ?_
              · go_simp
              refine tkY 16 100 (.pointer (some ⟨g9, k * 5 + 4, none⟩)) rfl rfl hS1 (fun w' hs => ?_) ?_
              · go_simp
              refine AnyH_one (i := 17) (by kernel_rfl) rfl (by kernel_rfl) (fun K hK => ?_)
              go_simp
              obtain ⟨W2, hW2⟩ : ∃ W2, W1.setCell ⟨g9, k * 5 + 4, none⟩ (.slice an' y.new.length cn') = W2 := ⟨_, rfl⟩
              have hb2 : ∀ b, b ≠ g9 → W2.heap[b]? = W1.heap[b]? := fun b h => by rw [← hW2]; exact Below.heap_setCell _ _ _ _ h
              have hS2 : W2.drew.cell? ⟨b15, 2, none⟩ = some (.bool y.has) ∧ W2.drew.cell? ⟨b15, 4, none⟩ = some (.slice an' y.new.length cn') := ⟨(World.cell?_of_block (hb2 b15 (fun e => hgne15 e.symm))).trans hS1.1, (World.cell?_of_block (hb2 b15 (fun e => hgne15 e.symm))).trans hS1.2⟩
              have HW2 := hid hW2
              try rw [hW2]
              refine hK _ _ ⟨hS2, ?_⟩
              clear hK hS1 hb2 s4 z4 hW2
              refine AnyH_done (by kernel_rfl) ?_
              go_simp
              have hEq : W2.heap = ((w11.setCell ⟨g9, k * 5 + 2, none⟩ (.bool y.has)).setCell ⟨g9, k * 5 + 4, none⟩ (.slice an' y.new.length cn')).heap := by rw [← HW2.out, ← HW1.out]
              have HEQ := hid hEq
              have HTP := hid (show W2.os = w11.os ∧ W2.output = w11.output from by rw [← HW2.out, ← HW1.out]; exact ⟨rfl, rfl⟩)
              clear hEq hS2
              go_wp2_with fail
              go_meet
              case rel => exact ⟨owns_heap HOW2.out HEQ.out, by rw [HMX.out]; exact lcs_heap HLS.out HEQ.out, by have h := HG2.out; rw [HW1.out, HW2.out] at h; exact ⟨h.os, h.tape, h.output, h.size, h.block⟩⟩
             case rest =>
              obtain ⟨HOW3, HLC3, HG3⟩ := hcut
              obtain ⟨w12, hw12⟩ : ∃ w12, w12 = wc := ⟨_, rfl⟩
              subst hw12
              have hz12 := HG3.out.size
              have hM10 := HM10.out
              have hmb11 : w0.heap.size < w11.heap.size := by have := HB010.out.size; omega
              have HCM12 := hid (HCM11.out.kept (HG3.out.block _ hmb11 (fun e => hgnem (Option.some.inj e).symm)) (Agree.grown HG3.out fun b hb => ⟨by have := (hM10 b hb).2.1; omega, fun e => HNE.out b hb (Option.some.inj e).symm⟩))
              have d0 := cg_ ((HG3.out.block wr.heap.size (by omega) (fun e => hgner (Option.some.inj e).symm)).trans HBL11.out) (k := 0) rfl
              have hB12 := HB011.out.grown HG3.out (by omega) (fun b hb => by have := Option.some.inj hb; omega)
              have SP := hid (spelt_any x.p ap cp S w12 (HP0.out.agree (Ag_b hB12 HSc.out)) (fun b hb => by have := HSc.out b hb; omega) HSM.out.1 HGD.out.2 (HPc.out.below hB12))
              have HB12 := hid hB12
              clear hB12 hM10
              go_wp2_with fail
              refine SP.out.mono ?_
              rintro e w13 ⟨rfl, hb13⟩
              have hz13 := hb13.size
              have hM10 := HM10.out
              have hcm13 := HCM12.out.kept (hb13.block _ (by omega)) (Ag_b hb13 fun b hb => by have := (hM10 b hb).2.1; omega)
              obtain ⟨w14, hd, hcm14, hg14⟩ := hcm13.del Tryz.underlying234 Tryz.underlying9 (sptL x.p) hspm (remC (l.take (k + 1)) m) (fun d => by
               rw [HRS.out d]
               exact ⟨fun h => ⟨h.1, HSQ.out d (HRM.out d h.1) h.2⟩, fun h => ⟨h.1, fun e => h.2 (by show sptL d.p = sptL x.p; rw [e])⟩⟩) (fun b hb => ⟨by have := (hM10 b hb).2.1; omega, by have := (hM10 b hb).1; omega⟩) 0
              have hz14 := hg14.size
              have HG14 := hid hg14
              have HCM14 := hid hcm14
              have HB13 := hid (HB12.out.trans (hb13.mono (by omega)))
              have how13 := ob_ HOW3.out hb13 (nl_ _)
              have how14 := owns_agree (w' := w14) how13 (fun b hb => hg14.block b (how13.lt b hb).2 (fun e => by have := Option.some.inj e; have := (how13.lt b hb).1; omega))
              have HOW14 := hid how14
              have hlc13 := lcsU HLC3.out (Ag_b hb13 fun b hb => by have := (hM10 b hb).2.1; omega)
              have HLC14 := hid (lcsU hlc13 (w' := w14) (fun b hb => hg14.block b (by have := (hM10 b hb).2.1; omega) (fun e => by have := Option.some.inj e; have := (hM10 b hb).1; omega)))
              clear hM10 hcm13 hcm14 hg14 hb13 how13 how14 hlc13 SP d0
              apply_assumption
              go_wp2_with fail
              go_roundw
              case rel => exact ⟨k + 1, M', cs2, by omega, by go_num, HOW14.out, by rw [HTM.out]; exact HLC14, HCM14, fun b hb => ⟨(HM10.out b hb).1, by have := (HM10.out b hb).2.1; omega, (HM10.out b hb).2.2⟩, by rw [Hid, HTA.out]; exact HCL0.out, by omega, HB13.out.grown HG14.out (by omega) (fun b hb => by have := Option.some.inj hb; omega)⟩
              case measure => simp [intOf]; omega
      · skip
        obtain rfl : k = l.length := by omega
        have hlt' : ¬ (l.length : Int) < (l.length : Int) := by omega
        rw [List.take_length] at hlc hcm hcla
        clear hlt hk
        obtain ⟨w15, hw15⟩ : ∃ w15, w15 = wr := ⟨_, rfl⟩
        subst hw15
        obtain ⟨K, hK⟩ : ∃ K, l.map (mrgC m) = K := ⟨_, rfl⟩
        obtain ⟨R, hR⟩ : ∃ R, remC l m = R := ⟨_, rfl⟩
        have hao : aftO l m = (K ++ R).filter fun c => !nopC c := by rw [aftO, hK, hR]
        have hkl : K.length = l.length := by rw [← hK, List.length_map]
        have hbd : ∀ x ∈ K ++ R, x.p.length ≤ 1000 ∧ x.old.length ≤ 1000 ∧ x.new.length ≤ 1000 := by
         intro x hx
         rcases List.mem_append.1 hx with h | h
         · rw [← hK] at h
           obtain ⟨a, ha, rfl⟩ := List.mem_map.1 h
           have h1 := SL.out a ha
           unfold mrgC
           cases hf : fdC m a.p with
           | none => exact ⟨h1.1, h1.2.2.1, h1.2.2.2⟩
           | some b => exact ⟨h1.1, h1.2.2.1, (SM.out b (fdC_some hf).1).2.2.2⟩
         · rw [← hR] at h
           have h1 := SM.out x (remC_mem.1 h).1
           exact ⟨h1.1, h1.2.2.1, h1.2.2.2⟩
        rw [hK] at hlc
        rw [hR] at hcm
        have hE2 := HE.out
        rw [if_neg (by rw [hcla.out]; simp)] at hE2
        have HE2 := hid hE2
        have HAO := hid hao
        have HRR := hid hR
        have HBD := hid hbd
        have hrl : R.length ≤ m.length := by rw [← hR]; exact List.length_filter_le _ _
        have HLC15 := hid hlc.out
        have HCM15 := hid hcm.out
        have HM15 := hid hM.out
        have HB15 := hid HB.out
        rw [← hkl] at hown
        have HOW15 := hid hown
        have hz15 := HB.out.size
        clear hE2 hao hR hbd hK hlc hcm hM hcla HE HCM1 HM1 hown HB
        go_wp2_with fail
        go_loopw [9, 108] (fun v i wr => ∃ (k n : Nat) (M : Nat → Prop) (cs : List Value), k ≤ m.length ∧ i = .int .i64 k ∧ n ≤ 240 ∧ Hid (n = (K ++ remC l (m.take k)).length) ∧ wr.ownsRow B0 68 5 v n cs ∧ Hid (LCs rdCh (US M wr) wr (K ++ remC l (m.take k)) cs) ∧ Hid (CMap Tryz.prog 9 sptC M w0.heap.size m.length R wr) ∧ Hid (∀ b, M b → w0.heap.size < b ∧ b < wr.heap.size ∧ v.ownBlock ≠ some b) ∧ B0 ≤ wr.heap.size ∧ Hid (Below w0.heap.size w0 wr)) (fun _ i _ => m.length - (intOf i).toNat)
        case atStart => exact ⟨0, K.length, M, cs, by omega, rfl, by omega, by simp [Hid, remC], HOW15.out, by simpa [Hid, remC] using HLC15.out, HCM15.out, HM15.out, hBw, HB15.out⟩
        case round =>
         clear HLC15 HCM15 HM15 HOW15 HB15
         obtain ⟨k, n, M, cs, hk, rfl, hn, hnn, hown, hlc, hcm, hM, hBw, HB⟩ := hrel
         have hzr := HB.out.size
         have hml := hcm.out.lt
         by_cases hlt : k < m.length
         · have hlt' : (k : Int) < (m.length : Int) := by omega
           obtain ⟨g, o, cs1, rfl, hg, ⟨ap, cp, ao, co, an, cn, rfl, hP, hO, hN⟩, hcl⟩ := HATM.out k hlt
           have hag := Ag_b (S := T) HB.out HTc.out
           have c0 := hag.cell hg (hcl 0 _ rfl)
           have c1 := hag.cell hg (hcl 1 _ rfl)
           have c2 := hag.cell hg (hcl 2 _ rfl)
           have c3 := hag.cell hg (hcl 3 _ rfl)
           have c4 := hag.cell hg (hcl 4 _ rfl)
           rw [Nat.add_zero] at c0
           simp only [← Nat.add_assoc] at c1 c2 c3 c4
           have hin : m[k] ∈ m := List.getElem_mem hlt
           have hsm := SM.out m[k] hin
           have hgd := ck_good (CKM.out.1 m[k] hin)
           have hrk : remC l (m.take (k + 1)) = remC l (m.take k) ++ if (l.any fun a => decide (a.p = m[k].p)) then [] else [m[k]] := by
            rw [List.take_succ_eq_append_getElem hlt, remC, remC, List.filter_append, List.filter_cons]
            cases (l.any fun a => decide (a.p = m[k].p)) <;> simp
           have hRin : m[k] ∈ R ↔ (l.any fun a => decide (a.p = m[k].p)) = false := by
            rw [← HRR.out, remC, List.mem_filter]
            simp
           have hRu : ∀ c ∈ R, sptC c = sptL m[k].p → c = m[k] := fun c hc e => by
            have hcm : c ∈ m := by rw [← HRR.out] at hc; exact (remC_mem.1 hc).1
            exact SrtC.inj CKM.out.2 hcm hin (spt_inj CKM.out.1 CKM.out.1 hcm hin e)
           obtain ⟨x, hx⟩ : ∃ x, m[k] = x := ⟨_, rfl⟩
           rw [hx] at hP hO hN c0 c1 c2 c3 c4 hsm hgd hrk hRin hRu
           obtain ⟨W4, hW4⟩ : ∃ W4, wr.alloc (.cells #[.slice ap x.p.length cp, .bool x.had, .bool x.has, .slice ao x.old.length co, .slice an x.new.length cn] 68) = W4 := ⟨_, rfl⟩
           have hz4 : W4.heap.size = wr.heap.size + 1 := by rw [← hW4]; simp
           have hb4 : Below wr.heap.size wr W4 := by rw [← hW4]; exact (Below.refl _ _).alloc (nl_ _) _
           have hnb : W4.heap[wr.heap.size]? = some (.cells #[.slice ap x.p.length cp, .bool x.had, .bool x.has, .slice ao x.old.length co, .slice an x.new.length cn] 68 (0, 0)) := by rw [← hW4]; exact heap_alloc_new _ _
           have hag4 := Ag_b (S := T) (HB.out.trans (hb4.mono hzr)) HTc.out
           have SP := hid (spelt_any x.p ap cp T W4 (hP.agree hag4) (fun b hb => by have := HTc.out b hb; omega) hsm.1 hgd.2 (HPc.out.below (HB.out.trans (hb4.mono hzr))))
           have hspl := sptL_len hgd.2
           have hspm : (sptL x.p).length ≤ maxLen := by have := hsm.1; unfold maxLen; omega
           have d0 := cg_ hnb (k := 0) rfl
           have how4 := ob_ hown hb4 (nl_ _)
           have HLC4 := hid (lcsU hlc.out (Ag_b hb4 fun b hb => (hM.out b hb).2.1))
           have HCM4 := hid (hcm.out.kept (hb4.block _ hml) (Ag_b hb4 fun b hb => (hM.out b hb).2.1))
           have HUL := hid (show ∀ b, u9.ownBlock = some b → B0 ≤ b ∧ b < wr.heap.size from fun b hb => hown.lt b hb)
           have HRK := hid hrk
           have HRIN := hid hRin
           have HRU := hid hRu
           have HW4 := hid hW4
           have HB4 := hid (HB.out.trans (hb4.mono hzr))
           have hw4 : wr.heap.size < W4.heap.size := by omega
           have hw0 : w0.heap.size ≤ wr.heap.size := hzr
           have HMM := hid hM.out
           clear hcl hP hO hN hx hag hag4 hsm hgd hrk hRin hRu hW4 hb4 hnb hspl hz4 hlc hcm hown hM hin
           go_wp2_with (rw [HW4.out])
           clear c0 c1 c2 c3 c4
           refine SP.out.mono ?_
           rintro e w5 ⟨rfl, hb5⟩
           have hz5 := hb5.size
           have how5 := ob_ how4 hb5 (nl_ _)
           have HLC5 := hid (lcsU HLC4.out (Ag_b hb5 fun b hb => by have := (HMM.out b hb).2.1; omega))
           have hcm5 := HCM4.out.kept (hb5.block _ (by omega)) (Ag_b hb5 fun b hb => by have := (HMM.out b hb).2.1; omega)
           have HB5 := hid (HB4.out.trans (hb5.mono (by omega)))
           have hM5 : ∀ b, M b → b < w5.heap.size := fun b hb => by have := (HMM.out b hb).2.1; omega
           cases hany : (l.any fun a => decide (a.p = x.p)) with
           | true =>
             have hr := hcm5.miss Tryz.underlying234 Tryz.underlying9 (run_zero68 w5) (sptL x.p) hspm (fun c hc e => by
              have := HRU.out c hc e
              subst this
              have := HRIN.out.1 hc
              rw [hany] at this; cases this)
             have hrk := HRK.out
             rw [hany, if_pos rfl, List.append_nil] at hrk
             have HRK2 := hid hrk
             have hb6 : Below w5.heap.size w5 (w5.alloc (.cells #[.slice none 0 0, .bool false, .bool false, .slice none 0 0, .slice none 0 0] 68)) := (Below.refl _ _).alloc (nl_ _) _
             have HOW6 := hid (ob_ how5 hb6 (nl_ _))
             have HLC6 := hid (lcsU HLC5.out (Ag_b hb6 hM5))
             have HCM6 := hid (hcm5.kept (hb6.block _ (by omega)) (Ag_b hb6 hM5))
             have HB6 := hid (HB5.out.alloc (by omega) (.cells #[.slice none 0 0, .bool false, .bool false, .slice none 0 0, .slice none 0 0] 68))
             have HM6 := hid (show ∀ b, M b → w0.heap.size < b ∧ b < (w5.alloc (.cells #[.slice none 0 0, .bool false, .bool false, .slice none 0 0, .slice none 0 0] 68)).heap.size ∧ u9.ownBlock ≠ some b from fun b hb => ⟨(HMM.out b hb).1, by have := hM5 b hb; simp; omega, (HMM.out b hb).2.2⟩)
             clear hcm5 hany hrk hb5 hb6 SP d0 how4 how5 hM5
             apply_assumption
             go_wp2_with fail
             go_roundw
             case rel => exact ⟨k + 1, n, M, cs, by omega, by go_num, hn, by rw [Hid, HRK2.out]; exact hnn.out, HOW6.out, by rw [HRK2.out]; exact HLC6, HCM6, HM6, by simp; omega, HB6⟩
             case measure => simp [intOf]; omega
           | false =>
             obtain ⟨v, hr, ap2, cp2, ao2, co2, an2, cn2, rfl, hq1, hq2, hq3⟩ := hcm5.hit Tryz.underlying234 Tryz.underlying9 (run_zero68 w5) (sptL x.p) hspm (HRIN.out.2 hany) rfl
             have hrk := HRK.out
             rw [hany, if_neg (by simp)] at hrk
             have HRK2 := hid hrk
             obtain ⟨w6, hw6⟩ : ∃ w6, w5.alloc (.cells #[.slice ap2 x.p.length cp2, .bool x.had, .bool x.has, .slice ao2 x.old.length co2, .slice an2 x.new.length cn2] 68) = w6 := ⟨_, rfl⟩
             have hz6 : w6.heap.size = w5.heap.size + 1 := by rw [← hw6]; simp
             have hb6 : Below w5.heap.size w5 w6 := by rw [← hw6]; exact (Below.refl _ _).alloc (nl_ _) _
             have hnb6 : w6.heap[w5.heap.size]? = some (.cells #[.slice ap2 x.p.length cp2, .bool x.had, .bool x.has, .slice ao2 x.old.length co2, .slice an2 x.new.length cn2] 68 (0, 0)) := by rw [← hw6]; exact heap_alloc_new _ _
             have e0 := cg_ hnb6 (k := 0) rfl
             have e1 := cg_ hnb6 (k := 1) rfl
             have e2 := cg_ hnb6 (k := 2) rfl
             have e3 := cg_ hnb6 (k := 3) rfl
             have e4 := cg_ hnb6 (k := 4) rfl
             have how6 := ob_ how5 hb6 (nl_ _)
             have HLC6 := hid (lcsU HLC5.out (Ag_b hb6 hM5))
             have HCM6 := hid (hcm5.kept (hb6.block _ (by omega)) (Ag_b hb6 hM5))
             have HB6 := hid (HB5.out.trans (hb6.mono (by omega)))
             have hA6 := Ag_b (S := M) hb6 hM5
             have HQ1 := hid (PthU.agree hq1 hA6)
             have HQ2 := hid (IntU.agree hq2 hA6)
             have HQ3 := hid (IntU.agree hq3 hA6)
             have HM6 := hid (show ∀ b, M b → b < w6.heap.size from fun b hb => by have := hM5 b hb; omega)
             have HW6 := hid hw6
             have hB06 : B0 ≤ w6.heap.size := by omega
             have hmb6 : w0.heap.size < w6.heap.size := by omega
             have hwr6 : wr.heap.size ≤ w6.heap.size := by omega
             clear hcm5 hany hrk hb5 hb6 SP d0 how4 how5 hM5 hw6 hnb6 hq1 hq2 hq3 hA6 hz6
             apply_assumption
             go_wp2_with (first | rw [HW6.out] | (at_builtin; refine (wpList_append_ao _ rfl _ _ _ rfl B0 68 i0 _ 5 80 Tryz.underlying62 hi0 hz0 hz1 hz2 rfl (by omega) u9 n cs rfl (how6.alloc _) (some ⟨w6.heap.size, 0, none⟩) 1 1 [.slice ap2 x.p.length cp2, .bool x.had, .bool x.has, .slice ao2 x.old.length co2, .slice an2 x.new.length cn2] rfl rfl (fun h => by cases h) (fun ad had => by cases had; exact World.news_of_block (cs := #[.slice ap2 x.p.length cp2, .bool x.had, .bool x.has, .slice ao2 x.old.length co2, .slice an2 x.new.length cn2]) (t := 68) (fr := (0, 0)) (heap_alloc_new _ _)) (by simp [Value.oneCell']) (by unfold maxLen; omega) (by omega) (by simp; omega) ?_); intro a9 c9 w9 hown9 hgrow9 hat9))
             go_roundw
             case rel =>
              have hg9 := hgrow9.size
              simp only [World.size_alloc] at hg9
              obtain ⟨g9, cap9, he9, hgb9, hlt9⟩ := hown9.form (by omega)
              cases he9
              have hat := hat9 g9 rfl
              simp only [World.size_alloc] at hat
              have hfar : ∀ b, b < w6.heap.size → u9.ownBlock ≠ some b → w9.heap[b]? = w6.heap[b]? := fun b h1 h2 => (hgrow9.block b (by simp; omega) (fun e => h2 e.symm)).trans (heap_alloc_old _ _ h1)
              have hA : Agree M w6 w9 := fun b hb => hfar b (HM6.out b hb) (HMM.out b hb).2.2
              refine ⟨k + 1, n + 1, M, _, by omega, by go_num, ?_, ?_, hown9, ?_, ?_, ?_, by omega, ?_⟩
              · have h1 := hnn.out
                have h2 := HRK2.out
                have h3 := List.length_filter_le (fun c => !(l.any fun a => decide (a.p = c.p))) (m.take k)
                rw [List.length_append] at h1
                have h4 : (remC l (m.take k)).length ≤ k := Nat.le_trans h3 (by rw [List.length_take]; omega)
                omega
              · rw [Hid, HRK2.out, ← List.append_assoc, List.length_append, ← hnn.out]; rfl
              · rw [HRK2.out, ← List.append_assoc]
                exact (lcsU HLC6.out hA).app (LCs.single ⟨ap2, cp2, ao2, co2, an2, cn2, rfl, PthU.agree HQ1.out hA, IntU.agree HQ2.out hA, IntU.agree HQ3.out hA⟩)
              · exact HCM6.out.kept (hfar _ hmb6 (fun e => by have := (HUL.out _ e).1; omega)) hA
              · intro b hb
                refine ⟨(HMM.out b hb).1, by have := HM6.out b hb; omega, fun e => ?_⟩
                have e' : g9 = b := by simpa [Value.ownBlock] using e
                subst e'
                rcases hat with h | h
                · exact (HMM.out _ hb).2.2 h
                · have := HM6.out _ hb; omega
              · exact (HB6.out.alloc (by omega) _).grown hgrow9 (by simp; omega) (fun b hb => by have := (HUL.out b hb).1; omega)
             case measure => simp [intOf]; omega
         · obtain rfl : k = m.length := by omega
           have hlt' : ¬ (m.length : Int) < (m.length : Int) := by omega
           have hnn2 := hnn.out
           rw [List.take_length, HRR.out] at hlc hnn2
           obtain ⟨L0, hL0⟩ : ∃ L0, K ++ R = L0 := ⟨_, rfl⟩
           have hao := HAO.out
           have hbd := HBD.out
           rw [hL0] at hlc hnn2 hao hbd
           subst hnn2
           clear hlt hk
           obtain ⟨w16, hw16⟩ : ∃ w16, w16 = wr := ⟨_, rfl⟩
           subst hw16
           obtain ⟨aO, cO, rfl, hcO, hcOm⟩ := owns_shape hown
           have hM16 : ∀ b, US M w16 b → b < w16.heap.size ∧ (Value.slice aO L0.length cO).ownBlock ≠ some b := fun b hb => ⟨(hM.out b hb.1).2.1, (hM.out b hb.1).2.2⟩
           have DE := hid (delC_any L0 aO cO B0 cs (US M w16) w16 hown hlc.out hM16 (by omega) (fun x hx => ⟨(hbd x hx).2.1, (hbd x hx).2.2⟩))
           have HAO2 := hid hao
           have HBD2 := hid hbd
           have HMM := hid hM.out
           have HB16 := hid HB.out
           have hlt16 := fun b hb => hown.lt b hb
           have HLT16 := hid hlt16
           clear hlc hnn hL0 hao hbd hcm hM hM16 hown hlt16 HB hml
           go_wp2_with fail
           refine DE.out.mono ?_
           rintro e w17 ⟨cs2, rfl, how17, hlc17, hg17⟩
           have hz17 := hg17.size
           obtain ⟨L1, hL1⟩ : ∃ L1, L0.filter (fun x => !nopC x) = L1 := ⟨_, rfl⟩
           have hao := HAO2.out
           rw [hL1] at how17 hlc17 hao ⊢
           have hl1 : L1.length ≤ 240 := by rw [← hL1]; exact Nat.le_trans (List.length_filter_le _ _) (by omega)
           have hb1 : ∀ x ∈ L1, x.p.length ≤ 1000 := fun x hx => (HBD2.out x (by rw [← hL1] at hx; exact (List.mem_filter.1 hx).1)).1
           have hA17 : Agree M w16 w17 := Agree.grown hg17 fun b hb => ⟨(HMM.out b hb).2.1, fun e => (HMM.out b hb).2.2 e⟩
           have hlcu := (hlc17.wide (US.agree hA17).2 : LCs rdCh (US M w17) w17 L1 cs2)
           have hB17 := HB16.out.grown hg17 (by omega) (fun b hb => by have := (HLT16.out b hb).1; omega)
           have hnd : (L1.map Ch.p).Nodup := by rw [← hao]; exact aft_nodup CKL.out.2 CKM.out.2
           have hE3 := HE2.out
           rw [hao] at hE3
           have SO := hid (sortC_any L1 _ B0 cs2 (US M w17) w17 how17 hlcu (fun b hb => ⟨by have := (HMM.out b hb.1).2.1; omega, fun e => (HMM.out b hb.1).2.2 ((ownBlock_len aO L0.length L1.length cO cO).trans e)⟩) hb1 (by omega))
           have HND := hid hnd
           have HE3 := hid hE3
           have HB17 := hid hB17
           have HAO3 := hid hao
           clear hL1 hao hb1 hA17 hlcu hB17 hnd hE3 how17 hlc17 hg17 DE
           by_cases h120 : 120 < L1.length
           · have h120' : (120 : Int) < (L1.length : Int) := by omega
             have hE4 := HE3.out
             rw [if_pos h120] at hE4
             have HE4 := hid hE4
             clear h120 hE4 SO
             apply_assumption
             go_wp2_with fail
             refine bodyPost_ret (v := .tuple #[.slice none 0 0, .int .i64 2]) (by simp [results, Tryz.results76, go_sem]) rfl ?_
             exact AftR.bad HE4.out (by omega) (HBc.out.trans (HB17.out.mono (by omega)))
           · have h120' : ¬ (120 : Int) < (L1.length : Int) := by omega
             have hE4 := HE3.out
             rw [if_neg h120] at hE4
             have HE4 := hid hE4
             clear h120 hE4
             apply_assumption
             go_wp2_with fail
             refine SO.out.mono ?_
             rintro e w18 ⟨rfl, L2, cs3, hp2, hs2, how18, hlc18, hg18⟩
             have hz18 := hg18.size
             have hLL := srtC_of_perm HND.out hp2 hs2
             have hll := hp2.length_eq
             have hA18 : Agree M w17 w18 := Agree.grown hg18 fun b hb => ⟨by have := (HMM.out b hb).2.1; omega, fun e => (HMM.out b hb).2.2 ((ownBlock_len aO L0.length L1.length cO cO).trans e)⟩
             have hlcu := (hlc18.wide (US.agree hA18).2 : LCs rdCh (US M w18) w18 L2 cs3)
             have hal : aftL l m = L2 := by rw [aftL, if_pos HE4.out, HAO3.out, hLL]
             have HAL := hid hal
             have HB18 := hid (HB17.out.grown hg18 (by omega) (fun b hb => by have := (HLT16.out b ((ownBlock_len aO L0.length L1.length cO cO).trans hb)).1; omega))
             have HM18 := hid (show ∀ b, M b → w.heap.size ≤ b ∧ b < w18.heap.size from fun b hb => ⟨by have := (HMM.out b hb).1; omega, by have := (HMM.out b hb).2.1; omega⟩)
             rw [← hll] at how18 ⊢
             have HOW18 := hid how18
             have HLC18 := hid hlcu
             clear hp2 hs2 hlc18 hg18 hLL hll hA18 hlcu hal how18 SO
             apply_assumption
             go_wp2_with fail
             refine bodyPost_ret (v := .tuple #[.slice aO L2.length cO, .int .i64 0]) (by simp [results, Tryz.results76, go_sem]) rfl ?_
             unfold AftR
             rw [HAL.out, HE4.out]
             refine ⟨aO, cO, rfl, ⟨cs3, SlC.wide (SlC.of_owns_u HOW18.out) (US.wide fun b hb => ⟨by have := hb.1; omega, hb.2⟩), lcsUw HLC18.out HM18.out⟩, HBc.out.trans (HB18.out.mono (by omega))⟩
end Go.Proofs.LF
