/- Parts of the proof of a law of layer 11 (file): LfW113. The conditions stand in each theorem. -/
import Derived.Test.YtadkpjgpefcphaaGreatDoorProg
import Derived.Test.YtadkpjgpefcphaaGreatDoorAfad
import Derived.Test.YtadkpjgpefcphaaGreatDoorAfap
import Derived.Test.YtadkpjgpefcphaaGreatDoorAfba
import Derived.Test.YtadkpjgpefcphaaGreatDoorAfbb
import Derived.Test.YtadkpjgpefcphaaGreatDoorAfbd
import Derived.Test.YtadkpjgpefcphaaGreatDoorAfbg
import Derived.Test.YtadkpjgpefcphaaGreatDoorAfbh
set_option linter.all false
set_option linter.unusedVariables false
set_option linter.unusedSimpArgs false
namespace Go.Proofs.LF
open Go.RowKit Go.Sort
set_option maxHeartbeats 4000000
set_option maxRecDepth 100000
attribute [local go_sem] bs_toList bs_size bs_get
def RfAfR (l m : List Ch) (S : Nat → Prop) (w : World) (e : Ending) (w' : World) : Prop :=
 ∃ v, e = .returned (.tuple #[v, .int .i64 (aftE l m)]) ∧ RowS rdCh 120 S w.heap.size w' v (aftL l m) ∧ Below w.heap.size w w'
theorem RfAfR.bad {l m : List Ch} {S : Nat → Prop} {w w' : World} {E : Int} (h : aftE l m = E) (h0 : E ≠ 0) (hb : Below w.heap.size w w') : RfAfR l m S w (.returned (.tuple #[.slice none 0 0, .int .i64 E])) w' := by
 subst h
 have h1 : aftL l m = [] := by rw [aftL, if_neg h0]
 exact ⟨_, rfl, by rw [h1]; exact RowS.nil _, hb⟩
theorem RefAfter_any (l m : List Ch) (al am : Option Addr) (cl cm : Nat) (S : Nat → Prop) (w : World) (hl : ChSl S w (.slice al l.length cl) l) (hm : ChSl S w (.slice am m.length cm) m) (hS : ∀ b, S b → b < w.heap.size) (ll : l.length ≤ 1000) (lm : m.length ≤ 1000) (sl : SmL3 l) (sm : SmL3 m) (okl : ckC l = 0) (okm : ckC m = 0) :
 Calls Tryz.prog 75 #[.slice al l.length cl, .slice am m.length cm] w (RfAfR l m S w) := by
 obtain ⟨i0, hi0, hz0, hz1, hz2⟩ := info_parts Tryz.info120'
 have hf := aft_ref okl okm
 have HF := hid hf
 obtain ⟨al', cl', ee, _, hcm, hat⟩ := LSl.at hl
 obtain ⟨rfl, rfl⟩ : al = al' ∧ cl = cl' := by cases ee; exact ⟨rfl, rfl⟩
 obtain ⟨am', cm', ee2, _, hcm2, hat2⟩ := LSl.at hm
 obtain ⟨rfl, rfl⟩ : am = am' ∧ cm = cm' := by cases ee2; exact ⟨rfl, rfl⟩
 have HAT := hid hat
 have HAT2 := hid hat2
 have HS := hid hS
 have SL := hid sl
 have SM := hid sm
 unfold maxLen at hcm hcm2
 clear hl hm hS sl sm okl okm ee ee2 hat hat2 hf
 go_enter Tryz.func75, Tryz.ntmps75
 go_wp2_with fail
 go_loopw [6, 7, 8] (fun v i j wr => ∃ (a b : Nat) (acc : List Ch), a ≤ l.length ∧ b ≤ m.length ∧ i = .int .i64 a ∧ j = .int .i64 b ∧ acc.length ≤ a + b ∧ Hid (RowS rdCh 120 S w.heap.size wr v acc) ∧ Hid (amr l m = (amr (l.drop a) (m.drop b)).map (acc ++ ·)) ∧ Hid (Below w.heap.size w wr)) (fun _ i j _ => l.length + m.length - ((intOf i).toNat + (intOf j).toNat))
 case atStart => exact ⟨0, 0, [], by omega, by omega, rfl, rfl, by simp, RowS.nil _, by rw [Hid]; simp, Below.refl _ _⟩
 case round =>
  obtain ⟨a, b, acc, ha, hb, rfl, rfl, hacc, HR, HK, HB⟩ := hrel
  have hzr := HB.out.size
  obtain ⟨vo, hvo⟩ : ∃ vo, vo = u6 := ⟨_, rfl⟩
  subst hvo
  by_cases hla : a < l.length
  · have hlai : (a : Int) < (l.length : Int) := by omega
    have hlan : ¬ (a : Int) = (l.length : Int) := by omega
    have hlab : ((a : Int) == (l.length : Int)) = false := by simp; omega
    obtain ⟨gx, ox, csx, rfl, hgx, ⟨apx, cpx, aox, cox, anx, cnx, rfl, hPx, hOx, hNx⟩, hclx⟩ := HAT.out a hla
    have hagx := Ag_b (S := S) HB.out HS.out
    have x0 := hagx.cell hgx (hclx 0 _ rfl)
    have x1 := hagx.cell hgx (hclx 1 _ rfl)
    have x2 := hagx.cell hgx (hclx 2 _ rfl)
    have x3 := hagx.cell hgx (hclx 3 _ rfl)
    have x4 := hagx.cell hgx (hclx 4 _ rfl)
    rw [Nat.add_zero] at x0
    simp only [← Nat.add_assoc] at x1 x2 x3 x4
    have hdx : l.drop a = l[a] :: l.drop (a + 1) := List.drop_eq_getElem_cons hla
    have hsmx := SL.out l[a] (List.getElem_mem hla)
    obtain ⟨x, hxx⟩ : ∃ x, l[a] = x := ⟨_, rfl⟩
    rw [hxx] at hPx hOx hNx x0 x1 x2 x3 x4 hdx hsmx
    have Px := hid (hPx.agree hagx)
    have Ox := hid (hOx.agree hagx)
    have Nx := hid (hNx.agree hagx)
    have HDx := hid hdx
    have HSMx := hid hsmx
    clear hclx hPx hOx hNx hagx hxx hdx hsmx
    by_cases hmb : b < m.length
    · have hmbi : (b : Int) < (m.length : Int) := by omega
      have hmbn : ¬ (b : Int) = (m.length : Int) := by omega
      have hmbb : ((b : Int) == (m.length : Int)) = false := by simp; omega
      obtain ⟨gy, oy, csy, rfl, hgy, ⟨apy, cpy, aoy, coy, any, cny, rfl, hPy, hOy, hNy⟩, hcly⟩ := HAT2.out b hmb
      have hagy := Ag_b (S := S) HB.out HS.out
      have y0 := hagy.cell hgy (hcly 0 _ rfl)
      have y1 := hagy.cell hgy (hcly 1 _ rfl)
      have y2 := hagy.cell hgy (hcly 2 _ rfl)
      have y3 := hagy.cell hgy (hcly 3 _ rfl)
      have y4 := hagy.cell hgy (hcly 4 _ rfl)
      rw [Nat.add_zero] at y0
      simp only [← Nat.add_assoc] at y1 y2 y3 y4
      have hdy : m.drop b = m[b] :: m.drop (b + 1) := List.drop_eq_getElem_cons hmb
      have hsmy := SM.out m[b] (List.getElem_mem hmb)
      obtain ⟨y, hxy⟩ : ∃ y, m[b] = y := ⟨_, rfl⟩
      rw [hxy] at hPy hOy hNy y0 y1 y2 y3 y4 hdy hsmy
      have Py := hid (hPy.agree hagy)
      have Oy := hid (hOy.agree hagy)
      have Ny := hid (hNy.agree hagy)
      have HDy := hid hdy
      have HSMy := hid hsmy
      clear hcly hPy hOy hNy hagy hxy hdy hsmy
      have bx0 : gx < wr.heap.size := by have := HS.out gx hgx; omega
      have by0 : gy < wr.heap.size := by have := HS.out gy hgy; omega
      have hS0 : wr.drew.cell? ⟨gx, ox + a * 5, none⟩ = some (.slice apx x.p.length cpx) ∧ wr.drew.cell? ⟨gy, oy + b * 5, none⟩ = some (.slice apy y.p.length cpy) := ⟨x0, y0⟩
      have HS0 := hid hS0
      have AH := hid (Ahead_any x.p y.p apx apy cpx cpy S wr.drew Px.out Py.out (fun q hq => by have := HS.out q hq; show q < wr.heap.size; omega) (by have := HSMx.out.1; omega) (by have := HSMy.out.1; omega))
      have hdec : amr (l.drop a) (m.drop b) = if cmpP x.p y.p < 0 then (amr (l.drop (a + 1)) (m.drop b)).map (x :: ·) else if cmpP y.p x.p < 0 then (amr (l.drop a) (m.drop (b + 1))).map (y :: ·) else if clsC x y then none else if nopC (bthC x y) then amr (l.drop (a + 1)) (m.drop (b + 1)) else (amr (l.drop (a + 1)) (m.drop (b + 1))).map (bthC x y :: ·) := by rw [HDx.out, HDy.out, amr]
      have HDEC := hid hdec
      clear hdec hS0
      obtain ⟨d1, hd1⟩ : ∃ d, decide (cmpP x.p y.p < 0) = d := ⟨_, rfl⟩
      have AH' := AH.out
      rw [hd1] at AH'
      have AH1 := hid AH'
      have HD1 := hid hd1
      clear AH' AH hd1
      go_upto_region 4 with fail
      refine (wpIn_wide (n := 9)).1 ?_
      refine region_held (fun w' : World => w'.cell? ⟨gx, ox + a * 5, none⟩ = some (.slice apx x.p.length cpx) ∧ w'.cell? ⟨gy, oy + b * 5, none⟩ = some (.slice apy y.p.length cpy)) (by kernel_rfl) ?_
      have hS1 := HS0.out
      refine tkY 0 21 (.int .i64 b) rfl rfl hS1 (fun w' hs => ?_) ?_
      · go_simp
      refine tkY 1 22 (.slice (some ⟨gy, oy, none⟩) m.length cm) rfl rfl hS1 (fun w' hs => ?_) ?_
      · go_simp
      refine tkY 2 23 (.int .i64 m.length) rfl rfl hS1 (fun w' hs => ?_) ?_
      · go_simp
      refine tkY 3 24 (.bool false) rfl rfl hS1 (fun w' hs => ?_) ?_
      · go_simp
      refine tkY 4 25 (.bool false) rfl rfl hS1 (fun w' hs => ?_) ?_
      · go_simp
      refine tkY 5 26 (.int .i64 a) rfl rfl hS1 (fun w' hs => ?_) ?_
      · go_simp
      refine tkY 6 27 (.slice (some ⟨gx, ox, none⟩) l.length cl) rfl rfl hS1 (fun w' hs => ?_) ?_
      · go_simp
      refine tkY 7 28 (.int .i64 l.length) rfl rfl hS1 (fun w' hs => ?_) ?_
      · go_simp
      refine tkY 8 29 (.bool true) rfl rfl hS1 (fun w' hs => ?_) ?_
      · go_simp
      refine tkY 9 30 (.bool true) rfl rfl hS1 (fun w' hs => ?_) ?_
      · go_simp
      refine tkY 10 31 (.slice (some ⟨gx, ox, none⟩) l.length cl) rfl rfl hS1 (fun w' hs => ?_) ?_
      · go_simp
      refine tkY 11 32 (.int .i64 a) rfl rfl hS1 (fun w' hs => ?_) ?_
      · go_simp
      refine tkY 12 33 (.pointer (some ⟨gx, ox + a * 5, none⟩)) rfl rfl hS1 (fun w' hs => ?_) ?_
      · go_simp
      refine tkY 13 34 (.pointer (some ⟨gx, ox + a * 5, none⟩)) rfl rfl hS1 (fun w' hs => ?_) ?_
      · go_simp
      refine tkY 14 35 (.slice apx x.p.length cpx) rfl rfl hS1 (fun w' hs => ?_) ?_
      · obtain ⟨y0, y1⟩ := hs
        go_simp
      refine tkY 15 36 (.slice (some ⟨gy, oy, none⟩) m.length cm) rfl rfl hS1 (fun w' hs => ?_) ?_
      · go_simp
      refine tkY 16 37 (.int .i64 b) rfl rfl hS1 (fun w' hs => ?_) ?_
      · go_simp
      refine tkY 17 38 (.pointer (some ⟨gy, oy + b * 5, none⟩)) rfl rfl hS1 (fun w' hs => ?_) ?_
      · go_simp
      refine tkY 18 39 (.pointer (some ⟨gy, oy + b * 5, none⟩)) rfl rfl hS1 (fun w' hs => ?_) ?_
      · go_simp
      refine tkY 19 40 (.slice apy y.p.length cpy) rfl rfl hS1 (fun w' hs => ?_) ?_
      · obtain ⟨y0, y1⟩ := hs
        go_simp
      refine AnyH_one (i := 20) (by kernel_rfl) rfl (by kernel_rfl) (fun K hK => ?_)
      go_simp
      refine ⟨trivial, (callsIn_wide.2 AH1.out).mono ?_⟩
      rintro e w1 ⟨rfl, hb1⟩
      have hS2 : w1.cell? ⟨gx, ox + a * 5, none⟩ = some (.slice apx x.p.length cpx) ∧ w1.cell? ⟨gy, oy + b * 5, none⟩ = some (.slice apy y.p.length cpy) := ⟨bc_ hb1 bx0 hS1.1, bc_ hb1 by0 hS1.2⟩
      refine hK _ _ ⟨hS2, ?_⟩
      clear hK
      have hu1 : wr.heap.size ≤ w1.heap.size := hb1.size
      have B1 := hid (show Below wr.heap.size wr w1 from (Below.refl _ _).drew.trans hb1)
      clear hb1
      cases d1
      rotate_left
      · refine tkY 21 42 (.bool true) rfl rfl hS2 (fun w' hs => ?_) ?_
        · go_simp
        refine tkY 22 43 (.bool true) rfl rfl hS2 (fun w' hs => ?_) ?_
        · go_simp
        refine AnyH_done (by kernel_rfl) ?_
        go_simp
        clear hS1 hS2
        have x0w := bc_ B1.out bx0 x0
        have x1w := bc_ B1.out bx0 x1
        have x2w := bc_ B1.out bx0 x2
        have x3w := bc_ B1.out bx0 x3
        have x4w := bc_ B1.out bx0 x4
        clear x0 x1 x2 x3 x4
        have HK2 : Hid (amr l m = (amr (l.drop (a + 1)) (m.drop b)).map (acc ++ [x] ++ ·)) := by
         have hc : cmpP x.p y.p < 0 := by simpa using HD1.out
         rw [Hid, HK.out, HDEC.out, if_pos hc]
         cases amr (l.drop (a + 1)) (m.drop b) <;> simp
        have BW1 := hid (HB.out.trans (B1.out.mono hzr))
        have R1 := hid (HR.out.below (fun q hq => by have := HS.out q hq; omega) B1.out)
        go_wp2_with (at_builtin; (refine (wpList_push (r := rdCh) (e := 120) (S := S) (lo := w.heap.size) rfl _ _ _ rfl i0 _ 80 Tryz.underlying109 hi0 hz0 hz1 hz2 rfl (by omega) rfl (RowS.below R1.out (by have := BW1.out.size; exact fun q hq => by have := HS.out q hq; omega) ((Below.refl _ _).alloc (nl_ _) _)) HS.out ?_ x [.slice apx x.p.length cpx, .bool x.had, .bool x.has, .slice aox x.old.length cox, .slice anx x.new.length cnx] w1.heap.size rfl ?_ (by have hag := Ag_b (S := S) ((B1.out).alloc hu1 (.cells #[.slice apx x.p.length cpx, .bool x.had, .bool x.has, .slice aox x.old.length cox, .slice anx x.new.length cnx] 120)) (fun q hq => by have := HS.out q hq; omega); exact ⟨apx, cpx, aox, cox, anx, cnx, rfl, Px.out.agree hag, Ox.out.agree hag, Nx.out.agree hag⟩) ?_ ?_ ?_); (have := BW1.out.size; simp; omega); exact heap_alloc_new _ _; (unfold maxLen; omega); omega; intro VN WN HRn HGn HTn HLn); have BN := hid (HLn _ (BW1.out.alloc (by have := BW1.out.size; omega) _)); have RN := hid HRn; clear HRn HGn HTn HLn)
        go_roundw
        case rel => exact ⟨a + 1, b, acc ++ [x], by omega, by omega, by go_num, by go_num, by simp; omega, RN, HK2, BN⟩
        case measure => simp [intOf]; omega
      · refine tkY 21 42 (.bool false) rfl rfl hS2 (fun w' hs => ?_) ?_
        · go_simp
        refine tkY 22 43 (.bool false) rfl rfl hS2 (fun w' hs => ?_) ?_
        · go_simp
        refine AnyH_done (by kernel_rfl) ?_
        go_simp
        have AH2 := hid (Ahead_any y.p x.p apy apx cpy cpx S w1.drew (Py.out.agree (Ag_b B1.out.drew (fun q hq => by have := HS.out q hq; omega))) (Px.out.agree (Ag_b B1.out.drew (fun q hq => by have := HS.out q hq; omega))) (fun q hq => by have := HS.out q hq; show q < w1.heap.size; omega) (by have := HSMy.out.1; omega) (by have := HSMx.out.1; omega))
        obtain ⟨d2, hd2⟩ : ∃ d, decide (cmpP y.p x.p < 0) = d := ⟨_, rfl⟩
        have AH' := AH2.out
        rw [hd2] at AH'
        have AH3 := hid AH'
        have HD2 := hid hd2
        have HS3 := hid (show w1.drew.cell? ⟨gx, ox + a * 5, none⟩ = some (.slice apx x.p.length cpx) ∧ w1.drew.cell? ⟨gy, oy + b * 5, none⟩ = some (.slice apy y.p.length cpy) from hS2)
        have bx1 : gx < w1.heap.size := by omega
        have by1 : gy < w1.heap.size := by omega
        clear AH' AH2 hd2 hS1 hS2
        go_upto_region 7 with fail
        refine (wpIn_wide (n := 9)).1 ?_
        refine region_held (fun w' : World => w'.cell? ⟨gx, ox + a * 5, none⟩ = some (.slice apx x.p.length cpx) ∧ w'.cell? ⟨gy, oy + b * 5, none⟩ = some (.slice apy y.p.length cpy)) (by kernel_rfl) ?_
        have hS3 := HS3.out
        refine tkY 0 53 (.int .i64 a) rfl rfl hS3 (fun w' hs => ?_) ?_
        · go_simp
        refine tkY 1 54 (.slice (some ⟨gx, ox, none⟩) l.length cl) rfl rfl hS3 (fun w' hs => ?_) ?_
        · go_simp
        refine tkY 2 55 (.int .i64 l.length) rfl rfl hS3 (fun w' hs => ?_) ?_
        · go_simp
        refine tkY 3 56 (.bool false) rfl rfl hS3 (fun w' hs => ?_) ?_
        · go_simp
        refine tkY 4 57 (.bool false) rfl rfl hS3 (fun w' hs => ?_) ?_
        · go_simp
        refine tkY 5 58 (.slice (some ⟨gy, oy, none⟩) m.length cm) rfl rfl hS3 (fun w' hs => ?_) ?_
        · go_simp
        refine tkY 6 59 (.int .i64 b) rfl rfl hS3 (fun w' hs => ?_) ?_
        · go_simp
        refine tkY 7 60 (.pointer (some ⟨gy, oy + b * 5, none⟩)) rfl rfl hS3 (fun w' hs => ?_) ?_
        · go_simp
        refine tkY 8 61 (.pointer (some ⟨gy, oy + b * 5, none⟩)) rfl rfl hS3 (fun w' hs => ?_) ?_
        · go_simp
        refine tkY 9 62 (.slice apy y.p.length cpy) rfl rfl hS3 (fun w' hs => ?_) ?_
        · obtain ⟨y0, y1⟩ := hs
          go_simp
        refine tkY 10 63 (.slice (some ⟨gx, ox, none⟩) l.length cl) rfl rfl hS3 (fun w' hs => ?_) ?_
        · go_simp
        refine tkY 11 64 (.int .i64 a) rfl rfl hS3 (fun w' hs => ?_) ?_
        · go_simp
        refine tkY 12 65 (.pointer (some ⟨gx, ox + a * 5, none⟩)) rfl rfl hS3 (fun w' hs => ?_) ?_
        · go_simp
        refine tkY 13 66 (.pointer (some ⟨gx, ox + a * 5, none⟩)) rfl rfl hS3 (fun w' hs => ?_) ?_
        · go_simp
        refine tkY 14 67 (.slice apx x.p.length cpx) rfl rfl hS3 (fun w' hs => ?_) ?_
        · obtain ⟨y0, y1⟩ := hs
          go_simp
        refine AnyH_one (i := 15) (by kernel_rfl) rfl (by kernel_rfl) (fun K hK => ?_)
        go_simp
        refine ⟨trivial, (callsIn_wide.2 AH3.out).mono ?_⟩
        rintro e w2 ⟨rfl, hb2⟩
        have hS4 : w2.cell? ⟨gx, ox + a * 5, none⟩ = some (.slice apx x.p.length cpx) ∧ w2.cell? ⟨gy, oy + b * 5, none⟩ = some (.slice apy y.p.length cpy) := ⟨bc_ hb2 bx1 hS3.1, bc_ hb2 by1 hS3.2⟩
        refine hK _ _ ⟨hS4, ?_⟩
        clear hK
        have hu2 : w1.heap.size ≤ w2.heap.size := hb2.size
        have B2 := hid (B1.out.trans ((show Below w1.heap.size w1 w2 from (Below.refl _ _).drew.trans hb2).mono hu1))
        have BW2 := hid (HB.out.trans (B2.out.mono hzr))
        have R2 := hid (HR.out.below (fun q hq => by have := HS.out q hq; omega) B2.out)
        clear hb2
        cases d2
        rotate_left
        · refine tkY 16 69 (.bool true) rfl rfl hS4 (fun w' hs => ?_) ?_
          · go_simp
          refine AnyH_done (by kernel_rfl) ?_
          go_simp
          clear hS3 hS4
          have y0w := bc_ B2.out by0 y0
          have y1w := bc_ B2.out by0 y1
          have y2w := bc_ B2.out by0 y2
          have y3w := bc_ B2.out by0 y3
          have y4w := bc_ B2.out by0 y4
          clear y0 y1 y2 y3 y4
          have HK2 : Hid (amr l m = (amr (l.drop a) (m.drop (b + 1))).map (acc ++ [y] ++ ·)) := by
           have hc : ¬ cmpP x.p y.p < 0 := by simpa using HD1.out
           have hc2 : cmpP y.p x.p < 0 := by simpa using HD2.out
           rw [Hid, HK.out, HDEC.out, if_neg hc, if_pos hc2]
           cases amr (l.drop a) (m.drop (b + 1)) <;> simp
          go_wp2_with (at_builtin; (refine (wpList_push (r := rdCh) (e := 120) (S := S) (lo := w.heap.size) rfl _ _ _ rfl i0 _ 80 Tryz.underlying109 hi0 hz0 hz1 hz2 rfl (by omega) rfl (RowS.below R2.out (by have := BW2.out.size; exact fun q hq => by have := HS.out q hq; omega) ((Below.refl _ _).alloc (nl_ _) _)) HS.out ?_ y [.slice apy y.p.length cpy, .bool y.had, .bool y.has, .slice aoy y.old.length coy, .slice any y.new.length cny] w2.heap.size rfl ?_ (by have hag := Ag_b (S := S) ((B2.out).alloc (by omega) (.cells #[.slice apy y.p.length cpy, .bool y.had, .bool y.has, .slice aoy y.old.length coy, .slice any y.new.length cny] 120)) (fun q hq => by have := HS.out q hq; omega); exact ⟨apy, cpy, aoy, coy, any, cny, rfl, Py.out.agree hag, Oy.out.agree hag, Ny.out.agree hag⟩) ?_ ?_ ?_); (have := BW2.out.size; simp; omega); exact heap_alloc_new _ _; (unfold maxLen; omega); omega; intro VN WN HRn HGn HTn HLn); have BN := hid (HLn _ (BW2.out.alloc (by have := BW2.out.size; omega) _)); have RN := hid HRn; clear HRn HGn HTn HLn)
          go_roundw
          case rel => exact ⟨a, b + 1, acc ++ [y], by omega, by omega, by go_num, by go_num, by simp; omega, RN, HK2, BN⟩
          case measure => simp [intOf]; omega
        · refine tkY 16 69 (.bool false) rfl rfl hS4 (fun w' hs => ?_) ?_
          · go_simp
          refine AnyH_done (by kernel_rfl) ?_
          go_simp
          clear hS3 hS4
          have x0z := bc_ B2.out bx0 x0
          have x1z := bc_ B2.out bx0 x1
          have x2z := bc_ B2.out bx0 x2
          have x3z := bc_ B2.out bx0 x3
          have x4z := bc_ B2.out bx0 x4
          clear x0 x1 x2 x3 x4
          have y0z := bc_ B2.out by0 y0
          have y1z := bc_ B2.out by0 y1
          have y2z := bc_ B2.out by0 y2
          have y3z := bc_ B2.out by0 y3
          have y4z := bc_ B2.out by0 y4
          clear y0 y1 y2 y3 y4
          have hK3 : amr (l.drop a) (m.drop b) = if clsC x y then none else if nopC (bthC x y) then amr (l.drop (a + 1)) (m.drop (b + 1)) else (amr (l.drop (a + 1)) (m.drop (b + 1))).map (bthC x y :: ·) := by
           have hc : ¬ cmpP x.p y.p < 0 := by simpa using HD1.out
           have hc2 : ¬ cmpP y.p x.p < 0 := by simpa using HD2.out
           rw [HDEC.out, if_neg hc, if_neg hc2]
          have HK3 := hid hK3
          have HS5 := hid (show w2.drew.cell? ⟨gx, ox + a * 5, none⟩ = some (.slice apx x.p.length cpx) ∧ w2.drew.cell? ⟨gx, ox + a * 5 + 1, none⟩ = some (.bool x.had) ∧ w2.drew.cell? ⟨gx, ox + a * 5 + 2, none⟩ = some (.bool x.has) ∧ w2.drew.cell? ⟨gx, ox + a * 5 + 3, none⟩ = some (.slice aox x.old.length cox) ∧ w2.drew.cell? ⟨gx, ox + a * 5 + 4, none⟩ = some (.slice anx x.new.length cnx) ∧ w2.drew.cell? ⟨gy, oy + b * 5, none⟩ = some (.slice apy y.p.length cpy) ∧ w2.drew.cell? ⟨gy, oy + b * 5 + 1, none⟩ = some (.bool y.had) ∧ w2.drew.cell? ⟨gy, oy + b * 5 + 2, none⟩ = some (.bool y.has) ∧ w2.drew.cell? ⟨gy, oy + b * 5 + 3, none⟩ = some (.slice aoy y.old.length coy) ∧ w2.drew.cell? ⟨gy, oy + b * 5 + 4, none⟩ = some (.slice any y.new.length cny) from ⟨x0z, x1z, x2z, x3z, x4z, y0z, y1z, y2z, y3z, y4z⟩)
          have c10 : ∀ W, Below w2.heap.size w2 W → W.cell? ⟨gx, ox + a * 5, none⟩ = some (.slice apx x.p.length cpx) ∧ W.cell? ⟨gx, ox + a * 5 + 1, none⟩ = some (.bool x.had) ∧ W.cell? ⟨gx, ox + a * 5 + 2, none⟩ = some (.bool x.has) ∧ W.cell? ⟨gx, ox + a * 5 + 3, none⟩ = some (.slice aox x.old.length cox) ∧ W.cell? ⟨gx, ox + a * 5 + 4, none⟩ = some (.slice anx x.new.length cnx) ∧ W.cell? ⟨gy, oy + b * 5, none⟩ = some (.slice apy y.p.length cpy) ∧ W.cell? ⟨gy, oy + b * 5 + 1, none⟩ = some (.bool y.had) ∧ W.cell? ⟨gy, oy + b * 5 + 2, none⟩ = some (.bool y.has) ∧ W.cell? ⟨gy, oy + b * 5 + 3, none⟩ = some (.slice aoy y.old.length coy) ∧ W.cell? ⟨gy, oy + b * 5 + 4, none⟩ = some (.slice any y.new.length cny) := fun W hb => ⟨bc_ hb (by omega) x0z, bc_ hb (by omega) x1z, bc_ hb (by omega) x2z, bc_ hb (by omega) x3z, bc_ hb (by omega) x4z, bc_ hb (by omega) y0z, bc_ hb (by omega) y1z, bc_ hb (by omega) y2z, bc_ hb (by omega) y3z, bc_ hb (by omega) y4z⟩
          have C10 := hid c10
          clear c10 hK3 x0z x1z x2z x3z x4z y0z y1z y2z y3z y4z
          go_upto_region 10 with fail
          go_cut [9, 10] from 79 to 86 (fun v9 v10 wx => ∃ p q, v9 = .pointer (some ⟨p, 0, none⟩) ∧ v10 = .pointer (some ⟨q, 0, none⟩) ∧ Hid (wx.heap[p]? = some (.cells #[.slice apx x.p.length cpx, .bool x.had, .bool x.has, .slice aox x.old.length cox, .slice anx x.new.length cnx] 120 (0, 0)) ∧ wx.heap[q]? = some (.cells #[.slice apy y.p.length cpy, .bool y.had, .bool y.has, .slice aoy y.old.length coy, .slice any y.new.length cny] 120 (0, 0))) ∧ Hid (Below w2.heap.size w2 wx))
          case first =>
           refine (wpIn_wide (n := 9)).1 ?_
           refine region_held (fun w' : World => w'.cell? ⟨gx, ox + a * 5, none⟩ = some (.slice apx x.p.length cpx) ∧ w'.cell? ⟨gx, ox + a * 5 + 1, none⟩ = some (.bool x.had) ∧ w'.cell? ⟨gx, ox + a * 5 + 2, none⟩ = some (.bool x.has) ∧ w'.cell? ⟨gx, ox + a * 5 + 3, none⟩ = some (.slice aox x.old.length cox) ∧ w'.cell? ⟨gx, ox + a * 5 + 4, none⟩ = some (.slice anx x.new.length cnx) ∧ w'.cell? ⟨gy, oy + b * 5, none⟩ = some (.slice apy y.p.length cpy) ∧ w'.cell? ⟨gy, oy + b * 5 + 1, none⟩ = some (.bool y.had) ∧ w'.cell? ⟨gy, oy + b * 5 + 2, none⟩ = some (.bool y.has) ∧ w'.cell? ⟨gy, oy + b * 5 + 3, none⟩ = some (.slice aoy y.old.length coy) ∧ w'.cell? ⟨gy, oy + b * 5 + 4, none⟩ = some (.slice any y.new.length cny)) (by kernel_rfl) ?_
           have hS5 := HS5.out
           refine tkY 0 79 (.slice (some ⟨gx, ox, none⟩) l.length cl) rfl rfl hS5 (fun w' hs => ?_) ?_
           · go_simp
           refine tkY 1 80 (.int .i64 a) rfl rfl hS5 (fun w' hs => ?_) ?_
           · go_simp
           refine tkY 2 81 (.pointer (some ⟨gx, ox + a * 5, none⟩)) rfl rfl hS5 (fun w' hs => ?_) ?_
           · go_simp
           refine tkY 3 82 (.agg #[.slice apx x.p.length cpx, .bool x.had, .bool x.has, .slice aox x.old.length cox, .slice anx x.new.length cnx]) rfl rfl hS5 (fun w' hs => ?_) ?_
           · obtain ⟨y0, y1, y2, y3, y4, z0, z1, z2, z3, z4⟩ := hs
             go_simp
           refine tkY 4 83 (.slice (some ⟨gy, oy, none⟩) m.length cm) rfl rfl hS5 (fun w' hs => ?_) ?_
           · go_simp
           refine tkY 5 84 (.int .i64 b) rfl rfl hS5 (fun w' hs => ?_) ?_
           · go_simp
           refine tkY 6 85 (.pointer (some ⟨gy, oy + b * 5, none⟩)) rfl rfl hS5 (fun w' hs => ?_) ?_
           · go_simp
           refine tkY 7 86 (.agg #[.slice apy y.p.length cpy, .bool y.had, .bool y.has, .slice aoy y.old.length coy, .slice any y.new.length cny]) rfl rfl hS5 (fun w' hs => ?_) ?_
           · obtain ⟨y0, y1, y2, y3, y4, z0, z1, z2, z3, z4⟩ := hs
             go_simp
           refine AnyH_two (i := 8) (j := 9) (by kernel_rfl) rfl rfl (by kernel_rfl) (by kernel_rfl) (fun K hK => ?_) (fun K hK => ?_)
           · go_simp
             refine hK _ _ ⟨C10.out _ (((Below.refl _ _).alloc (nl_ _) _).drew), ?_⟩
             clear hK
             refine AnyH_one (i := 9) (by kernel_rfl) rfl (by kernel_rfl) (fun K hK => ?_)
             go_simp
             refine hK _ _ ⟨C10.out _ ((((Below.refl _ _).alloc (nl_ _) _).alloc (by simp) _).drew), ?_⟩
             clear hK
             refine AnyH_one (i := 10) (by kernel_rfl) rfl (by kernel_rfl) (fun K hK => ?_)
             go_simp
             refine hK _ _ ⟨C10.out _ ((((Below.refl _ _).alloc (nl_ _) _).alloc (by simp) _).drew), ?_⟩
             clear hK
             refine AnyH_one (i := 11) (by kernel_rfl) rfl (by kernel_rfl) (fun K hK => ?_)
             go_simp
             refine hK _ _ ⟨C10.out _ ((((Below.refl _ _).alloc (nl_ _) _).alloc (by simp) _).drew), ?_⟩
             clear hK
             refine AnyH_done (by kernel_rfl) ?_
             go_simp
             clear hS5
             go_wp2_with fail
             obtain ⟨WA, hWA⟩ : ∃ WA, w2.alloc (.cells #[.slice apx x.p.length cpx, .bool x.had, .bool x.has, .slice aox x.old.length cox, .slice anx x.new.length cnx] 120) = WA := ⟨_, rfl⟩
             obtain ⟨WB, hWB⟩ : ∃ WB, WA.alloc (.cells #[.slice apy y.p.length cpy, .bool y.had, .bool y.has, .slice aoy y.old.length coy, .slice any y.new.length cny] 120) = WB := ⟨_, rfl⟩
             have zA : WA.heap.size = w2.heap.size + 1 := by rw [← hWA]; simp
             have kA : WA.heap[w2.heap.size]? = some (.cells #[.slice apx x.p.length cpx, .bool x.had, .bool x.has, .slice aox x.old.length cox, .slice anx x.new.length cnx] 120 (0, 0)) := by rw [← hWA]; exact heap_alloc_new _ _
             have kB : WB.heap[w2.heap.size + 1]? = some (.cells #[.slice apy y.p.length cpy, .bool y.had, .bool y.has, .slice aoy y.old.length coy, .slice any y.new.length cny] 120 (0, 0)) := by rw [← hWB, ← zA]; exact heap_alloc_new _ _
             have bAB : Below WA.heap.size WA WB := by rw [← hWB]; exact (Below.refl _ _).alloc (nl_ _) _
             have kA2 : WB.heap[w2.heap.size]? = some (.cells #[.slice apx x.p.length cpx, .bool x.had, .bool x.has, .slice aox x.old.length cox, .slice anx x.new.length cnx] 120 (0, 0)) := (bAB.block _ (by omega)).trans kA
             have bW : Below w2.heap.size w2 WB.drew := by rw [← hWB, ← hWA]; exact ((((Below.refl _ _).alloc (nl_ _) _).alloc (by simp) _).drew)
             rw [hWA, hWB]
             go_meet
             case rel => exact ⟨w2.heap.size, w2.heap.size + 1, rfl, rfl, hid (⟨kA2, kB⟩), hid bW⟩
           · go_simp
             refine hK _ _ ⟨C10.out _ (((Below.refl _ _).alloc (nl_ _) _).drew), ?_⟩
             clear hK
             refine AnyH_one (i := 8) (by kernel_rfl) rfl (by kernel_rfl) (fun K hK => ?_)
             go_simp
             refine hK _ _ ⟨C10.out _ ((((Below.refl _ _).alloc (nl_ _) _).alloc (by simp) _).drew), ?_⟩
             clear hK
             refine AnyH_one (i := 10) (by kernel_rfl) rfl (by kernel_rfl) (fun K hK => ?_)
             go_simp
             refine hK _ _ ⟨C10.out _ ((((Below.refl _ _).alloc (nl_ _) _).alloc (by simp) _).drew), ?_⟩
             clear hK
             refine AnyH_one (i := 11) (by kernel_rfl) rfl (by kernel_rfl) (fun K hK => ?_)
             go_simp
             refine hK _ _ ⟨C10.out _ ((((Below.refl _ _).alloc (nl_ _) _).alloc (by simp) _).drew), ?_⟩
             clear hK
             refine AnyH_done (by kernel_rfl) ?_
             go_simp
             clear hS5
             go_wp2_with fail
             obtain ⟨WA, hWA⟩ : ∃ WA, w2.alloc (.cells #[.slice apy y.p.length cpy, .bool y.had, .bool y.has, .slice aoy y.old.length coy, .slice any y.new.length cny] 120) = WA := ⟨_, rfl⟩
             obtain ⟨WB, hWB⟩ : ∃ WB, WA.alloc (.cells #[.slice apx x.p.length cpx, .bool x.had, .bool x.has, .slice aox x.old.length cox, .slice anx x.new.length cnx] 120) = WB := ⟨_, rfl⟩
             have zA : WA.heap.size = w2.heap.size + 1 := by rw [← hWA]; simp
             have kA : WA.heap[w2.heap.size]? = some (.cells #[.slice apy y.p.length cpy, .bool y.had, .bool y.has, .slice aoy y.old.length coy, .slice any y.new.length cny] 120 (0, 0)) := by rw [← hWA]; exact heap_alloc_new _ _
             have kB : WB.heap[w2.heap.size + 1]? = some (.cells #[.slice apx x.p.length cpx, .bool x.had, .bool x.has, .slice aox x.old.length cox, .slice anx x.new.length cnx] 120 (0, 0)) := by rw [← hWB, ← zA]; exact heap_alloc_new _ _
             have bAB : Below WA.heap.size WA WB := by rw [← hWB]; exact (Below.refl _ _).alloc (nl_ _) _
             have kA2 : WB.heap[w2.heap.size]? = some (.cells #[.slice apy y.p.length cpy, .bool y.had, .bool y.has, .slice aoy y.old.length coy, .slice any y.new.length cny] 120 (0, 0)) := (bAB.block _ (by omega)).trans kA
             have bW : Below w2.heap.size w2 WB.drew := by rw [← hWB, ← hWA]; exact ((((Below.refl _ _).alloc (nl_ _) _).alloc (by simp) _).drew)
             rw [hWA, hWB]
             go_meet
             case rel => exact ⟨w2.heap.size + 1, w2.heap.size, rfl, rfl, hid (⟨kB, kA2⟩), hid bW⟩
          case rest =>
           obtain ⟨p, q, rfl, rfl, HPQ, HBP⟩ := hcut
           obtain ⟨w3, hw3⟩ : ∃ v, v = wc := ⟨_, rfl⟩
           subst hw3
           have hu3 := HBP.out.size
           have B3 := hid (B2.out.trans (HBP.out.mono (by omega)))
           have BW3 := hid (HB.out.trans (B3.out.mono hzr))
           have R3 := hid (HR.out.below (fun q hq => by have := HS.out q hq; omega) B3.out)
           have hp3 : p < w3.heap.size := (Array.getElem?_eq_some_iff.1 HPQ.out.1).1
           have hq3 : q < w3.heap.size := (Array.getElem?_eq_some_iff.1 HPQ.out.2).1
           have ONx := hid (Nx.out.agree (Ag_b B3.out (fun q hq => by have := HS.out q hq; omega)))
           have OOx := hid (Ox.out.agree (Ag_b B3.out (fun q hq => by have := HS.out q hq; omega)))
           have ONy := hid (Ny.out.agree (Ag_b B3.out (fun q hq => by have := HS.out q hq; omega)))
           have OOy := hid (Oy.out.agree (Ag_b B3.out (fun q hq => by have := HS.out q hq; omega)))
           have PPx := hid (Px.out.agree (Ag_b B3.out (fun q hq => by have := HS.out q hq; omega)))
           have HS3w := hid (show ∀ b, S b → b < w3.heap.size from fun b hb => by have := HS.out b hb; omega)
           clear HS5 C10 HBP
           go_upto_region 11 with fail
           go_cut [99] from 87 to 98 (fun v wx => v = .bool (clsC x y) ∧ Below w3.heap.size w3 wx)
           case first =>
            have c2x := cg_ HPQ.out.1 (k := 2) (v := .bool x.has) rfl
            have c4x := cg_ HPQ.out.1 (k := 4) (v := .slice anx x.new.length cnx) rfl
            have c1y := cg_ HPQ.out.2 (k := 1) (v := .bool y.had) rfl
            have c3y := cg_ HPQ.out.2 (k := 3) (v := .slice aoy y.old.length coy) rfl
            have AL1 := hid (alikeI_any x.new y.old anx aoy cnx coy S w3 ONx.out OOy.out (by have := HSMx.out.2.2; omega) (by have := HSMy.out.2.1; omega))
            obtain ⟨h1, hh1⟩ : ∃ b, x.has = b := ⟨_, rfl⟩
            obtain ⟨h2, hh2⟩ : ∃ b, y.had = b := ⟨_, rfl⟩
            obtain ⟨s1, hs1⟩ : ∃ b, decide (x.new = y.old) = b := ⟨_, rfl⟩
            have H1 := hid (show clsC x y = !((h1 == h2) && s1) by rw [clsC, hh1, hh2, hs1])
            rw [hh1] at c2x
            rw [hh2] at c1y
            rw [hs1] at AL1
            clear hh1 hh2 hs1
            cases h1 <;> cases h2
            rotate_left
            · go_wp2_with fail
              go_meet
              case rel => exact ⟨by rw [H1.out]; rfl, Below.refl _ _⟩
            · go_wp2_with fail
              go_meet
              case rel => exact ⟨by rw [H1.out]; rfl, Below.refl _ _⟩
            all_goals
             go_wp2_with fail
             refine AL1.out.mono ?_
             rintro e wy ⟨rfl, hby⟩
             apply_assumption
             go_wp2_with fail
             go_meet
             case rel => exact ⟨by rw [H1.out]; cases s1 <;> rfl, hby⟩
           case rest =>
            obtain ⟨hv, hb4⟩ := hcut
            obtain ⟨w4, hw4⟩ : ∃ v, v = wc := ⟨_, rfl⟩
            subst hw4
            have hu4 := hb4.size
            have B34 := hid hb4
            obtain ⟨qc, hqc⟩ : ∃ b, clsC x y = b := ⟨_, rfl⟩
            rw [hqc] at hv
            subst hv
            have HQC := hid hqc
            clear hqc hb4
            cases qc
            rotate_left
            · have hno : amr l m = none := by
               rw [HK.out, HK3.out, if_pos HQC.out]; rfl
              have hf := HF.out
              rw [hno] at hf
              have HFF := hid hf
              clear hf hno
              go_wp2_with fail
              refine bodyPost_ret (v := .tuple #[.slice none 0 0, .int .i64 7]) (by simp [results, Tryz.results75, go_sem]) rfl ?_
              exact RfAfR.bad HFF.out (by omega) (BW3.out.trans (B34.out.mono BW3.out.size))
            have c0x := bc_ B34.out hp3 (cg_ HPQ.out.1 (k := 0) (v := .slice apx x.p.length cpx) rfl)
            have c1x := bc_ B34.out hp3 (cg_ HPQ.out.1 (k := 1) (v := .bool x.had) rfl)
            have c3x := bc_ B34.out hp3 (cg_ HPQ.out.1 (k := 3) (v := .slice aox x.old.length cox) rfl)
            have c2y := bc_ B34.out hq3 (cg_ HPQ.out.2 (k := 2) (v := .bool y.has) rfl)
            have c4y := bc_ B34.out hq3 (cg_ HPQ.out.2 (k := 4) (v := .slice any y.new.length cny) rfl)
            have AL2 := hid (alikeI_any x.old y.new aox any cox cny S w4 (OOx.out.agree (Ag_b B34.out HS3w.out)) (ONy.out.agree (Ag_b B34.out HS3w.out)) (by have := HSMx.out.2.1; omega) (by have := HSMy.out.2.2; omega))
            have C4 := hid (And.intro c0x (And.intro c1x (And.intro c3x (And.intro c2y c4y))))
            have K4 := hid (show amr l m = (if nopC (bthC x y) then amr (l.drop (a + 1)) (m.drop (b + 1)) else (amr (l.drop (a + 1)) (m.drop (b + 1))).map (bthC x y :: ·)).map (acc ++ ·) by rw [HK.out, HK3.out, if_neg (by rw [HQC.out]; simp)])
            have hp4 : p < w4.heap.size := by omega
            have hq4 : q < w4.heap.size := by omega
            have BW4 := hid (BW3.out.trans (B34.out.mono (by omega)))
            have R4 := hid (R3.out.below (fun q hq => by have := HS3w.out q hq; omega) B34.out)
            clear c0x c1x c3x c2y c4y
            go_upto_region 13 with fail
            go_cut [112] from 100 to 111 (fun v wx => v = .bool (!nopC (bthC x y)) ∧ Below w4.heap.size w4 wx)
            case first =>
             obtain ⟨c0x, c1x, c3x, c2y, c4y⟩ := C4.out
             obtain ⟨h1, hh1⟩ : ∃ b, x.had = b := ⟨_, rfl⟩
             obtain ⟨h2, hh2⟩ : ∃ b, y.has = b := ⟨_, rfl⟩
             obtain ⟨s1, hs1⟩ : ∃ b, decide (x.old = y.new) = b := ⟨_, rfl⟩
             have H1 := hid (show nopC (bthC x y) = ((h1 == h2) && s1) by rw [nopC, bthC, hh1, hh2]; simp only; rw [hs1])
             rw [hh1] at c1x
             rw [hh2] at c2y
             rw [hs1] at AL2
             clear hh1 hh2 hs1
             cases h1 <;> cases h2
             rotate_left
             · go_wp2_with fail
               go_meet
               case rel => exact ⟨by rw [H1.out]; rfl, Below.refl _ _⟩
             · go_wp2_with fail
               go_meet
               case rel => exact ⟨by rw [H1.out]; rfl, Below.refl _ _⟩
             all_goals
              go_wp2_with fail
              refine AL2.out.mono ?_
              rintro e wy ⟨rfl, hby⟩
              apply_assumption
              go_wp2_with fail
              go_meet
              case rel => exact ⟨by rw [H1.out]; cases s1 <;> rfl, hby⟩
            case rest =>
             obtain ⟨hv, hb5⟩ := hcut
             obtain ⟨w5, hw5⟩ : ∃ v, v = wc := ⟨_, rfl⟩
             subst hw5
             have hu5 := hb5.size
             have B45 := hid hb5
             have B35 := hid (B34.out.trans (hb5.mono hu4))
             have B05 := hid (B3.out.trans (B35.out.mono (by have := B3.out.size; omega)))
             have BW5 := hid (BW4.out.trans (hb5.mono BW4.out.size))
             have R5 := hid (R4.out.below (fun q hq => by have := HS3w.out q hq; omega) hb5)
             obtain ⟨qn, hqn⟩ : ∃ b, nopC (bthC x y) = b := ⟨_, rfl⟩
             rw [hqn] at hv
             subst hv
             have HQN := hid hqn
             clear hqn hb5
             cases qn
             · obtain ⟨c0x, c1x, c3x, c2y, c4y⟩ := C4.out
               have d0x := bc_ B45.out hp4 c0x
               have d1x := bc_ B45.out hp4 c1x
               have d3x := bc_ B45.out hp4 c3x
               have d2y := bc_ B45.out hq4 c2y
               have d4y := bc_ B45.out hq4 c4y
               have HK2 : Hid (amr l m = (amr (l.drop (a + 1)) (m.drop (b + 1))).map (acc ++ [bthC x y] ++ ·)) := by
                rw [Hid, K4.out, if_neg (by rw [HQN.out]; simp)]
                cases amr (l.drop (a + 1)) (m.drop (b + 1)) <;> simp
               clear c0x c1x c3x c2y c4y
               go_wp2_with (at_builtin; (refine (wpList_push (r := rdCh) (e := 120) (S := S) (lo := w.heap.size) rfl _ _ _ rfl i0 _ 80 Tryz.underlying109 hi0 hz0 hz1 hz2 rfl (by omega) rfl (RowS.below R5.out (by have := BW5.out.size; exact fun q hq => by have := HS.out q hq; omega) ((Below.refl _ _).alloc (nl_ _) _)) HS.out ?_ (bthC x y) [.slice apx x.p.length cpx, .bool x.had, .bool y.has, .slice aox x.old.length cox, .slice any y.new.length cny] w5.heap.size rfl ?_ (by have hag := Ag_b (S := S) (B35.out.alloc (by omega) (.cells #[.slice apx x.p.length cpx, .bool x.had, .bool y.has, .slice aox x.old.length cox, .slice any y.new.length cny] 120)) HS3w.out; exact ⟨apx, cpx, aox, cox, any, cny, rfl, PPx.out.agree hag, OOx.out.agree hag, ONy.out.agree hag⟩) ?_ ?_ ?_); (have := BW5.out.size; simp; omega); exact heap_alloc_new _ _; (unfold maxLen; omega); omega; intro VN WN HRn HGn HTn HLn); have BN := hid (HLn _ (BW5.out.alloc (by have := BW5.out.size; omega) _)); have RN := hid HRn; clear HRn HGn HTn HLn)
               go_roundw
               case rel => exact ⟨a + 1, b + 1, acc ++ [bthC x y], by omega, by omega, by go_num, by go_num, by simp; omega, RN, HK2, BN⟩
               case measure => simp [intOf]; omega
             · have HK2 : Hid (amr l m = (amr (l.drop (a + 1)) (m.drop (b + 1))).map (acc ++ ·)) := by
                rw [Hid, K4.out, if_pos HQN.out]
               go_wp2_with fail
               go_roundw
               case rel => exact ⟨a + 1, b + 1, acc, by omega, by omega, by go_num, by go_num, by omega, R5, HK2, BW5⟩
               case measure => simp [intOf]; omega
    · obtain rfl : b = m.length := by omega
      have bx0 : gx < wr.heap.size := by have := HS.out gx hgx; omega
      have hmn : ¬ (m.length : Int) < (m.length : Int) := by omega
      have HK2 : Hid (amr l m = (amr (l.drop (a + 1)) (m.drop m.length)).map (acc ++ [x] ++ ·)) := by
       rw [Hid, HK.out, HDx.out, List.drop_length]
       have h0 : ∀ t : List Ch, amr t [] = some t := fun t => by cases t <;> simp [amr]
       rw [h0, h0]
       simp
      go_upto_region 4 with fail
      refine (wpIn_wide (n := 9)).1 ?_
      refine region_held (fun w' : World => True) (by kernel_rfl) ?_
      have hS1 : True := trivial
      refine tkY 0 21 (.int .i64 m.length) rfl rfl hS1 (fun w' hs => ?_) ?_
      · go_simp
      refine tkY 1 22 (.slice am m.length cm) rfl rfl hS1 (fun w' hs => ?_) ?_
      · go_simp
      refine tkY 2 23 (.int .i64 m.length) rfl rfl hS1 (fun w' hs => ?_) ?_
      · go_simp
      refine tkY 3 24 (.bool true) rfl rfl hS1 (fun w' hs => ?_) ?_
      · go_simp
      refine tkY 4 25 (.bool true) rfl rfl hS1 (fun w' hs => ?_) ?_
      · go_simp
      refine tkN 5 26 rfl rfl hS1 ?_
      refine tkN 6 27 rfl rfl hS1 ?_
      refine tkN 7 28 rfl rfl hS1 ?_
      refine tkN 8 29 rfl rfl hS1 ?_
      refine tkN 9 30 rfl rfl hS1 ?_
      refine tkN 10 31 rfl rfl hS1 ?_
      refine tkN 11 32 rfl rfl hS1 ?_
      refine tkN 12 33 rfl rfl hS1 ?_
      refine tkN 13 34 rfl rfl hS1 ?_
      refine tkN 14 35 rfl rfl hS1 ?_
      refine tkN 15 36 rfl rfl hS1 ?_
      refine tkN 16 37 rfl rfl hS1 ?_
      refine tkN 17 38 rfl rfl hS1 ?_
      refine tkN 18 39 rfl rfl hS1 ?_
      refine tkN 19 40 rfl rfl hS1 ?_
      refine tkN 20 41 rfl rfl hS1 ?_
      refine tkN 21 42 rfl rfl hS1 ?_
      refine tkY 22 43 (.bool true) rfl rfl hS1 (fun w' hs => ?_) ?_
      · go_simp
      refine AnyH_done (by kernel_rfl) ?_
      go_simp
      clear hS1
      have B1 := hid (show Below wr.heap.size wr wr.drew from (Below.refl _ _).drew)
      have BW1 := hid (HB.out.trans (B1.out.mono hzr))
      have R1 := hid (HR.out.below (fun q hq => by have := HS.out q hq; omega) B1.out)
      have x0w := bc_ B1.out bx0 x0
      have x1w := bc_ B1.out bx0 x1
      have x2w := bc_ B1.out bx0 x2
      have x3w := bc_ B1.out bx0 x3
      have x4w := bc_ B1.out bx0 x4
      clear x0 x1 x2 x3 x4
      go_wp2_with (at_builtin; (refine (wpList_push (r := rdCh) (e := 120) (S := S) (lo := w.heap.size) rfl _ _ _ rfl i0 _ 80 Tryz.underlying109 hi0 hz0 hz1 hz2 rfl (by omega) rfl (RowS.below R1.out (by have := BW1.out.size; exact fun q hq => by have := HS.out q hq; omega) ((Below.refl _ _).alloc (nl_ _) _)) HS.out ?_ x [.slice apx x.p.length cpx, .bool x.had, .bool x.has, .slice aox x.old.length cox, .slice anx x.new.length cnx] wr.drew.heap.size rfl ?_ (by have hag := Ag_b (S := S) ((B1.out).alloc (nl_ _) (.cells #[.slice apx x.p.length cpx, .bool x.had, .bool x.has, .slice aox x.old.length cox, .slice anx x.new.length cnx] 120)) (fun q hq => by have := HS.out q hq; omega); exact ⟨apx, cpx, aox, cox, anx, cnx, rfl, Px.out.agree hag, Ox.out.agree hag, Nx.out.agree hag⟩) ?_ ?_ ?_); (have := BW1.out.size; simp; omega); exact heap_alloc_new _ _; (unfold maxLen; omega); omega; intro VN WN HRn HGn HTn HLn); have BN := hid (HLn _ (BW1.out.alloc (by have := BW1.out.size; omega) _)); have RN := hid HRn; clear HRn HGn HTn HLn)
      go_roundw
      case rel => exact ⟨a + 1, m.length, acc ++ [x], by omega, by omega, by go_num, by go_num, by simp; omega, RN, HK2, BN⟩
      case measure => simp [intOf]; omega
  · obtain rfl : a = l.length := by omega
    have hln : ¬ (l.length : Int) < (l.length : Int) := by omega
    by_cases hmb : b < m.length
    · have hmbi : (b : Int) < (m.length : Int) := by omega
      have hmbn : ¬ (b : Int) = (m.length : Int) := by omega
      have hmbb : ((b : Int) == (m.length : Int)) = false := by simp; omega
      obtain ⟨gy, oy, csy, rfl, hgy, ⟨apy, cpy, aoy, coy, any, cny, rfl, hPy, hOy, hNy⟩, hcly⟩ := HAT2.out b hmb
      have hagy := Ag_b (S := S) HB.out HS.out
      have y0 := hagy.cell hgy (hcly 0 _ rfl)
      have y1 := hagy.cell hgy (hcly 1 _ rfl)
      have y2 := hagy.cell hgy (hcly 2 _ rfl)
      have y3 := hagy.cell hgy (hcly 3 _ rfl)
      have y4 := hagy.cell hgy (hcly 4 _ rfl)
      rw [Nat.add_zero] at y0
      simp only [← Nat.add_assoc] at y1 y2 y3 y4
      have hdy : m.drop b = m[b] :: m.drop (b + 1) := List.drop_eq_getElem_cons hmb
      have hsmy := SM.out m[b] (List.getElem_mem hmb)
      obtain ⟨y, hxy⟩ : ∃ y, m[b] = y := ⟨_, rfl⟩
      rw [hxy] at hPy hOy hNy y0 y1 y2 y3 y4 hdy hsmy
      have Py := hid (hPy.agree hagy)
      have Oy := hid (hOy.agree hagy)
      have Ny := hid (hNy.agree hagy)
      have HDy := hid hdy
      have HSMy := hid hsmy
      clear hcly hPy hOy hNy hagy hxy hdy hsmy
      have by0 : gy < wr.heap.size := by have := HS.out gy hgy; omega
      have HK2 : Hid (amr l m = (amr (l.drop l.length) (m.drop (b + 1))).map (acc ++ [y] ++ ·)) := by
       rw [Hid, HK.out, HDy.out, List.drop_length, amr, amr]
       simp
      go_upto_region 4 with fail
      refine (wpIn_wide (n := 9)).1 ?_
      refine region_held (fun w' : World => True) (by kernel_rfl) ?_
      have hS1 : True := trivial
      refine tkY 0 21 (.int .i64 b) rfl rfl hS1 (fun w' hs => ?_) ?_
      · go_simp
      refine tkY 1 22 (.slice (some ⟨gy, oy, none⟩) m.length cm) rfl rfl hS1 (fun w' hs => ?_) ?_
      · go_simp
      refine tkY 2 23 (.int .i64 m.length) rfl rfl hS1 (fun w' hs => ?_) ?_
      · go_simp
      refine tkY 3 24 (.bool false) rfl rfl hS1 (fun w' hs => ?_) ?_
      · go_simp
      refine tkY 4 25 (.bool false) rfl rfl hS1 (fun w' hs => ?_) ?_
      · go_simp
      refine tkY 5 26 (.int .i64 l.length) rfl rfl hS1 (fun w' hs => ?_) ?_
      · go_simp
      refine tkY 6 27 (.slice al l.length cl) rfl rfl hS1 (fun w' hs => ?_) ?_
      · go_simp
      refine tkY 7 28 (.int .i64 l.length) rfl rfl hS1 (fun w' hs => ?_) ?_
      · go_simp
      refine tkY 8 29 (.bool false) rfl rfl hS1 (fun w' hs => ?_) ?_
      · go_simp
      refine tkY 9 30 (.bool false) rfl rfl hS1 (fun w' hs => ?_) ?_
      · go_simp
      refine tkN 10 31 rfl rfl hS1 ?_
      refine tkN 11 32 rfl rfl hS1 ?_
      refine tkN 12 33 rfl rfl hS1 ?_
      refine tkN 13 34 rfl rfl hS1 ?_
      refine tkN 14 35 rfl rfl hS1 ?_
      refine tkN 15 36 rfl rfl hS1 ?_
      refine tkN 16 37 rfl rfl hS1 ?_
      refine tkN 17 38 rfl rfl hS1 ?_
      refine tkN 18 39 rfl rfl hS1 ?_
      refine tkN 19 40 rfl rfl hS1 ?_
      refine tkN 20 41 rfl rfl hS1 ?_
      refine tkY 21 42 (.bool false) rfl rfl hS1 (fun w' hs => ?_) ?_
      · go_simp
      refine tkY 22 43 (.bool false) rfl rfl hS1 (fun w' hs => ?_) ?_
      · go_simp
      refine AnyH_done (by kernel_rfl) ?_
      go_simp
      go_upto_region 7 with fail
      refine (wpIn_wide (n := 9)).1 ?_
      refine region_held (fun w' : World => True) (by kernel_rfl) ?_
      refine tkY 0 53 (.int .i64 l.length) rfl rfl hS1 (fun w' hs => ?_) ?_
      · go_simp
      refine tkY 1 54 (.slice al l.length cl) rfl rfl hS1 (fun w' hs => ?_) ?_
      · go_simp
      refine tkY 2 55 (.int .i64 l.length) rfl rfl hS1 (fun w' hs => ?_) ?_
      · go_simp
      refine tkY 3 56 (.bool true) rfl rfl hS1 (fun w' hs => ?_) ?_
      · go_simp
      refine tkY 4 57 (.bool true) rfl rfl hS1 (fun w' hs => ?_) ?_
      · go_simp
      refine tkN 5 58 rfl rfl hS1 ?_
      refine tkN 6 59 rfl rfl hS1 ?_
      refine tkN 7 60 rfl rfl hS1 ?_
      refine tkN 8 61 rfl rfl hS1 ?_
      refine tkN 9 62 rfl rfl hS1 ?_
      refine tkN 10 63 rfl rfl hS1 ?_
      refine tkN 11 64 rfl rfl hS1 ?_
      refine tkN 12 65 rfl rfl hS1 ?_
      refine tkN 13 66 rfl rfl hS1 ?_
      refine tkN 14 67 rfl rfl hS1 ?_
      refine tkN 15 68 rfl rfl hS1 ?_
      refine tkY 16 69 (.bool true) rfl rfl hS1 (fun w' hs => ?_) ?_
      · go_simp
      refine AnyH_done (by kernel_rfl) ?_
      go_simp
      clear hS1
      have B1 := hid (show Below wr.heap.size wr wr.drew.drew from (Below.refl _ _).drew.drew)
      have BW1 := hid (HB.out.trans (B1.out.mono hzr))
      have R1 := hid (HR.out.below (fun q hq => by have := HS.out q hq; omega) B1.out)
      have y0w := bc_ B1.out by0 y0
      have y1w := bc_ B1.out by0 y1
      have y2w := bc_ B1.out by0 y2
      have y3w := bc_ B1.out by0 y3
      have y4w := bc_ B1.out by0 y4
      clear y0 y1 y2 y3 y4
      go_wp2_with (at_builtin; (refine (wpList_push (r := rdCh) (e := 120) (S := S) (lo := w.heap.size) rfl _ _ _ rfl i0 _ 80 Tryz.underlying109 hi0 hz0 hz1 hz2 rfl (by omega) rfl (RowS.below R1.out (by have := BW1.out.size; exact fun q hq => by have := HS.out q hq; omega) ((Below.refl _ _).alloc (nl_ _) _)) HS.out ?_ y [.slice apy y.p.length cpy, .bool y.had, .bool y.has, .slice aoy y.old.length coy, .slice any y.new.length cny] wr.drew.drew.heap.size rfl ?_ (by have hag := Ag_b (S := S) ((B1.out).alloc (nl_ _) (.cells #[.slice apy y.p.length cpy, .bool y.had, .bool y.has, .slice aoy y.old.length coy, .slice any y.new.length cny] 120)) (fun q hq => by have := HS.out q hq; omega); exact ⟨apy, cpy, aoy, coy, any, cny, rfl, Py.out.agree hag, Oy.out.agree hag, Ny.out.agree hag⟩) ?_ ?_ ?_); (have := BW1.out.size; simp; omega); exact heap_alloc_new _ _; (unfold maxLen; omega); omega; intro VN WN HRn HGn HTn HLn); have BN := hid (HLn _ (BW1.out.alloc (by have := BW1.out.size; omega) _)); have RN := hid HRn; clear HRn HGn HTn HLn)
      go_roundw
      case rel => exact ⟨l.length, b + 1, acc ++ [y], by omega, by omega, by go_num, by go_num, by simp; omega, RN, HK2, BN⟩
      case measure => simp [intOf]; omega
    · obtain rfl : b = m.length := by omega
      have hmn : ¬ (m.length : Int) < (m.length : Int) := by omega
      have hk : amr l m = some acc := by
       rw [HK.out, List.drop_length, List.drop_length, amr]
       simp
      have hf := HF.out
      rw [hk] at hf
      obtain ⟨av, cv, rfl, _, _⟩ := HR.out.shape
      by_cases hbig : 120 < acc.length
      · simp only [hbig, if_true] at hf
        have HFF := hid hf
        have hbig' : (120 : Int) < (acc.length : Int) := by omega
        clear hf hk hbig
        go_wp2_with fail
        refine bodyPost_ret (v := .tuple #[.slice none 0 0, .int .i64 2]) (by simp [results, Tryz.results75, go_sem]) rfl ?_
        exact RfAfR.bad HFF.out (by omega) HB.out
      · simp only [hbig, if_false] at hf
        have HFF := hid hf
        have hbig' : ¬ (120 : Int) < (acc.length : Int) := by omega
        clear hf hk hbig
        go_wp2_with fail
        refine bodyPost_ret (v := .tuple #[.slice av acc.length cv, .int .i64 0]) (by simp [results, Tryz.results75, go_sem]) rfl ?_
        exact ⟨_, by rw [HFF.out.1], by rw [HFF.out.2]; exact HR.out, HB.out⟩
end Go.Proofs.LF
