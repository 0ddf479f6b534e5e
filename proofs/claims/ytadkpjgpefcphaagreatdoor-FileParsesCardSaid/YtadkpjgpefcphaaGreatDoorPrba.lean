/- Parts of the proof of a law of layer 11 (file): LfSplit. The conditions stand in each theorem. -/
import Derived.Test.YtadkpjgpefcphaaGreatDoorProg
import Derived.Test.YtadkpjgpefcphaaGreatDoorPraj
import Derived.Test.YtadkpjgpefcphaaGreatDoorPrax
set_option linter.all false
set_option linter.unusedVariables false
set_option linter.unusedSimpArgs false
namespace Go.Proofs.LF
def spl : List UInt8 → List UInt8 → List (List UInt8)
  | w, [] => [w]
  | w, c :: r => if c = 32 then w :: spl [] r else spl (w ++ [c]) r
theorem spl_app : ∀ (x w y : List UInt8), (∀ c ∈ x, c ≠ 32) → spl w (x ++ y) = spl (w ++ x) y
  | [], w, y, _ => by simp
  | c :: x, w, y, h => by
    simp only [List.cons_append, spl]
    rw [if_neg (h c (by simp)), spl_app x (w ++ [c]) y (fun d hd => h d (by simp [hd]))]
    simp
def DigW (v : List UInt8) : Prop := (∀ c ∈ v, digitB c = true) ∧ v.length ≤ 4
theorem spl_nums : ∀ (m : Nat) (s w : List UInt8), (rdNums m s).2.2 = true → ∃ ws, spl w (s.take (rdNums m s).2.1) = w :: ws ∧ ws.map (fun l => ((decN l : Nat) : Int)) = (rdNums m s).1 ∧ ∀ v ∈ ws, DigW v
  | 0, s, w, _ => ⟨[], by simp [rdNums, spl], by simp [rdNums], by simp⟩
  | m + 1, s, w, h => by
    by_cases hb : s.head? = some 32
    · obtain ⟨s1, rfl⟩ : ∃ s1, s = 32 :: s1 := by cases s with | nil => cases hb | cons c r => simp at hb; exact ⟨r, by rw [hb]⟩
      have hr : runN blankB 1 (32 :: s1) = 1 := by rw [runN_blank1]; rfl
      simp only [rdNums, hr, Nat.one_ne_zero, if_false, List.drop_succ_cons, List.drop_zero] at h ⊢
      by_cases hn : runN digitB (mostD s1) s1 = 0
      · simp [hn] at h
      · simp only [hn, if_false] at h ⊢
        have hall := runN_all (p := digitB) (m := mostD s1) (s := s1)
        have hle := runN_le (p := digitB) (m := mostD s1) (l := s1)
        have hm4 : mostD s1 ≤ 4 := by unfold mostD; split <;> omega
        generalize hN : runN digitB (mostD s1) s1 = n at *
        obtain ⟨ws, h1, h2, h3⟩ := spl_nums m (s1.drop n) (s1.take n) h
        refine ⟨s1.take n :: ws, ?_, by simp [h2], fun v hv => ?_⟩
        · rw [show 1 + n + (rdNums m (s1.drop n)).2.1 = (n + (rdNums m (s1.drop n)).2.1) + 1 by omega, List.take_succ_cons, spl, if_pos rfl, List.take_add, spl_app _ _ _ (fun c hc e => by have := digitB_iff.1 (hall c hc); subst e; simp at this), List.nil_append, h1]
        · rcases List.mem_cons.1 hv with rfl | hv
          · exact ⟨hall, by rw [List.length_take]; omega⟩
          · exact h3 v hv
    · have hr : runN blankB 1 s = 0 := by rw [runN_blank1, if_neg hb]
      simp only [rdNums, hr, if_true]
      exact ⟨[], by simp [spl], by simp, by simp⟩
theorem blanksF_app {x y : List UInt8} (h : ∀ c ∈ x, c = 32) (h2 : ∀ c, y.head? = some c → c ≠ 32) : blanksF (x ++ y) = x.length := by
  unfold blanksF
  rw [List.takeWhile_append_of_pos (by simpa using h)]
  cases y with
  | nil => simp
  | cons c r => rw [List.takeWhile_cons_of_neg (by simpa using h2 c rfl)]; simp
theorem rd_line (dp : Nat) (s : List UInt8) (h : (rdLine dp s).2.2.2.2 = true) : blanksF (s.take (rdLine dp s).2.2.2.1) = (rdLine dp s).1 ∧
    ∃ ws, spl [] ((s.take (rdLine dp s).2.2.2.1).drop (rdLine dp s).1) = (rdLine dp s).2.1 :: ws ∧ ws.map (fun l => ((decN l : Nat) : Int)) = (rdLine dp s).2.2.1 ∧ ∀ v ∈ ws, DigW v := by
  have hblank := runN_all (p := blankB) (m := dp) (s := s)
  have hd := runN_le (p := blankB) (m := dp) (l := s)
  simp only [rdLine] at h ⊢
  generalize hD : runN blankB dp s = d at *
  generalize hs1 : s.drop d = s1 at *
  have hall := runN_all (p := smallB) (m := 8) (s := s1)
  have hle := runN_le (p := smallB) (m := 8) (l := s1)
  generalize hK : runN smallB 8 s1 = k at *
  by_cases h0 : k = 0
  · simp [h0] at h
  · simp only [h0, if_false, Bool.and_eq_true] at h ⊢
    obtain ⟨ws, h1, h2, h3⟩ := spl_nums 4 (s1.drop k) (s1.take k) h.1
    have hne : s1.take k ≠ [] := fun e => by
      have hl : (s1.take k).length = k := by rw [List.length_take]; omega
      rw [e] at hl; simp at hl; omega
    have e1 : s.take (d + k + (rdNums 4 (s1.drop k)).2.1) = s.take d ++ (s1.take k ++ (s1.drop k).take (rdNums 4 (s1.drop k)).2.1) := by
      rw [show d + k + (rdNums 4 (s1.drop k)).2.1 = d + (k + (rdNums 4 (s1.drop k)).2.1) by omega, List.take_add, hs1, List.take_add]
    have hdl : (s.take d).length = d := by rw [List.length_take]; omega
    have h32 : ∀ c ∈ s1.take k, c ≠ 32 := fun c hc e => by have := smallB_iff.1 (hall c hc); subst e; simp at this
    refine ⟨?_, ws, ?_, h2, h3⟩
    · rw [e1, blanksF_app (fun c hc => by have := hblank c hc; simpa [blankB] using this) (fun c hc => ?_), hdl]
      cases hq : s1.take k with
      | nil => exact absurd hq hne
      | cons b r =>
        rw [hq] at hc h32
        simp at hc
        exact hc ▸ h32 b (by simp)
    · rw [e1, List.drop_left' hdl, spl_app _ _ _ h32, List.nil_append, h1]
def lstP (l : List Fl) : List Ky := (l.getLast?.map Fl.p).getD []
def refRd (s : List UInt8) : Nat × List UInt8 × List Int := (blanksF s, (spl [] (s.drop (blanksF s))).head!, (spl [] (s.drop (blanksF s))).tail.map (fun l => ((decN l : Nat) : Int)))
def sibB (d : Nat) (p : List Ky) (x : Fl) : Bool := decide (x.p.length = p.length) && decide (x.p.take d = p.take d) && !befK (x.p.getD d ky0) (p.getD d ky0)
def refG (t : List UInt8) : Nat → Nat → Nat → Nat → List Fl → List Fl × Nat × Nat × Nat
  | 0, _, _, _, _ => ([], 0, 0, 0)
  | f + 1, i, ln, dp, out =>
    if i < t.length then
      if 60 ≤ ln then ([], ln, 0, 2)
      else
        let k := kS dp (.lead 0) (t.drop i)
        if k = 0 ∨ t.getD (i + k - 1) 0 ≠ 10 then ([], ln, k, 11)
        else
          let r := refRd ((t.drop i).take (k - 1))
          let p := (lstP out).take r.1 ++ [kyOf r.2.1 r.2.2]
          if out.any (sibB r.1 p) then ([], ln, r.1, 4)
          else refG t f (i + k) (ln + 1) (min (r.1 + 1) 3) (out ++ [⟨p, r.2.2⟩])
    else (out, 0, 0, 0)
def refP (t : List UInt8) : List Fl × Nat × Nat × Nat := refG t 62 0 0 0 []
theorem byK_bef (a b : Ky) : decide (0 ≤ byK a b) = !befK a b := by
  unfold byK befK
  by_cases hn : a.n = b.n
  · by_cases hh : a.h = b.h
    · simp only [hn, hh, ne_eq, not_true, if_false, cmpI]
      by_cases h1 : a.x < b.x
      · simp [h1]
      · by_cases h2 : b.x < a.x <;> simp [h1, h2]
    · simp only [hn, hh, ne_eq, not_true, not_false_eq_true, if_false, if_true]
      cases b.h <;> simp
  · simp only [hn, ne_eq, not_false_eq_true, if_true, cmpB]
    cases h1 : Op.bytesLess a.n b.n
    · cases h2 : Op.bytesLess b.n a.n <;> simp
    · simp
structure Inv (fs : List Fl) : Prop where
  srt : Srt fs
  clo : Clo fs
  kok : KOk fs
  four : ∀ x ∈ fs, x.p.length ≤ 4
theorem Inv.nil : Inv [] := ⟨List.Pairwise.nil, (fun x hx => by cases hx), (fun x hx => by cases hx), (fun x hx => by cases hx)⟩
theorem clo_pre {fs : List Fl} (h : Clo fs) : ∀ (n : Nat) (t u : List Ky) (x : Fl), t.length = n → x ∈ fs → x.p = u ++ t → u ≠ [] → ∃ z ∈ fs, z.p = u
  | 0, t, u, x, hn, hx, hp, _ => ⟨x, hx, by rw [hp, List.length_eq_zero_iff.1 hn, List.append_nil]⟩
  | n + 1, t, u, x, hn, hx, hp, hu => by
    obtain ⟨t', k, rfl⟩ : ∃ t' k, t = t' ++ [k] := ⟨t.dropLast, t.getLast (by intro e; rw [e] at hn; simp at hn), by rw [List.dropLast_concat_getLast]⟩
    have hd : x.p.dropLast = u ++ t' := by rw [hp, ← List.append_assoc, List.dropLast_concat]
    obtain ⟨z, hz, hzp⟩ := h x hx (by rw [hd]; simp [hu])
    exact clo_pre h n t' u z (by simpa using hn) hz (hzp.trans hd) hu
theorem lstP_mem {fs : List Fl} (h : fs ≠ []) : ∃ a ∈ fs, lstP fs = a.p := by
  refine ⟨fs.getLast h, List.getLast_mem h, ?_⟩
  unfold lstP
  rw [List.getLast?_eq_some_getLast h]; rfl
theorem lstP_max {fs : List Fl} (h : Srt fs) {x : Fl} (hx : x ∈ fs) : cmpP x.p (lstP fs) ≤ 0 := by
  have hne : fs ≠ [] := List.ne_nil_of_mem hx
  have hl := List.dropLast_concat_getLast hne
  have hlp : lstP fs = (fs.getLast hne).p := by unfold lstP; rw [List.getLast?_eq_some_getLast hne]; rfl
  rw [hlp]
  rw [← hl] at hx h
  rcases List.mem_append.1 hx with hx | hx
  · unfold Srt at h
    rw [List.pairwise_append] at h
    exact Int.le_of_lt (h.2.2 x hx _ (by simp))
  · obtain rfl : x = _ := by simpa using hx
    rw [cmpP_ord.refl]; exact Int.le_refl _
theorem order_eq {fs : List Fl} (h : Inv fs) {d : Nat} {k : Ky} (hd : d ≤ (lstP fs).length) :
    fs.any (fun x => decide (0 ≤ cmpP x.p ((lstP fs).take d ++ [k]))) = fs.any (sibB d ((lstP fs).take d ++ [k])) := by
  have hql : ((lstP fs).take d).length = d := by rw [List.length_take]; omega
  have hsp : lstP fs = (lstP fs).take d ++ (lstP fs).drop d := (List.take_append_drop _ _).symm
  generalize hq : (lstP fs).take d = q at *
  have hgk : (q ++ [k]).getD d ky0 = k := by
    rw [List.getD_eq_getElem?_getD, List.getElem?_append_right (by omega), hql]; simp
  have htk : (q ++ [k]).take d = q := List.take_left' hql
  rw [Bool.eq_iff_iff]
  simp only [List.any_eq_true, decide_eq_true_eq]
  constructor
  · rintro ⟨x, hx, hc⟩
    have h1 : cmpP q x.p ≤ 0 := by
      have hqp : cmpP q (q ++ [k]) < 0 := cmpP_pre _ _ (by simp)
      rcases Int.lt_or_eq_of_le hc with hlt | heq
      · exact Int.le_of_lt (cmpP_ord.trans hqp (cmpP_ord.flop hlt))
      · rw [cmpP_ord.eq heq.symm]; exact Int.le_of_lt hqp
    have h2 := lstP_max h.srt hx
    rw [hsp] at h2
    obtain ⟨t, ht⟩ := pre_between h1 h2
    cases t with
    | nil =>
      rw [ht, List.append_nil] at hc
      have := cmpP_pre q [k] (by simp)
      omega
    | cons y t =>
      obtain ⟨z, hz, hzp⟩ := clo_pre h.clo t.length t (q ++ [y]) x rfl hx (by rw [ht]; simp) (by simp)
      refine ⟨z, hz, ?_⟩
      have hgy : (q ++ [y]).getD d ky0 = y := by
        rw [List.getD_eq_getElem?_getD, List.getElem?_append_right (by omega), hql]; simp
      have hty : (q ++ [y]).take d = q := List.take_left' hql
      simp only [sibB, hzp, hgk, hgy, htk, hty, List.length_append, List.length_singleton, decide_true, Bool.true_and]
      rw [← byK_bef, decide_eq_true_eq]
      rw [ht, cmpP_same] at hc
      simp only [cmpP] at hc
      by_cases h0 : byK y k = 0
      · omega
      · simpa [h0] using hc
  · rintro ⟨x, hx, hc⟩
    refine ⟨x, hx, ?_⟩
    simp only [sibB, Bool.and_eq_true, decide_eq_true_eq, List.length_append, List.length_singleton, hql, htk, hgk] at hc
    obtain ⟨⟨hl, ht⟩, hb⟩ := hc
    have hxp : x.p = q ++ [x.p.getD d ky0] := by
      have h1 := (List.take_append_drop d x.p).symm
      rw [ht] at h1
      have h2 : x.p.drop d = [x.p.getD d ky0] := by
        rw [List.drop_eq_getElem_cons (by omega), List.drop_of_length_le (by omega)]
        simp [List.getD_eq_getElem?_getD, show d < x.p.length by omega]
      rw [h2] at h1; exact h1
    rw [← byK_bef, decide_eq_true_eq] at hb
    rw [hxp, cmpP_same]
    simp only [cmpP]
    split <;> omega
theorem Inv.more {fs : List Fl} (h : Inv fs) {d : Nat} {n : List UInt8} {l : List Int} (hd : d ≤ (lstP fs).length) (hd3 : d ≤ 3) (ho : fs.any (fun x => decide (0 ≤ cmpP x.p ((lstP fs).take d ++ [kyOf n l]))) = false) : Inv (fs ++ [⟨(lstP fs).take d ++ [kyOf n l], l⟩]) := by
  have hlt : ∀ x ∈ fs, cmpP x.p ((lstP fs).take d ++ [kyOf n l]) < 0 := fun x hx => by
    rw [List.any_eq_false] at ho
    have := ho x hx
    simp only [decide_eq_true_eq] at this; omega
  refine ⟨?_, ?_, ?_, ?_⟩
  · unfold Srt
    rw [List.pairwise_append]
    exact ⟨h.srt, by simp, fun a ha b hb => by obtain rfl : b = _ := by simpa using hb
                                               exact hlt a ha⟩
  · intro x hx hne
    rcases List.mem_append.1 hx with hx | hx
    · obtain ⟨z, hz, hp⟩ := h.clo x hx hne
      exact ⟨z, by simp [hz], hp⟩
    · obtain rfl : x = _ := by simpa using hx
      simp only [List.dropLast_concat] at hne ⊢
      have hfs : fs ≠ [] := fun e => by subst e; simp [lstP] at hne
      obtain ⟨a, ha, hap⟩ := lstP_mem hfs
      obtain ⟨z, hz, hp⟩ := clo_pre h.clo ((lstP fs).drop d).length ((lstP fs).drop d) ((lstP fs).take d) a rfl ha (by rw [← hap, List.take_append_drop]) hne
      exact ⟨z, by simp [hz], hp⟩
  · intro x hx
    rcases List.mem_append.1 hx with hx | hx
    · exact h.kok x hx
    · obtain rfl : x = _ := by simpa using hx
      exact ⟨_, n, rfl⟩
  · intro x hx
    rcases List.mem_append.1 hx with hx | hx
    · exact h.four x hx
    · obtain rfl : x = _ := by simpa using hx
      simp; omega
theorem lstP_app (fs : List Fl) (x : Fl) : lstP (fs ++ [x]) = x.p := by simp [lstP]
theorem prs_ref (t : List UInt8) : ∀ (f i ln dp : Nat) (ks : List Ky) (fs : List Fl), Inv fs → ks.length = 4 → dp ≤ 3 → dp ≤ (lstP fs).length → ks.take (lstP fs).length = lstP fs →
    prsG t f i ln dp ks fs = refG t f i ln dp fs ∧ Inv (prsG t f i ln dp ks fs).1
  | 0, _, _, _, _, _, _, _, _, _, _ => ⟨rfl, Inv.nil⟩
  | f + 1, i, ln, dp, ks, fs, hI, h4, h3, hl, hk => by
    simp only [prsG, refG]
    by_cases hi : i < t.length
    · rw [if_pos hi, if_pos hi]
      by_cases h60 : 60 ≤ ln
      · rw [if_pos h60, if_pos h60]; exact ⟨rfl, Inv.nil⟩
      · rw [if_neg h60, if_neg h60]
        obtain ⟨k1, k2, k3⟩ := kS_line dp (t.drop i)
        have hle := rdLine_le dp (t.drop i)
        rw [k1]
        generalize hr : rdLine dp (t.drop i) = r at *
        by_cases hok : r.2.2.2.2 = false
        · rw [if_pos hok]
          have hc : (r.2.2.2.1 + (if r.2.2.2.2 = true then 1 else 0) = 0 ∨ t.getD (i + (r.2.2.2.1 + (if r.2.2.2.2 = true then 1 else 0)) - 1) 0 ≠ 10) := by
            rw [if_neg (by rw [hok]; simp), Nat.add_zero]
            by_cases h0 : r.2.2.2.1 = 0
            · exact .inl h0
            · refine .inr (fun e => ?_)
              have hlt : r.2.2.2.1 - 1 < (t.drop i).length := by omega
              refine k2 ((t.drop i)[r.2.2.2.1 - 1]) ?_ ?_
              · rw [List.mem_take_iff_getElem]
                exact ⟨r.2.2.2.1 - 1, by omega, rfl⟩
              · rw [List.getElem_drop]
                rw [List.length_drop] at hlt
                rw [List.getD_eq_getElem?_getD, List.getElem?_eq_getElem (by omega)] at e
                simp only [Option.getD_some] at e
                rw [← e]; congr 1; omega
          rw [if_pos hc, if_neg (by rw [hok]; simp), Nat.add_zero]
          exact ⟨rfl, Inv.nil⟩
        · have hok' : r.2.2.2.2 = true := by simpa using hok
          rw [if_neg hok]
          have hrl : blanksF ((t.drop i).take r.2.2.2.1) = r.1 ∧ ∃ ws, spl [] (((t.drop i).take r.2.2.2.1).drop r.1) = r.2.1 :: ws ∧ ws.map (fun l => ((decN l : Nat) : Int)) = r.2.2.1 ∧ ∀ v ∈ ws, DigW v := by
            have := rd_line dp (t.drop i) (by rw [hr]; exact hok')
            rwa [hr] at this
          have hlt := hle.2.2.2.2 hok'
          rw [List.length_drop] at hlt
          have h10 : t.getD (i + (r.2.2.2.1 + 1) - 1) 0 = 10 := by
            have := k3 hok'
            rw [List.drop_drop, List.head?_drop] at this
            rw [show i + (r.2.2.2.1 + 1) - 1 = i + r.2.2.2.1 by omega, List.getD_eq_getElem?_getD, this]; rfl
          simp only [hok', if_true, Nat.add_one_ne_zero, false_or, h10, ne_eq, not_true, if_false, Nat.add_sub_cancel]
          have hrd : refRd ((t.drop i).take r.2.2.2.1) = (r.1, r.2.1, r.2.2.1) := by
            obtain ⟨hb, ws, hw, hm, _⟩ := hrl
            simp only [refRd, hb, hw, List.tail_cons, hm]
            rfl
          rw [hrd]
          simp only
          have hd : r.1 ≤ (lstP fs).length := by omega
          have hp : (ks.set r.1 (kyOf r.2.1 r.2.2.1)).take (r.1 + 1) = (lstP fs).take r.1 ++ [kyOf r.2.1 r.2.2.1] := by
            have e1 : (lstP fs).take r.1 = ks.take r.1 := by
              rw [← hk, List.take_take, Nat.min_eq_left hd]
            rw [e1, List.take_succ_eq_append_getElem (by rw [List.length_set]; omega), List.take_set_of_le (Nat.le_refl _)]
            simp
          rw [hp, order_eq hI hd]
          by_cases ho : fs.any (sibB r.1 ((lstP fs).take r.1 ++ [kyOf r.2.1 r.2.2.1])) = true
          · rw [if_pos ho, if_pos ho]; exact ⟨rfl, Inv.nil⟩
          · rw [if_neg ho, if_neg ho]
            have ho' := order_eq hI hd (k := kyOf r.2.1 r.2.2.1)
            rw [show fs.any (sibB r.1 ((lstP fs).take r.1 ++ [kyOf r.2.1 r.2.2.1])) = false by simpa using ho] at ho'
            have hI' := hI.more hd (by omega) ho'
            have := prs_ref t f (i + r.2.2.2.1 + 1) (ln + 1) (min (r.1 + 1) 3) (ks.set r.1 (kyOf r.2.1 r.2.2.1)) (fs ++ [⟨(lstP fs).take r.1 ++ [kyOf r.2.1 r.2.2.1], r.2.2.1⟩]) hI' (by rw [List.length_set]; exact h4) (by omega) (by rw [lstP_app]; simp; omega) (by
              rw [lstP_app]
              simp only [List.length_append, List.length_take, List.length_singleton]
              rw [Nat.min_eq_left hd]; exact hp)
            rw [← Nat.add_assoc]
            exact this
    · rw [if_neg hi, if_neg hi]; exact ⟨rfl, hI⟩
theorem prs_refP (t : List UInt8) : prs t = refP t ∧ Inv (prs t).1 := prs_ref t 62 0 0 0 _ [] Inv.nil rfl (by omega) (by simp) rfl
theorem tree_prs (t : List UInt8) : treR 4 (prs t).1 [] = (treF 0 (prs t).1).1 :=
  let h := (prs_refP t).2; treR_treF h.srt h.clo h.kok h.four
end Go.Proofs.LF
