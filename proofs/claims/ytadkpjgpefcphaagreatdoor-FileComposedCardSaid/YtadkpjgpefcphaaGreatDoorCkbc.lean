/- Parts of the proof of a law of layer 11 (file): LfPt, LfW74. The conditions stand in each theorem. -/
import Derived.Test.YtadkpjgpefcphaaGreatDoorProg
import Derived.Test.YtadkpjgpefcphaaGreatDoorCkae
import Derived.Test.YtadkpjgpefcphaaGreatDoorCkan
import Derived.Test.YtadkpjgpefcphaaGreatDoorCkaq
import Derived.Test.YtadkpjgpefcphaaGreatDoorCkaz
set_option linter.all false
set_option linter.unusedVariables false
set_option linter.unusedSimpArgs false
namespace Go.Proofs.LF
def OkG : Nat → Fo → Prop
 | _, .nil => True
 | d, .cons n l s r => (d ≤ 3 ∧ badNm n = false ∧ l.length ≤ 4 ∧ badNs l = false) ∧ OkG (d + 1) s ∧ (∀ k ∈ tops r, byK (kyOf n l) k < 0) ∧ OkG d r
theorem ite_zero {c : Prop} [Decidable c] {a b : Int} (ha : a ≠ 0) (h : (if c then a else b) = 0) : ¬ c ∧ b = 0 := by
 by_cases hc : c
 · rw [if_pos hc] at h; exact absurd h ha
 · rw [if_neg hc] at h; exact ⟨hc, h⟩
theorem okG_of : ∀ (y : Fo) (d : Nat) (p : Option Ky), ordG geK (d : Int) p y = 0 → OkG d y ∧ ∀ q, p = some q → ∀ k ∈ tops y, byK q k < 0
 | .nil, _, _, _ => ⟨trivial, fun _ _ _ h => by cases h⟩
 | .cons n l s r, d, p, h => by
   rw [ordG.eq_def] at h
   dsimp only at h
   obtain ⟨h1, h⟩ := ite_zero (by decide) h
   obtain ⟨h2, h⟩ := ite_zero (by decide) h
   obtain ⟨h3, h⟩ := ite_zero (by decide) h
   obtain ⟨h4, h⟩ := ite_zero (by decide) h
   obtain ⟨h5, h⟩ := ite_zero (by decide) h
   have h6 : ordG geK ((d + 1 : Nat) : Int) none s = 0 ∧ ordG geK (d : Int) (some (kyOf n l)) r = 0 := by
    rw [show ((d + 1 : Nat) : Int) = (d : Int) + 1 by omega]
    by_cases hc : ordG geK ((d : Int) + 1) none s = 0
    · rw [if_neg (by simp [hc])] at h
      exact ⟨hc, h⟩
    · rw [if_pos hc] at h
      exact absurd h hc
   obtain ⟨i1, _⟩ := okG_of s (d + 1) none h6.1
   obtain ⟨i2, i3⟩ := okG_of r d (some (kyOf n l)) h6.2
   refine ⟨⟨⟨by omega, by simpa using h2, by omega, by simpa using h4⟩, i1, i3 _ rfl, i2⟩, fun q hq k hk => ?_⟩
   subst hq
   have hqk : byK q (kyOf n l) < 0 := by
    have : geK q (kyOf n l) = false := by simpa using h5
    simp only [geK, decide_eq_false_iff_not] at this
    omega
   rcases List.mem_cons.1 hk with rfl | hk
   · exact hqk
   · exact byK_ord.trans hqk (i3 _ rfl k hk)
theorem chk_okG {y : Fo} (h : chkY y = 0) : OkG 0 y := by
 unfold chkY at h
 split at h
 · exact (okG_of y 0 none h).1
 · omega
theorem srt_ext : ∀ {l l' : List Fl}, Srt l → Srt l' → (∀ x, x ∈ l ↔ x ∈ l') → l = l'
 | [], [], _, _, _ => rfl
 | [], y :: l', _, _, h => by have := (h y).2 (by simp); cases this
 | x :: l, [], _, _, h => by have := (h x).1 (by simp); cases this
 | x :: l, y :: l', h1, h2, h => by
   obtain ⟨a1, a2⟩ := List.pairwise_cons.1 h1
   obtain ⟨b1, b2⟩ := List.pairwise_cons.1 h2
   have hxy : x = y := by
    rcases List.mem_cons.1 ((h x).1 (by simp)) with e | e
    · exact e
    · rcases List.mem_cons.1 ((h y).2 (by simp)) with e' | e'
      · exact e'.symm
      · have h3 := a1 y e'
        have h4 := b1 x e
        have := cmpP_ord.trans h3 h4
        rw [cmpP_ord.refl] at this
        omega
   subst hxy
   have hne : ∀ {z : Fl}, (z ∈ l ∨ z ∈ l') → z ≠ x := fun hz e => by
    subst e
    rcases hz with hz | hz
    · have := a1 _ hz; rw [cmpP_ord.refl] at this; omega
    · have := b1 _ hz; rw [cmpP_ord.refl] at this; omega
   rw [srt_ext a2 b2 fun z => ?_]
   constructor
   · intro hz
     rcases List.mem_cons.1 ((h z).1 (by simp [hz])) with e | e
     · exact absurd e (hne (.inl hz))
     · exact e
   · intro hz
     rcases List.mem_cons.1 ((h z).2 (by simp [hz])) with e | e
     · exact absurd e (hne (.inr hz))
     · exact e
end Go.Proofs.LF
namespace Go.Proofs.LF
open Go.RowKit Go.Sort
set_option maxHeartbeats 4000000
set_option maxRecDepth 100000
attribute [local go_sem] bs_toList bs_size bs_get
theorem okF_cntG : ∀ (y : Fo) (d : Nat) (n : Int), OkF d y → 0 ≤ n → n + y.cnt ≤ 80 → cntG (d : Int) n y = n + y.cnt
 | .nil, _, _, _, _, _ => by simp [cntG, Fo.cnt]
 | .cons nm l s r, d, n, ⟨h1, h2, h3, _, h5, _, h7⟩, h0, h => by
   simp only [Fo.cnt] at h ⊢
   have hn := (nmz_ok nm h2).2
   have e1 : cntG ((d : Int) + 1) 0 s = s.cnt := by
    have := okF_cntG s (d + 1) 0 h5 (by omega) (by omega)
    rw [show ((d + 1 : Nat) : Int) = (d : Int) + 1 by omega] at this
    omega
   rw [cntG, if_neg (by omega), e1, okF_cntG r d _ h7 (by omega) (by omega)]
   omega
theorem okF_many {y : Fo} (h : OkF 0 y) : decide (60 < cntG 0 0 y) = decide (60 < y.cnt) := by
 by_cases hc : y.cnt ≤ 80
 · have := okF_cntG y 0 0 h (by omega) (by omega)
   rw [show ((0 : Nat) : Int) = 0 from rfl] at this
   rw [this]; congr 1; apply propext; omega
 · rw [decide_eq_true (show 60 < y.cnt by omega)]
   apply decide_eq_true
   rcases Int.lt_or_le 80 (cntG 0 0 y) with h1 | h1
   · omega
   · have := (cntG_small y 0 0 (by omega) h1).1
     omega
theorem fewY_any (y : Fo) (a : Option Addr) (c : Nat) (S : Nat → Prop) (w : World) (hok : OkF 0 y) (hc : y.cnt ≤ 800) (hy : FSl S w (.slice a y.len c) y) (hS : ∀ q, S q → q < w.heap.size) :
 Calls Tryz.prog 40 #[.slice a y.len c] w fun e w' => e = .returned (.bool (decide (60 < y.cnt))) ∧ Below w.heap.size w w' := by
 have CN := hid (count_any (y.cnt + 1) y 0 a c S w (Nat.lt_succ_self _) (by omega) (by omega) hy hS)
 have hln := len_cnt y
 have hsm := okF_sm y 0 hok (by omega)
 have CK : ∀ w1, Below w.heap.size w w1 → Calls Tryz.prog 23 #[.slice a y.len c] w1 fun e w' => e = .returned (.int .i64 (chkY y)) ∧ Below w1.heap.size w1 w' := fun w1 h => Check_any y a c S w1 (hy.agree (Ag_b h hS)) (fun q hq => by have := hS q hq; have := h.size; omega) (by omega) hsm (by omega)
 have hch := okF_chk hok
 have hmy := okF_many hok
 obtain ⟨N, hN⟩ : ∃ N, cntG 0 0 y = N := ⟨_, rfl⟩
 rw [hN] at CN hmy
 by_cases h60 : 60 < y.cnt
 · rw [if_neg (by omega)] at hch
   rw [decide_eq_true h60] at hmy ⊢
   have hN60 : (60 : Int) < N := by simpa using hmy
   rw [hch] at CK
   have CK := hid CK
   clear hy hS hok hsm hch hmy hN h60
   go_enter Tryz.func40, Tryz.ntmps40
   go_wp2_with fail
   refine CN.out.mono ?_
   rintro e w1 ⟨rfl, hb1⟩
   have HB := hid hb1
   have CK1 := hid (CK.out w1 hb1)
   clear hb1
   go_wp2_with fail
   refine CK1.out.mono ?_
   rintro e w2 ⟨rfl, hb2⟩
   go_wp2_with fail
   go_ret
   exact ⟨rfl, HB.out.trans (hb2.mono HB.out.size)⟩
 · rw [decide_eq_false h60] at hmy ⊢
   have hN60 : ¬ (60 : Int) < N := by simpa using hmy
   clear hy hS hok hsm hch hmy hN h60 CK
   go_enter Tryz.func40, Tryz.ntmps40
   go_wp2_with fail
   refine CN.out.mono ?_
   rintro e w1 ⟨rfl, hb1⟩
   go_wp2_with fail
   go_ret
   exact ⟨rfl, hb1⟩
end Go.Proofs.LF
