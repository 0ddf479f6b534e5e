/- Parts of the proof of a law of layer 11 (file): LfW73. The conditions stand in each theorem. -/
import Derived.Test.YtadkpjgpefcphaaGreatDoorProg
import Derived.Test.YtadkpjgpefcphaaGreatDoorCkbd
set_option linter.all false
set_option linter.unusedVariables false
set_option linter.unusedSimpArgs false
namespace Go.Proofs.LF
open Go.RowKit Go.Sort
set_option maxHeartbeats 4000000
set_option maxRecDepth 100000
attribute [local go_sem] bs_toList bs_size bs_get
theorem okF_drop : ∀ {i d : Nat} {y : Fo}, OkF d y → OkF d (y.drop i)
 | 0, _, _, h => h
 | _ + 1, _, .nil, h => h
 | i + 1, _, .cons _ _ _ r, h => okF_drop (i := i) (y := r) h.2.2.2.2.2.2
theorem okF_take : ∀ {i d : Nat} {y r s : Fo} {n : List UInt8} {l : List Int}, OkF d y → y.drop i = .cons n l s r → ∀ p ∈ tops (y.take i), byK p (kyOf n l) < 0
 | 0, _, _, _, _, _, _, _, _, p, hp => by simp [Fo.take, tops] at hp
 | _ + 1, _, .nil, _, _, _, _, _, h, _, _ => by cases h
 | i + 1, d, .cons n0 l0 s0 r0, r, s, n, l, ho, h, p, hp => by
   have h' : r0.drop i = .cons n l s r := h
   have hin : kyOf n l ∈ tops r0 := by
    have : ∀ (z : Fo) (i : Nat), z.drop i = .cons n l s r → kyOf n l ∈ tops z := by
     intro z
     induction z with
     | nil => intro i h; cases i <;> cases h
     | cons a b c e _ ih =>
       intro i h
       cases i with
       | zero => simp only [Fo.drop, Fo.cons.injEq] at h; simp [tops, h.1, h.2.1]
       | succ i => exact List.mem_cons_of_mem _ (ih i h)
    exact this r0 i h'
   simp only [Fo.take, tops, List.mem_cons] at hp
   rcases hp with rfl | hp
   · exact ho.2.2.2.2.2.1 _ hin
   · exact okF_take ho.2.2.2.2.2.2 h' p hp
theorem kyOf_set {n : List UInt8} {l : List Int} {x : Int} : kyOf n (l.set 1 x) = kyOf n l := by
 cases l with
 | nil => rfl
 | cons a t => rfl
theorem oth_one {w w1 wr Wx w5 w7 : World} {u7 v' : Value} {y0 s' : Fo} {cs : List Value} {n : List UInt8} {l' : List Int} {an a5 : Option Addr} {cn c5 Bx b : Nat} {P Q S1 S3 : Nat → Prop} (hb : b < w.heap.size) (hww : w.heap.size ≤ w1.heap.size) (hwr : w1.heap.size ≤ wr.heap.size) (hBx : Bx = wr.heap.size) (hBxx : Bx < Wx.heap.size)
 (hKx : Keep (fun q => q = b ∨ S1 q) wr Wx) (hk5 : Keep (· = b) Wx w5) (hP : ∀ q, P q → w.heap.size ≤ q ∧ q < w1.heap.size) (hQ : ∀ q, Q q → w.heap.size ≤ q ∧ q < w1.heap.size) (hPQ : ∀ q, P q → ¬ Q q) (h1Q : ∀ q, S1 q → Q q) (h3Q : ∀ q, S3 q → Q q) (d13 : ∀ q, S1 q → ¬ S3 q)
 (hown : wr.ownsRow w1.heap.size 85 3 u7 y0.len cs) (hfc : FCs (fun q => P q ∨ Rx w1.heap.size wr.heap.size u7 q) wr y0 cs) (hno : Wx.ownsRow 0 3 1 (.slice an l'.length cn) l'.length (l'.map (Value.int .i64))) (hns : ∀ g, (Value.slice an l'.length cn).ownBlock = some g → S1 g)
 (hF5 : FSl (Rg Wx.heap.size w5.heap.size) w5 (.slice a5 s'.len c5) s') {row : World} (hrow : row = (w5.setCell ⟨Bx, 2, none⟩ (.slice a5 s'.len c5)).alloc (.cells #[.string (bs n), .slice an l'.length cn, .slice a5 s'.len c5] 85)) (hgrow : row.grownBy w7 u7.ownBlock) (hat : ∀ g, v'.ownBlock = some g → u7.ownBlock = some g ∨ g = row.heap.size) :
 FCs (fun q => (P q ∨ S1 q) ∨ Rx w1.heap.size w7.heap.size v' q) w7 (y0.app (.cons n l' s' .nil)) (cs ++ [.string (bs n), .slice an l'.length cn, .slice a5 s'.len c5]) ∧ (∀ q, q < wr.heap.size → q ≠ b → ¬ S1 q → u7.ownBlock ≠ some q → w7.heap[q]? = wr.heap[q]?) ∧ (∀ q, q < w5.heap.size → q ≠ Bx → u7.ownBlock ≠ some q → w7.heap[q]? = w5.heap[q]?) ∧ w5.heap.size < w7.heap.size := by
 have hz1 := hKx.size
 have hz5 := hk5.size
 have hz7 := hgrow.size
 have hzr : row.heap.size = w5.heap.size + 1 := by rw [hrow]; simp [World.setCell]
 have hold : ∀ q, u7.ownBlock = some q → w1.heap.size ≤ q ∧ q < wr.heap.size := fun q hq => hown.lt q hq
 have h57 : ∀ q, q < w5.heap.size → q ≠ Bx → u7.ownBlock ≠ some q → w7.heap[q]? = w5.heap[q]? := fun q h1 h2 h3 =>
  (hgrow.block q (by omega) (fun e => h3 e.symm)).trans (by rw [hrow]; exact (heap_alloc_old _ _ (by simp [World.setCell]; omega)).trans (Below.heap_setCell _ _ _ _ h2))
 have hr7 : ∀ q, q < wr.heap.size → q ≠ b → ¬ S1 q → u7.ownBlock ≠ some q → w7.heap[q]? = wr.heap[q]? := fun q h1 h2 h3 h4 =>
  (h57 q (by omega) (by omega) h4).trans ((hk5.block q (by omega) h2).trans (hKx.block q h1 (fun e => e.elim h2 h3)))
 have hnv : ∀ q, q < w5.heap.size + 1 → u7.ownBlock ≠ some q → v'.ownBlock ≠ some q := fun q h1 h2 e => by
  rcases hat q e with h | h
  · exact h2 h
  · omega
 have a1 : Agree (fun q => P q ∨ Rx w1.heap.size wr.heap.size u7 q) wr w7 := fun q hq => by
  rcases hq with hq | hq
  · have := hP q hq
    exact hr7 q (by omega) (by omega) (fun e => hPQ q hq (h1Q q e)) (fun e => by have := (hold q e).1; omega)
  · have h2 := hq.2.1
    have h1 := hq.1
    exact hr7 q h2 (by omega) (fun e => by have := hQ q (h1Q q e); omega) hq.2.2
 have m1 : FCs (fun q => (P q ∨ S1 q) ∨ Rx w1.heap.size w7.heap.size v' q) w7 y0 cs := (hfc.agree a1).wide fun q hq => by
  rcases hq with hq | hq
  · exact .inl (.inl hq)
  · have h2 := hq.2.1
    exact .inr ⟨hq.1, by omega, hnv q (by omega) hq.2.2⟩
 have hS1w : ∀ q, S1 q → w7.heap[q]? = Wx.heap[q]? := fun q hq => by
  have h := hQ q (h1Q q hq)
  exact (h57 q (by omega) (by omega) (fun e => by have := (hold q e).1; omega)).trans (hk5.block q (by omega) (by omega))
 have m2 : Ints (fun q => (P q ∨ S1 q) ∨ Rx w1.heap.size w7.heap.size v' q) w7 (.slice an l'.length cn) l' :=
  SlC.wide (FOCs.fcs.owns_slc (owns_agree hno fun g hg => hS1w g (hns g hg)) hns) fun q hq => .inl (.inr hq)
 have m3 : FSl (fun q => (P q ∨ S1 q) ∨ Rx w1.heap.size w7.heap.size v' q) w7 (.slice a5 s'.len c5) s' := (hF5.agree fun q hq => h57 q hq.2 (by have := hq.1; omega) (fun e => by have := (hold q e).2; have := hq.1; omega)).wide fun q hq => .inr ⟨by have := hq.1; omega, by have := hq.2; omega, hnv q (by have := hq.2; omega) (fun e => by have := (hold q e).2; have := hq.1; omega)⟩
 exact ⟨m1.app (FCs.one m2 m3), hr7, h57, by omega⟩
def zeroN : List UInt8 := [122, 101, 114, 111]
theorem nmz_zero : ∀ n ∈ nmz, Op.bytesLess zeroN n = false ∧ (n ≠ zeroN → Op.bytesLess n zeroN = true) := by decide
theorem okF_last : ∀ {d : Nat} {y r s : Fo} {n : List UInt8} {l : List Int} {k : Nat}, OkF d y → y.len = k + 1 → y.drop k = .cons n l s r → n ≠ zeroN → ∀ q ∈ tops y, q.n ∈ nmz ∧ q.n ≠ zeroN
 | _, .nil, _, _, _, _, _, _, h, _, _ => by simp [Fo.len] at h
 | d, .cons n0 l0 s0 r0, r, s, n, l, k, ho, hk, hd, hn => by
   cases k with
   | zero =>
     have hr : r0 = .nil := by cases r0 with | nil => rfl | cons _ _ _ _ => simp [Fo.len] at hk
     subst hr
     simp only [Fo.drop, Fo.cons.injEq] at hd
     intro q hq
     simp only [tops, List.mem_singleton] at hq
     rw [hq, tops_n, hd.1]
     exact ⟨by rw [← hd.1]; exact ho.2.1, hn⟩
   | succ k =>
     have hk' : r0.len = k + 1 := by simp only [Fo.len] at hk; omega
     have ih := okF_last (y := r0) (k := k) ho.2.2.2.2.2.2 hk' hd hn
     intro q hq
     simp only [tops, List.mem_cons] at hq
     rcases hq with rfl | hq
     · rw [tops_n]
       refine ⟨ho.2.1, fun e => ?_⟩
       cases r0 with
       | nil => simp [Fo.len] at hk'
       | cons n1 l1 s1 r1 =>
         have h1 := ho.2.2.2.2.2.1 (kyOf n1 l1) (by simp [tops])
         have h2 := ih (kyOf n1 l1) (by simp [tops])
         rw [tops_n] at h2
         have hz := (nmz_zero n1 h2.1).1
         have hb : byK (kyOf n0 l0) (kyOf n1 l1) = cmpB n0 n1 := by
          unfold byK
          rw [tops_n, tops_n, if_pos (by rw [e]; exact fun h => h2.2 h.symm)]
         rw [hb, e] at h1
         unfold cmpB at h1
         rw [if_neg (by rw [hz]; simp)] at h1
         split at h1 <;> omega
     · exact ih q hq
theorem okF_zero {d : Nat} {y : Fo} {r1 r2 : Nat} (ho : OkF d y) (hd : d ≤ 3) (h1 : r1 ≤ 2) (h2 : r2 ≤ 4) (ht : ∀ q ∈ tops y, q.n ∈ nmz ∧ q.n ≠ zeroN) : OkF d (y.app (.cons zeroN [(r1 : Int), (r2 : Int)] .nil .nil)) :=
 ho.app (OkF.one hd (by decide) (by simp) (fun x hx => by simp only [List.mem_cons, List.not_mem_nil, or_false] at hx; rcases hx with rfl | rfl <;> omega) trivial) fun a ha b hb => by
  simp only [tops, List.mem_singleton] at hb
  subst hb
  exact byK_nm (by rw [tops_n]; exact (nmz_zero a.n (ht a ha).1).2 (ht a ha).2)
theorem oth_zero {w w1 wr wb wc : World} {y0 : Fo} {cs : List Value} {a7 ac : Option Addr} {c7 cc b r1 r2 : Nat} {P S0 : Nat → Prop} (hb : b < w.heap.size) (hww : w.heap.size ≤ w1.heap.size) (hwr : w1.heap.size ≤ wr.heap.size) (hk : Keep (· = b) wr wb) (hkw : Keep (· = b) w wb) (hP : ∀ q, P q → w.heap.size ≤ q ∧ q < w1.heap.size) (hH : Hp b S0 wb) (hS0 : ∀ q, S0 q → q < w.heap.size)
 (hown : wr.ownsRow w1.heap.size 85 3 (.slice a7 y0.len c7) y0.len cs) (hfc : FCs (fun q => P q ∨ Rx w1.heap.size wr.heap.size (.slice a7 y0.len c7) q) wr y0 cs)
 (hownc : wc.ownsRow w1.heap.size 85 3 (.slice ac (y0.len + 1) cc) (y0.len + 1) (cs ++ [.string (bs zeroN), .slice (some ⟨wb.heap.size, 0, none⟩) 2 2, .slice none 0 0]))
 (hgrow : ((wb.alloc (.cells #[.int .i64 r1, .int .i64 r2] 3)).alloc (.cells #[.string (bs zeroN), .slice (some ⟨wb.heap.size, 0, none⟩) 2 2, .slice none 0 0] 85)).grownBy wc (Value.slice a7 y0.len c7).ownBlock)
 (hat : ∀ g, (Value.slice ac (y0.len + 1) cc).ownBlock = some g → (Value.slice a7 y0.len c7).ownBlock = some g ∨ g = ((wb.alloc (.cells #[.int .i64 r1, .int .i64 r2] 3)).alloc (.cells #[.string (bs zeroN), .slice (some ⟨wb.heap.size, 0, none⟩) 2 2, .slice none 0 0] 85)).heap.size) :
 FSl (Rg w.heap.size wc.heap.size) wc (.slice ac (y0.app (.cons zeroN [(r1 : Int), (r2 : Int)] .nil .nil)).len cc) (y0.app (.cons zeroN [(r1 : Int), (r2 : Int)] .nil .nil)) ∧ Hp b S0 wc ∧ Keep (· = b) w wc := by
 have hz1 := hk.size
 have hz2 := hgrow.size
 simp only [World.size_alloc] at hz2
 have hold : ∀ q, (Value.slice a7 y0.len c7).ownBlock = some q → w1.heap.size ≤ q ∧ q < wr.heap.size := fun q hq => hown.lt q hq
 have hbc : ∀ q, q < wb.heap.size → (Value.slice a7 y0.len c7).ownBlock ≠ some q → wc.heap[q]? = wb.heap[q]? := fun q h1 h2 =>
  (hgrow.block q (by simp; omega) (fun e => h2 e.symm)).trans ((heap_alloc_old _ _ (by simp; omega)).trans (heap_alloc_old _ _ h1))
 have hnum : wc.heap[wb.heap.size]? = some (.cells #[.int .i64 r1, .int .i64 r2] 3 (0, 0)) :=
  (hgrow.block _ (by simp; omega) (fun e => by have := (hold _ e.symm).2; omega)).trans ((heap_alloc_old _ _ (by simp)).trans (heap_alloc_new _ _))
 have m1 : FCs (Rg w.heap.size wc.heap.size) wc y0 cs := (hfc.agree fun q hq => (hbc q (by rcases hq with h | h; have := hP q h; omega; have := h.2.1; omega) (fun e => by
  rcases hq with h | h
  · have := hP q h; have := (hold q e).1; omega
  · exact h.2.2 e)).trans (hk.block q (by rcases hq with h | h; have := hP q h; omega; exact h.2.1) (by rcases hq with h | h; have := hP q h; omega; have := h.1; omega))).wide fun q hq => by
  rcases hq with h | h
  · have := hP q h; exact ⟨this.1, by omega⟩
  · exact ⟨by have := h.1; omega, by have := h.2.1; omega⟩
 have m2 : Ints (Rg w.heap.size wc.heap.size) wc (.slice (some ⟨wb.heap.size, 0, none⟩) [(r1 : Int), (r2 : Int)].length 2) [(r1 : Int), (r2 : Int)] := by
  refine ⟨rfl, _, 2, rfl, by simp, by simp [maxLen], (fun h => by cases h), .inr ⟨wb.heap.size, 0, rfl, ⟨by omega, by omega⟩, fun j u hj => ?_⟩⟩
  have := cg_ hnum (k := j) (v := u) (by simpa using hj)
  simpa using this
 have m3 : FSl (Rg w.heap.size wc.heap.size) wc (.slice none (Fo.nil).len 0) .nil := ⟨[], ⟨rfl, none, 0, rfl, nl_ _, by simp [maxLen], fun _ => rfl, .inl rfl⟩, rfl⟩
 have hnb : ∀ q, q < w.heap.size → (Value.slice a7 y0.len c7).ownBlock ≠ some q := fun q hq e => by have := (hold q e).1; omega
 refine ⟨⟨_, ?_, m1.app (FCs.one (n := zeroN) m2 m3)⟩, hH.agree (hbc b (by omega) (hnb b hb)) (fun q hq => hbc q (by have := hS0 q hq; omega) (hnb q (hS0 q hq))), hgrow.os.trans hkw.os, hgrow.tape.trans hkw.tape, hgrow.output.trans hkw.output, by have := hkw.size; omega, fun q hq hn => (hbc q (by have := hkw.size; omega) (hnb q hq)).trans (hkw.block q hq hn)⟩
 rw [Fo.len_app]
 exact (SlC.of_owns hownc).wide fun q hq => ⟨by have := hq.1; omega, hq.2⟩
def OthC (m : Nat) : Prop := ∀ (d : Nat) (y : Fo) (a : Option Addr) (c b : Nat) (S0 S : Nat → Prop) (w : World), y.cnt < m → y.cnt ≤ 300 → OkF d y → d ≤ 4 → FSl S w (.slice a y.len c) y → (∀ q, S q → q < w.heap.size) → Hp b S0 w → b < w.heap.size → (∀ q, S0 q → q < w.heap.size) →
 Calls Tryz.prog 125 #[.pointer (some ⟨b, 0, none⟩), .slice a y.len c, .int .i64 d] w fun e w' => ∃ y' a' c', e = .returned (.slice a' y'.len c') ∧ FSl (Rg w.heap.size w'.heap.size) w' (.slice a' y'.len c') y' ∧ OkF d y' ∧ y'.cnt ≤ 2 * y.cnt + 1 ∧ Hp b S0 w' ∧ Keep (· = b) w w'
theorem others_any (m : Nat) (IH : OthC m) : OthC (m + 1) := by
 intro d y a c b S0 S w hm h300 hok hd4 hy hS hH hb hS0
 obtain ⟨i0, hi0, hz0, hz1, hz2⟩ := info_parts Tryz.info85
 have hsm := okF_sm y d hok (by omega)
 have hln := len_cnt y
 have OW := hid (Own_own y a c S w hy hS (by omega) hsm)
 have IH := hid IH
 have HS0 := hid hS0
 have HH := hid hH
 have HOKY := hid hok
 clear hy hS hH hok hsm hS0
 go_enter Tryz.func125, Tryz.ntmps125
 go_wp2_with fail
 refine OW.out.mono ?_
 rintro e w1 ⟨ao, co, rfl, ⟨ds, hownO, hFN⟩, hB1⟩
 have hz1' := hB1.size
 have HWW := hid hz1'
 obtain ⟨go, hgo, hgo2, hfgo⟩ : ∃ go, w.heap.size ≤ go ∧ (0 < y.len → go < w1.heap.size) ∧ (0 < y.len → ao = some ⟨go, 0, none⟩) := by
  by_cases h0 : 0 < y.len
  · obtain ⟨g, cap, he, h1, h2⟩ := hownO.form h0
    cases he
    exact ⟨g, h1, fun _ => h2, fun _ => rfl⟩
  · exact ⟨w.heap.size, nl_ _, fun h => absurd h h0, fun h => absurd h h0⟩
 have hcells : ∀ j u, 0 < y.len → ds[j]? = some u → w1.cell? ⟨go, j, none⟩ = some u := fun j u h0 hj => by
  obtain ⟨g, o, he, _, _, _, hc⟩ := SlC.cells (SlC.of_owns hownO) h0
  have h1 := hfgo h0
  rw [h1] at he
  cases he
  have := hc j u hj
  rwa [Nat.zero_add] at this
 have HCE := hid hcells
 have HFG := hid hfgo
 have HFN := hid hFN
 have HOO := hid hownO
 have HB1 := hid hB1
 clear hcells hfgo hFN hB1
 go_wp2_with fail
 go_loopw [7, 13] (fun v iv wr => ∃ (i : Nat) (y0 : Fo) (cs : List Value) (P Q : Nat → Prop), i ≤ y.len ∧ iv = .int .i64 i ∧ wr.ownsRow w1.heap.size 85 3 v y0.len cs ∧ w1.heap.size ≤ wr.heap.size ∧ y0.len ≤ i ∧ y0.cnt ≤ 2 * (y.take i).cnt ∧ Hid (FCs (fun q => P q ∨ Rx w1.heap.size wr.heap.size v q) wr y0 cs) ∧ Hid (∀ q, P q → w.heap.size ≤ q ∧ q < w1.heap.size) ∧ Hid (∀ q, Q q → w.heap.size ≤ q ∧ q < w1.heap.size) ∧ Hid (∀ q, P q → ¬ Q q) ∧ Hid (FNCs Q wr (y.drop i) (ds.drop (i * 3))) ∧ Hid (wr.heap[go]? = w1.heap[go]?) ∧ Hid (¬ Q go) ∧ Hid (OkF d y0) ∧ Hid (∀ k ∈ tops y0, k ∈ tops (y.take i)) ∧ Hid (Hp b S0 wr) ∧ Hid (Keep (· = b) w wr)) (fun _ iv _ => y.len - (intOf iv).toNat)
 case atStart =>
  refine ⟨0, .nil, [], fun _ => False, fun q => Rx w.heap.size w1.heap.size (.slice ao y.len co) q ∧ q ≠ go, by omega, rfl, World.ownsRow_nil _ _ _ _, nl_ _, by simp [Fo.len], by simp [Fo.cnt], rfl, (fun q hq => hq.elim), (fun q hq => ⟨hq.1.1, hq.1.2.1⟩), (fun q hq => hq.elim), ?_, rfl, (fun e => e.2 rfl), trivial, (fun k hk => by cases hk), HH.out.below hb HS0.out HB1.out, Keep.of_below HB1.out⟩
  unfold Hid
  simp only [Fo.drop, Nat.zero_mul, List.drop_zero]
  by_cases h0 : 0 < y.len
  · refine HFN.out.wide fun q hq => ⟨hq, fun e => hq.2.2 ?_⟩
    rw [HFG.out h0, e]; rfl
  · have hn : y = .nil := by cases y with | nil => rfl | cons _ _ _ _ => simp [Fo.len] at h0
    have h := HFN.out
    subst hn
    exact h
 case round =>
  obtain ⟨i, y0, cs, P, Q, hi, rfl, hown, hwr, hyl, hyc, hfc, HP, HQ, HPQ, hFN, HGO, HQG, HOK, HTP, hH, hK⟩ := hrel
  have i1 : (0 : Int) ≤ (i : Int) := by omega
  have hz := hK.out.size
  by_cases hlt : i < y.len
  · have hlt' : (i : Int) < (y.len : Int) := by omega
    obtain ⟨n, l, s, r, hd⟩ := Fo.drop_lt hlt
    have hFN := hFN.out
    rw [hd] at hFN
    obtain ⟨vn, vs, ds', S1, S2, S3, hds, hsub, d12, d13, d23, hno, hns, hF2, hFr⟩ := hFN
    obtain ⟨an, cn, rfl, _, _⟩ := owns_shape hno
    obtain ⟨as_, cs_, he, _, _, _⟩ := hF2.at
    subst he
    have hao := HFG.out (by omega)
    subst hao
    have hgo1 := hgo2 (by omega)
    have hde : ∀ j, ds[i * 3 + j]? = (Value.string (bs n) :: Value.slice an l.length cn :: Value.slice as_ s.len cs_ :: ds')[j]? := fun j => by rw [← hds, List.getElem?_drop]
    have c0 : wr.cell? ⟨go, i * 3, none⟩ = some (.string (bs n)) := by
     rw [World.cell?_of_block (w := w1) HGO.out]
     exact HCE.out _ _ (by omega) (by have := hde 0; simpa using this)
    have c1 : wr.cell? ⟨go, i * 3 + 1, none⟩ = some (.slice an l.length cn) := by
     rw [World.cell?_of_block (w := w1) HGO.out]
     exact HCE.out _ _ (by omega) (by have := hde 1; simpa using this)
    have c2 : wr.cell? ⟨go, i * 3 + 2, none⟩ = some (.slice as_ s.len cs_) := by
     rw [World.cell?_of_block (w := w1) HGO.out]
     exact HCE.out _ _ (by omega) (by have := hde 2; simpa using this)
    have hoy := okF_drop (i := i) HOKY.out
    rw [hd] at hoy
    obtain ⟨hd3, o2, o3, o4, o5, _, _⟩ := hoy
    have hcm := Fo.cnt_at hd
    have hcm : s.cnt < m := by omega
    have HNm := hid o2
    have HOs := hid o5
    have HTL := hid (okF_take HOKY.out hd)
    have HD := hid hd
    have DS : Hid (ds.drop ((i + 1) * 3) = ds') := by
     have h9 := congrArg (List.drop 3) hds
     rw [List.drop_drop] at h9
     rw [Hid, show (i + 1) * 3 = i * 3 + 3 by omega, h9]
     rfl
    have hsub := hid hsub
    have d12 := hid d12
    have d13 := hid d13
    have hF2 := hid hF2
    have hFr := hid hFr
    have HL4 := hid o3
    have HLR := hid o4
    have HNS := hid hns
    have HNOr := hid hno
    clear hde hds hd d23 hns hno o2 o3 o4 o5
    obtain ⟨W2, hW2⟩ : ∃ W2, wr.alloc (.cells #[.string (bs n), .slice an l.length cn, .slice as_ s.len cs_] 85) = W2 := ⟨_, rfl⟩
    obtain ⟨Bx, hBx⟩ : ∃ Bx, wr.heap.size = Bx := ⟨_, rfl⟩
    have hB2 : Below wr.heap.size wr W2 := by rw [← hW2]; exact (Below.refl _ _).alloc (nl_ _) _
    have hz2' : W2.heap.size = Bx + 1 := by rw [← hW2, ← hBx]; simp
    have hk2 : W2.heap[Bx]? = some (.cells #[.string (bs n), .slice an l.length cn, .slice as_ s.len cs_] 85 (0, 0)) := by rw [← hW2, ← hBx]; exact heap_alloc_new _ _
    have O6 := hid (Once_any b S0 W2 5 (by omega) (hH.out.below (by omega) (fun q hq => by have := HS0.out q hq; omega) hB2))
    have HB2 := hid hB2
    have HK2 := hid hk2
    have HW2 := hid hW2
    have HBXw := hid hBx.symm
    have HZ2 := hid hz2'
    clear hB2 hk2 hW2 hBx hz2'
    go_wp2_with fail
    simp only [HW2.out, HBXw.out.symm]
    refine O6.out.mono ?_
    rintro e W3 ⟨q1, rfl, hH3, hk3⟩
    have hzz3 := hk3.size
    have hbxw := HBXw.out
    have hzz2 := HZ2.out
    have hbx3 : W3.heap[Bx]? = some (.cells #[.string (bs n), .slice an l.length cn, .slice as_ s.len cs_] 85 (0, 0)) := (hk3.block Bx (by omega) (by omega)).trans HK2.out
    have hmv3 : ∀ q, q < wr.heap.size → q ≠ b → W3.heap[q]? = wr.heap[q]? := fun q h1 h2 => (hk3.block q (by omega) h2).trans (HB2.out.block q h1)
    have HMV3 := hid hmv3
    have HBX3 := hid hbx3
    have HH3 := hid hH3
    have HO3 : Hid (W3.os = wr.os ∧ W3.tape = wr.tape ∧ W3.output = wr.output) := ⟨hk3.os.trans HB2.out.os, hk3.tape.trans HB2.out.tape, hk3.output.trans HB2.out.output⟩
    have hno3 : Hid (W3.ownsRow 0 3 1 (.slice an l.length cn) l.length (l.map (Value.int .i64))) := owns_agree HNOr.out fun g hg => hmv3 g (by have := HQ.out g (hsub.out g (.inl (HNS.out g hg))); omega) (by have := HQ.out g (hsub.out g (.inl (HNS.out g hg))); omega)
    have HBB : Hid (Bx + 1 ≤ W3.heap.size) := by unfold Hid; omega
    clear hk3 hbx3 hmv3 hH3 hbxw hzz2 hzz3
    cases q1 with
    | true =>
      have hbb := HBB.out
      have hbw1 : Bx ≤ wr.heap.size := by have := HBXw.out; omega
      have hbw2 : wr.heap.size ≤ Bx := by have := HBXw.out; omega
      have r1 : W3.ownsRow w1.heap.size 85 3 u7 y0.len cs := owns_agree hown fun q hq => HMV3.out q (hown.lt q hq).2 (by have := (hown.lt q hq).1; omega)
      have r2 : Hid (FCs (fun q => P q ∨ Rx w1.heap.size W3.heap.size u7 q) W3 y0 cs) := (hfc.out.agree fun q hq => HMV3.out q (by rcases hq with h | h; have := HP.out q h; omega; exact h.2.1) (by rcases hq with h | h; have := HP.out q h; omega; have := h.1; omega)).wide fun q hq => hq.imp id fun h => ⟨h.1, by have := h.2.1; omega, h.2.2⟩
      have r3 : Hid (FNCs S3 W3 (y.drop (i + 1)) (ds.drop ((i + 1) * 3))) := by
       rw [Fo.drop_succ HD.out, Hid, DS.out]
       exact hFr.out.agree fun q hq => HMV3.out q (by have := HQ.out q (hsub.out q (.inr (.inr hq))); omega) (by have := HQ.out q (hsub.out q (.inr (.inr hq))); omega)
      have r4 : Hid (W3.heap[go]? = w1.heap[go]?) := (HMV3.out go (by omega) (by omega)).trans HGO.out
      have r5 : Hid (¬ S3 go) := fun e => HQG.out (hsub.out go (.inr (.inr e)))
      have r6 : Hid (∀ k ∈ tops y0, k ∈ tops (y.take (i + 1))) := fun k hk => by rw [Fo.take_succ HD.out, tops_app]; exact List.mem_append.2 (.inl (HTP.out k hk))
      have r7 : Hid (Keep (· = b) w W3) := ⟨HO3.out.1.trans hK.out.os, HO3.out.2.1.trans hK.out.tape, HO3.out.2.2.trans hK.out.output, by omega, fun q hq hn => (HMV3.out q (by omega) hn).trans (hK.out.block q hq hn)⟩
      have r8 : y0.cnt ≤ 2 * (y.take (i + 1)).cnt := by rw [Fo.take_succ HD.out, Fo.cnt_app]; omega
      have r9 : Hid (∀ q, S3 q → w.heap.size ≤ q ∧ q < w1.heap.size) := fun q hq => HQ.out q (hsub.out q (.inr (.inr hq)))
      have r10 : Hid (∀ q, P q → ¬ S3 q) := fun q hq h3 => HPQ.out q hq (hsub.out q (.inr (.inr h3)))
      go_wp2_with fail
      go_roundw
      case rel => exact ⟨i + 1, y0, cs, P, S3, by omega, by go_num, r1, by omega, by omega, r8, r2, HP, r9, r10, r3, r4, r5, HOK, r6, HH3, r7⟩
      case measure => simp [intOf]; omega
    | false =>
      by_cases hl1 : 1 < l.length
      · have hl1' : (1 : Int) < (l.length : Int) := by omega
        obtain ⟨_, h0 | ⟨gn, capn, cur, hv, _, hg, hcn, hcm9, hcs, hct⟩⟩ := hno3.out
        · have := h0.2; omega
        cases hv
        have hS1g : S1 gn := HNS.out gn rfl
        have hgQ := HQ.out gn (hsub.out gn (.inl hS1g))
        have hcu : cur[1]? = some (.int .i64 l[1]) := by
         have h := congrArg (fun z => z[1]?) hct
         simp only [List.getElem?_take, List.getElem?_map] at h
         rw [if_pos (by omega), List.getElem?_eq_getElem hl1] at h
         simpa using h
        have HCU := hid hcu
        have HCN := hid (And.intro hcn (And.intro hcm9 (And.intro hcs hct)))
        have HG1 := hid hS1g
        have HGN3 := hid hg
        have hbw1 : Bx ≤ wr.heap.size := by have := HBXw.out; omega
        have hbw2 : wr.heap.size ≤ Bx := by have := HBXw.out; omega
        have hbb := HBB.out
        have b0 := cg_ HBX3.out (k := 1) rfl
        have O3 := hid (Once_any b S0 W3 2 (by omega) HH3.out)
        clear hcu hcn hcm9 hcs hct hS1g hg
        go_upto_if 26 with (refine O3.out.mono ?_; rintro e w4 ⟨q2, rfl, hH4, hk4⟩)
        have hz4 := hk4.size
        have HBX4 : Hid (w4.heap[Bx]? = some (.cells #[.string (bs n), .slice (some ⟨gn, 0, none⟩) l.length cn, .slice as_ s.len cs_] 85 (0, 0))) := (hk4.block Bx (by omega) (by omega)).trans HBX3.out
        have HGN4 : Hid (w4.heap[gn]? = some (.cells cur 3 (0, 0))) := (hk4.block gn (by omega) (by omega)).trans HGN3.out
        have HO4 : Hid (w4.os = wr.os ∧ w4.tape = wr.tape ∧ w4.output = wr.output) := ⟨hk4.os.trans HO3.out.1, hk4.tape.trans HO3.out.2.1, hk4.output.trans HO3.out.2.2⟩
        have HMV4 : Hid (∀ q, q < wr.heap.size → q ≠ b → w4.heap[q]? = wr.heap[q]?) := fun q h1 h2 => (hk4.block q (by omega) h2).trans (HMV3.out q h1 h2)
        have HH4 := hid hH4
        have hNO4 : Hid (w4.ownsRow 0 3 1 (.slice (some ⟨gn, 0, none⟩) l.length cn) l.length (l.map (Value.int .i64))) := owns_agree hno3.out fun g hg => by cases hg; exact hk4.block gn (by omega) (by omega)
        have hBx4 : Bx < w4.heap.size := by omega
        have hgn4 : gn < w4.heap.size := by omega
        have bc1 := cg_ HBX4.out (k := 1) rfl
        clear hk4 hH4 b0
        go_cut [] from 27 to 31 (fun wx => ∃ l' : List Int, l'.length = l.length ∧ Hid (kyOf n l' = kyOf n l) ∧ Hid (∀ x ∈ l', 0 ≤ x ∧ x ≤ 9999) ∧ Hid (wx.heap[Bx]? = some (.cells #[.string (bs n), .slice (some ⟨gn, 0, none⟩) l.length cn, .slice as_ s.len cs_] 85 (0, 0))) ∧ Hid (wx.ownsRow 0 3 1 (.slice (some ⟨gn, 0, none⟩) l.length cn) l.length (l'.map (Value.int .i64))) ∧ Hid (Keep (fun q => q = b ∨ S1 q) wr wx) ∧ Hid (Hp b S0 wx))
        case first =>
         cases q2 with
         | false =>
           go_wp2_with fail
           go_meet
           case rel => exact ⟨l, rfl, rfl, HLR, HBX4, hNO4, ⟨HO4.out.1, HO4.out.2.1, HO4.out.2.2, by omega, fun q hq hn => HMV4.out q hq (fun e => hn (.inl e))⟩, HH4⟩
         | true =>
           go_wp2_with fail
           refine (wpIn_wide (n := 9)).1 ?_
           refine region_T (fun w' : World => w'.cell? ⟨Bx, 1, none⟩ = some (.slice (some ⟨gn, 0, none⟩) l.length cn)) 5 (by kernel_rfl) ?_
           have hS0 : (fun w' : World => w'.cell? ⟨Bx, 1, none⟩ = some (.slice (some ⟨gn, 0, none⟩) l.length cn)) w4.drew := bc1
           refine AnyT_takeD (fun _ => trivial) (by kernel_rfl) 0 27 (.pointer (some ⟨Bx, 1, none⟩)) rfl rfl (by kernel_rfl) (by kernel_rfl) (by kernel_rfl) (by decide) (by kernel_rfl) (fun _ _ _ h => h) (.inl ⟨by kernel_rfl, fun w' hs => ?_⟩) hS0 ?_
           · go_simp
           refine AnyT_takeD (fun _ => trivial) (by kernel_rfl) 1 28 (.slice (some ⟨gn, 0, none⟩) l.length cn) rfl rfl (by kernel_rfl) (by kernel_rfl) (by kernel_rfl) (by decide) (by kernel_rfl) (fun _ _ _ h => h) (.inl ⟨by kernel_rfl, fun w' hs => ?_⟩) hS0 ?_
           · go_simp
           refine AnyT_takeD (fun _ => trivial) (by kernel_rfl) 2 29 (.pointer (some ⟨b, 0, none⟩)) rfl rfl (by kernel_rfl) (by kernel_rfl) (by kernel_rfl) (by decide) (by kernel_rfl) (fun _ _ _ h => h) (.inl ⟨by kernel_rfl, fun w' hs => ?_⟩) hS0 ?_
           · go_simp
           refine AnyT_one (i := 3) (by kernel_rfl) rfl (by kernel_rfl) (by decide) (fun K hK => ?_)
           go_simp
           refine ⟨trivial, (callsIn_wide.2 (Upto_any b S0 w4.drew 9 (by omega) (HH4.out.agree rfl Agree.refl))).mono ?_⟩
           rintro e w6 ⟨r6, rfl, hr6, hH6, hk6⟩
           have hz6 : w4.heap.size ≤ w6.heap.size := hk6.size
           have bb6 : w6.heap[Bx]? = some (.cells #[.string (bs n), .slice (some ⟨gn, 0, none⟩) l.length cn, .slice as_ s.len cs_] 85 (0, 0)) := (hk6.block Bx hBx4 (show Bx ≠ b by omega)).trans HBX4.out
           have hg6 : w6.heap[gn]? = some (.cells cur 3 (0, 0)) := (hk6.block gn hgn4 (show gn ≠ b by omega)).trans HGN4.out
           have bc6 := cg_ bb6 (k := 1) rfl
           refine hK _ _ ⟨bc6, ?_⟩
           clear hK
           have hS6 : (fun w' : World => w'.cell? ⟨Bx, 1, none⟩ = some (.slice (some ⟨gn, 0, none⟩) l.length cn)) w6 := bc6
           refine AnyT_takeD (fun _ => trivial) (by kernel_rfl) 4 31 (.pointer (some ⟨gn, 1, none⟩)) rfl rfl (by kernel_rfl) (by kernel_rfl) (by kernel_rfl) (by decide) (by kernel_rfl) (fun _ _ _ h => h) (.inl ⟨by kernel_rfl, fun w' hs => ?_⟩) hS6 ?_
           · go_simp
           have g6 : w6.cell? ⟨gn, 1, none⟩ = some (.int .i64 l[1]) := cg_ hg6 (k := 1) HCU.out
           have fz6 := cells_frz hg6 (k := 1)
           refine AnyT_last (by kernel_rfl) rfl (by kernel_rfl) (by kernel_rfl) (fun K hK => ?_)
           go_simp
           refine hK _ _ ?_
           clear hK
           go_simp
           have n1 : Hid ((w6.setCell ⟨gn, 1, none⟩ (.int .i64 r6)).heap[Bx]? = some (.cells #[.string (bs n), .slice (some ⟨gn, 0, none⟩) l.length cn, .slice as_ s.len cs_] 85 (0, 0))) := (Below.heap_setCell _ _ _ _ (show Bx ≠ gn by omega)).trans bb6
           have n2 : Hid ((w6.setCell ⟨gn, 1, none⟩ (.int .i64 r6)).ownsRow 0 3 1 (.slice (some ⟨gn, 0, none⟩) l.length cn) l.length ((l.set 1 (r6 : Int)).map (Value.int .i64))) :=
            ⟨by simp, .inr ⟨gn, cn, cur.setIfInBounds 1 (.int .i64 r6), rfl, Nat.zero_le _, by simp [World.setCell, Array.getElem?_modify, hg6], HCN.out.1, HCN.out.2.1, by rw [Array.size_setIfInBounds]; exact HCN.out.2.2.1, by rw [Array.toList_setIfInBounds, List.take_set, HCN.out.2.2.2, List.map_set]⟩⟩
           have n3 : Hid (Keep (fun q => q = b ∨ S1 q) wr (w6.setCell ⟨gn, 1, none⟩ (.int .i64 r6))) := ⟨hk6.os.trans HO4.out.1, hk6.tape.trans HO4.out.2.1, hk6.output.trans HO4.out.2.2, by simp [World.setCell]; omega, fun q hq hn => (Below.heap_setCell _ _ _ _ (show q ≠ gn from fun e => hn (.inr (by rw [e]; exact HG1.out)))).trans ((hk6.block q (show q < w4.heap.size by omega) (fun e => hn (.inl e))).trans (HMV4.out q hq (fun e => hn (.inl e))))⟩
           have n4 : Hid (Hp b S0 (w6.setCell ⟨gn, 1, none⟩ (.int .i64 r6))) := hH6.agree (Below.heap_setCell _ _ _ _ (show b ≠ gn by omega)) (fun q hq => Below.heap_setCell _ _ _ _ (show q ≠ gn by have := HS0.out q hq; omega))
           have n5 : Hid (∀ x ∈ l.set 1 (r6 : Int), 0 ≤ x ∧ x ≤ 9999) := fun x hx => by
            rcases List.mem_or_eq_of_mem_set hx with h | h
            · exact HLR.out x h
            · rw [h]; omega
           clear hk6 hH6 bb6 hg6 bc6 hS6 g6 fz6
           go_wp2_with fail
           go_meet
           case rel => exact ⟨l.set 1 (r6 : Int), by simp, kyOf_set, n5, n1, n2, n3, n4⟩
        case rest =>
         obtain ⟨l', hll, HKY, HLR, HBXl, HNOl, HKx, HHx⟩ := hcut
         obtain ⟨Wx, rfl⟩ : ∃ v, v = wc := ⟨_, rfl⟩
         have HBX : Hid (Wx.heap[Bx]? = some (.cells #[.string (bs n), .slice (some ⟨gn, 0, none⟩) l'.length cn, .slice as_ s.len cs_] 85 (0, 0))) := by rw [hll]; exact HBXl
         have HNO : Hid (Wx.ownsRow 0 3 1 (.slice (some ⟨gn, 0, none⟩) l'.length cn) l'.length (l'.map (Value.int .i64))) := by rw [hll]; exact HNOl
         have HNS : Hid (∀ g, (Value.slice (some ⟨gn, 0, none⟩) l'.length cn).ownBlock = some g → S1 g) := fun g hg => HNS.out g (by cases hg; rfl)
         have HL4 : Hid (l'.length ≤ 4) := by rw [hll]; exact HL4
         obtain ⟨an, han⟩ : ∃ an : Option Addr, some (⟨gn, 0, none⟩ : Addr) = an := ⟨_, rfl⟩
         rw [han] at HBX HNO HNS
         have hll4 := HL4.out
         clear hll HBXl HNOl bc1 han
         have hzx := HKx.out.size
         have hBxx : Bx < Wx.heap.size := (Array.getElem?_eq_some_iff.1 HBX.out).1
         have b1 := cg_ HBX.out (k := 2) rfl
         have b0 := cg_ HBX.out (k := 1) rfl
         have hS2 : FSl S2 Wx (.slice as_ s.len cs_) s := hF2.out.agree fun q hq => HKx.out.block q (by have := hsub.out q (.inr (.inl hq)); have := HQ.out q this; omega) (fun e => by
          have hqq := HQ.out q (hsub.out q (.inr (.inl hq)))
          rcases e with e | e
          · omega
          · exact d12.out q e hq)
         have OC := IH.out (d + 1) s as_ cs_ b S0 S2 Wx hcm (by omega) HOs.out (by omega) hS2 (fun q hq => by have := HQ.out q (hsub.out q (.inr (.inl hq))); omega) HHx.out (by omega) (fun q hq => by have := HS0.out q hq; omega)
         rw [show ((d + 1 : Nat) : Int) = (d : Int) + 1 by omega] at OC
         have OC := hid OC
         clear hS2
         go_wp2_with fail
         refine OC.out.mono ?_
         rintro e w5 ⟨s', a5, c5, rfl, hF5, hO5, hc5, hH5, hk5⟩
         have hz5 := hk5.size
         have hb5 : w5.heap[Bx]? = some (.cells #[.string (bs n), .slice an l'.length cn, .slice as_ s.len cs_] 85 (0, 0)) := (hk5.block Bx hBxx (by omega)).trans HBX.out
         have e0 := cg_ hb5 (k := 0) rfl
         have e1 := cg_ hb5 (k := 1) rfl
         have e2 := cg_ hb5 (k := 2) rfl
         have f2 := cells_frz hb5 (k := 2)
         have hown5 : (w5.setCell ⟨Bx, 2, none⟩ (.slice a5 s'.len c5)).ownsRow w1.heap.size 85 3 u7 y0.len cs := owns_agree hown fun q hq => (Below.heap_setCell _ _ _ _ (show q ≠ Bx by have := (hown.lt q hq).2; omega)).trans ((hk5.block q (by have := (hown.lt q hq).2; omega) (by have := (hown.lt q hq).1; omega)).trans (HKx.out.block q (hown.lt q hq).2 (fun e => by
          have h1 := (hown.lt q hq).1
          rcases e with e | e
          · omega
          · have := HQ.out q (hsub.out q (.inl e)); omega)))
         have HF5 := hid hF5
         have HO5 := hid hO5
         have HH5 := hid hH5
         have HK5 := hid hk5
         clear hF5 hO5 hH5 hk5 hb5
         go_wp2_with (at_builtin; refine (wpList_append_ao _ rfl _ _ _ rfl w1.heap.size 85 i0 _ 3 64 Tryz.underlying22 hi0 hz0 hz1 hz2 rfl (by omega) u7 y0.len cs rfl (hown5.alloc _) (some ⟨w5.heap.size, 0, none⟩) 1 1 [.string (bs n), .slice an l'.length cn, .slice a5 s'.len c5] rfl rfl (fun h => by cases h) (fun ad had => by cases had; exact World.news_of_block (cs := #[.string (bs n), .slice an l'.length cn, .slice a5 s'.len c5]) (t := 85) (fr := (0, 0)) (by simpa [World.setCell] using heap_alloc_new (w5.setCell ⟨Bx, 2, none⟩ (.slice a5 s'.len c5)) (.cells #[.string (bs n), .slice an l'.length cn, .slice a5 s'.len c5] 85))) (by simp [Value.oneCell']) (by unfold maxLen; omega) (by omega) (by simp [World.setCell]; omega) ?_); intro a7 c7 w7 hown7 hgrow7 hat7)
         obtain ⟨n1, n2, n3, n4⟩ := oth_one hb HWW.out hwr HBXw.out hBxx HKx.out HK5.out HP.out HQ.out HPQ.out (fun q hq => hsub.out q (.inl hq)) (fun q hq => hsub.out q (.inr (.inr hq))) d13.out hown hfc.out HNO.out HNS.out HF5.out rfl hgrow7 hat7
         have hu7 : ∀ q, q < w1.heap.size → u7.ownBlock ≠ some q := fun q hq e => by have := (hown.lt q e).1; omega
         have r1 : w7.ownsRow w1.heap.size 85 3 (.slice a7 (y0.len + 1) c7) (y0.app (.cons n l' s' .nil)).len (cs ++ [.string (bs n), .slice an l'.length cn, .slice a5 s'.len c5]) := by rw [Fo.len_app]; exact hown7
         have r2 : Hid (FNCs S3 w7 (y.drop (i + 1)) (ds.drop ((i + 1) * 3))) := by
          rw [Fo.drop_succ HD.out, Hid, DS.out]
          exact hFr.out.agree fun q hq => n2 q (by have := HQ.out q (hsub.out q (.inr (.inr hq))); omega) (by have := HQ.out q (hsub.out q (.inr (.inr hq))); omega) (fun e => d13.out q e hq) (hu7 q (HQ.out q (hsub.out q (.inr (.inr hq)))).2)
         have r3 : Hid (w7.heap[go]? = w1.heap[go]?) := (n2 go (by omega) (by omega) (fun e => HQG.out (hsub.out go (.inl e))) (hu7 go (by omega))).trans HGO.out
         have r4 : Hid (OkF d (y0.app (.cons n l' s' .nil))) := HOK.out.app (OkF.one hd3 HNm.out HL4.out HLR.out HO5.out) fun p hp q hq => by
          simp only [tops, List.mem_singleton] at hq
          subst hq
          rw [HKY.out]
          exact HTL.out p (HTP.out p hp)
         have r5 : Hid (∀ k ∈ tops (y0.app (.cons n l' s' .nil)), k ∈ tops (y.take (i + 1))) := fun k hk => by
          rw [Fo.take_succ HD.out, tops_app]
          rw [tops_app] at hk
          rcases List.mem_append.1 hk with h | h
          · exact List.mem_append.2 (.inl (HTP.out k h))
          · simp only [tops, List.mem_singleton] at h
            subst h
            exact List.mem_append.2 (.inr (by simp only [tops, List.mem_singleton]; exact HKY.out))
         have r6 : Hid (Hp b S0 w7) := HH5.out.agree (n3 b (by omega) (by omega) (hu7 b (by omega))) (fun q hq => n3 q (by have := HS0.out q hq; omega) (by have := HS0.out q hq; omega) (hu7 q (by have := HS0.out q hq; omega)))
         have r7 : Hid (Keep (· = b) w w7) := ⟨hgrow7.os.trans (HK5.out.os.trans (HKx.out.os.trans hK.out.os)), hgrow7.tape.trans (HK5.out.tape.trans (HKx.out.tape.trans hK.out.tape)), hgrow7.output.trans (HK5.out.output.trans (HKx.out.output.trans hK.out.output)), by omega, fun q hq hn => (n2 q (by omega) hn (fun e => by have := HQ.out q (hsub.out q (.inl e)); omega) (hu7 q (by omega))).trans (hK.out.block q hq hn)⟩
         have r8 : (y0.app (.cons n l' s' .nil)).cnt ≤ 2 * (y.take (i + 1)).cnt := by
          rw [Fo.take_succ HD.out, Fo.cnt_app, Fo.cnt_app]; simp only [Fo.cnt]; omega
         have r9 : Hid (∀ q, P q ∨ S1 q → w.heap.size ≤ q ∧ q < w1.heap.size) := fun q hq => hq.elim (HP.out q) (fun h => HQ.out q (hsub.out q (.inl h)))
         have r10 : Hid (∀ q, P q ∨ S1 q → ¬ S3 q) := fun q hq h3 => hq.elim (fun h => HPQ.out q h (hsub.out q (.inr (.inr h3)))) (fun h => d13.out q h h3)
         have r11 : Hid (∀ q, S3 q → w.heap.size ≤ q ∧ q < w1.heap.size) := fun q hq => HQ.out q (hsub.out q (.inr (.inr hq)))
         have r12 : Hid (¬ S3 go) := fun e => HQG.out (hsub.out go (.inr (.inr e)))
         have n1 := hid n1
         clear hown7 hgrow7 hat7 n2 n3
         go_roundw
         case rel => exact ⟨i + 1, y0.app (.cons n l' s' .nil), _, _, S3, by omega, by go_num, r1, by omega, by rw [Fo.len_app]; simp only [Fo.len]; omega, r8, n1, r9, r11, r10, r2, r3, r12, r4, r5, r6, r7⟩
         case measure => simp [intOf]; omega
      · have hl1' : ¬ (1 : Int) < (l.length : Int) := by omega
        have HBX := HBX3
        have HNO := hno3
        have HHx := HH3
        have HKY : Hid (kyOf n l = kyOf n l) := rfl
        have HKx : Hid (Keep (fun q => q = b ∨ S1 q) wr W3) := ⟨HO3.out.1, HO3.out.2.1, HO3.out.2.2, by have := HBB.out; have := HBXw.out; omega, fun q hq hn => HMV3.out q hq (fun e => hn (.inl e))⟩
        have hbw1 : Bx ≤ wr.heap.size := by have := HBXw.out; omega
        have hbw2 : wr.heap.size ≤ Bx := by have := HBXw.out; omega
        have hll := HL4.out
        clear hl1
        have hzx := HKx.out.size
        have hBxx : Bx < W3.heap.size := (Array.getElem?_eq_some_iff.1 HBX.out).1
        have b1 := cg_ HBX.out (k := 2) rfl
        have b0 := cg_ HBX.out (k := 1) rfl
        have hS2 : FSl S2 W3 (.slice as_ s.len cs_) s := hF2.out.agree fun q hq => HKx.out.block q (by have := hsub.out q (.inr (.inl hq)); have := HQ.out q this; omega) (fun e => by
         have hqq := HQ.out q (hsub.out q (.inr (.inl hq)))
         rcases e with e | e
         · omega
         · exact d12.out q e hq)
        have OC := IH.out (d + 1) s as_ cs_ b S0 S2 W3 hcm (by omega) HOs.out (by omega) hS2 (fun q hq => by have := HQ.out q (hsub.out q (.inr (.inl hq))); omega) HHx.out (by omega) (fun q hq => by have := HS0.out q hq; omega)
        rw [show ((d + 1 : Nat) : Int) = (d : Int) + 1 by omega] at OC
        have OC := hid OC
        clear hS2
        go_wp2_with fail
        refine OC.out.mono ?_
        rintro e w5 ⟨s', a5, c5, rfl, hF5, hO5, hc5, hH5, hk5⟩
        have hz5 := hk5.size
        have hb5 : w5.heap[Bx]? = some (.cells #[.string (bs n), .slice an l.length cn, .slice as_ s.len cs_] 85 (0, 0)) := (hk5.block Bx hBxx (by omega)).trans HBX.out
        have e0 := cg_ hb5 (k := 0) rfl
        have e1 := cg_ hb5 (k := 1) rfl
        have e2 := cg_ hb5 (k := 2) rfl
        have f2 := cells_frz hb5 (k := 2)
        have hown5 : (w5.setCell ⟨Bx, 2, none⟩ (.slice a5 s'.len c5)).ownsRow w1.heap.size 85 3 u7 y0.len cs := owns_agree hown fun q hq => (Below.heap_setCell _ _ _ _ (show q ≠ Bx by have := (hown.lt q hq).2; omega)).trans ((hk5.block q (by have := (hown.lt q hq).2; omega) (by have := (hown.lt q hq).1; omega)).trans (HKx.out.block q (hown.lt q hq).2 (fun e => by
         have h1 := (hown.lt q hq).1
         rcases e with e | e
         · omega
         · have := HQ.out q (hsub.out q (.inl e)); omega)))
        have HF5 := hid hF5
        have HO5 := hid hO5
        have HH5 := hid hH5
        have HK5 := hid hk5
        clear hF5 hO5 hH5 hk5 hb5
        go_wp2_with (at_builtin; refine (wpList_append_ao _ rfl _ _ _ rfl w1.heap.size 85 i0 _ 3 64 Tryz.underlying22 hi0 hz0 hz1 hz2 rfl (by omega) u7 y0.len cs rfl (hown5.alloc _) (some ⟨w5.heap.size, 0, none⟩) 1 1 [.string (bs n), .slice an l.length cn, .slice a5 s'.len c5] rfl rfl (fun h => by cases h) (fun ad had => by cases had; exact World.news_of_block (cs := #[.string (bs n), .slice an l.length cn, .slice a5 s'.len c5]) (t := 85) (fr := (0, 0)) (by simpa [World.setCell] using heap_alloc_new (w5.setCell ⟨Bx, 2, none⟩ (.slice a5 s'.len c5)) (.cells #[.string (bs n), .slice an l.length cn, .slice a5 s'.len c5] 85))) (by simp [Value.oneCell']) (by unfold maxLen; omega) (by omega) (by simp [World.setCell]; omega) ?_); intro a7 c7 w7 hown7 hgrow7 hat7)
        obtain ⟨n1, n2, n3, n4⟩ := oth_one hb HWW.out hwr HBXw.out hBxx HKx.out HK5.out HP.out HQ.out HPQ.out (fun q hq => hsub.out q (.inl hq)) (fun q hq => hsub.out q (.inr (.inr hq))) d13.out hown hfc.out HNO.out HNS.out HF5.out rfl hgrow7 hat7
        have hu7 : ∀ q, q < w1.heap.size → u7.ownBlock ≠ some q := fun q hq e => by have := (hown.lt q e).1; omega
        have r1 : w7.ownsRow w1.heap.size 85 3 (.slice a7 (y0.len + 1) c7) (y0.app (.cons n l s' .nil)).len (cs ++ [.string (bs n), .slice an l.length cn, .slice a5 s'.len c5]) := by rw [Fo.len_app]; exact hown7
        have r2 : Hid (FNCs S3 w7 (y.drop (i + 1)) (ds.drop ((i + 1) * 3))) := by
         rw [Fo.drop_succ HD.out, Hid, DS.out]
         exact hFr.out.agree fun q hq => n2 q (by have := HQ.out q (hsub.out q (.inr (.inr hq))); omega) (by have := HQ.out q (hsub.out q (.inr (.inr hq))); omega) (fun e => d13.out q e hq) (hu7 q (HQ.out q (hsub.out q (.inr (.inr hq)))).2)
        have r3 : Hid (w7.heap[go]? = w1.heap[go]?) := (n2 go (by omega) (by omega) (fun e => HQG.out (hsub.out go (.inl e))) (hu7 go (by omega))).trans HGO.out
        have r4 : Hid (OkF d (y0.app (.cons n l s' .nil))) := HOK.out.app (OkF.one hd3 HNm.out HL4.out HLR.out HO5.out) fun p hp q hq => by
         simp only [tops, List.mem_singleton] at hq
         subst hq
         exact HTL.out p (HTP.out p hp)
        have r5 : Hid (∀ k ∈ tops (y0.app (.cons n l s' .nil)), k ∈ tops (y.take (i + 1))) := fun k hk => by
         rw [Fo.take_succ HD.out, tops_app]
         rw [tops_app] at hk
         rcases List.mem_append.1 hk with h | h
         · exact List.mem_append.2 (.inl (HTP.out k h))
         · simp only [tops, List.mem_singleton] at h
           subst h
           exact List.mem_append.2 (.inr (by simp [tops]))
        have r6 : Hid (Hp b S0 w7) := HH5.out.agree (n3 b (by omega) (by omega) (hu7 b (by omega))) (fun q hq => n3 q (by have := HS0.out q hq; omega) (by have := HS0.out q hq; omega) (hu7 q (by have := HS0.out q hq; omega)))
        have r7 : Hid (Keep (· = b) w w7) := ⟨hgrow7.os.trans (HK5.out.os.trans (HKx.out.os.trans hK.out.os)), hgrow7.tape.trans (HK5.out.tape.trans (HKx.out.tape.trans hK.out.tape)), hgrow7.output.trans (HK5.out.output.trans (HKx.out.output.trans hK.out.output)), by omega, fun q hq hn => (n2 q (by omega) hn (fun e => by have := HQ.out q (hsub.out q (.inl e)); omega) (hu7 q (by omega))).trans (hK.out.block q hq hn)⟩
        have r8 : (y0.app (.cons n l s' .nil)).cnt ≤ 2 * (y.take (i + 1)).cnt := by
         rw [Fo.take_succ HD.out, Fo.cnt_app, Fo.cnt_app]; simp only [Fo.cnt]; omega
        have r9 : Hid (∀ q, P q ∨ S1 q → w.heap.size ≤ q ∧ q < w1.heap.size) := fun q hq => hq.elim (HP.out q) (fun h => HQ.out q (hsub.out q (.inl h)))
        have r10 : Hid (∀ q, P q ∨ S1 q → ¬ S3 q) := fun q hq h3 => hq.elim (fun h => HPQ.out q h (hsub.out q (.inr (.inr h3)))) (fun h => d13.out q h h3)
        have r11 : Hid (∀ q, S3 q → w.heap.size ≤ q ∧ q < w1.heap.size) := fun q hq => HQ.out q (hsub.out q (.inr (.inr hq)))
        have r12 : Hid (¬ S3 go) := fun e => HQG.out (hsub.out go (.inr (.inr e)))
        have n1 := hid n1
        clear hown7 hgrow7 hat7 n2 n3
        go_roundw
        case rel => exact ⟨i + 1, y0.app (.cons n l s' .nil), _, _, S3, by omega, by go_num, r1, by omega, by rw [Fo.len_app]; simp only [Fo.len]; omega, r8, n1, r9, r11, r10, r2, r3, r12, r4, r5, r6, r7⟩
        case measure => simp [intOf]; omega
  · have hlt' : ¬ (i : Int) < (y.len : Int) := by omega
    obtain rfl : i = y.len := by omega
    rw [Fo.take_len] at hyc
    have hcn : y0.cnt ≤ 2 * y.cnt + 1 := by omega
    obtain ⟨a7, c7, hv7, _, _⟩ := owns_shape hown
    subst hv7
    have O3 := hid (Once_any b S0 wr 2 (by omega) hH.out)
    have FIN : Hid (∀ W, Keep (· = b) wr W → FSl (Rg w.heap.size W.heap.size) W (.slice a7 y0.len c7) y0) := fun W hW => by
     have hzW := hW.size
     refine ⟨cs, ((SlC.of_owns hown).agree fun q hq => hW.block q hq.2 (by have := hq.1; omega)).wide fun q hq => ⟨by have := hq.1; omega, by have := hq.2; omega⟩, ?_⟩
     exact (hfc.out.agree fun q hq => hW.block q (by rcases hq with h | h; have := HP.out q h; omega; exact h.2.1) (by rcases hq with h | h; have := HP.out q h; omega; have := h.1; omega)).wide fun q hq => by
      rcases hq with h | h
      · have := HP.out q h; exact ⟨this.1, by omega⟩
      · exact ⟨by have := h.1; omega, by have := h.2.1; omega⟩
    go_wp2_with fail
    refine O3.out.mono ?_
    rintro e w9 ⟨q9, rfl, hH9, hk9⟩
    have hz9 := hk9.size
    have HB9 := hid hk9
    have HH9 := hid hH9
    have HK9 : Hid (Keep (· = b) w w9) := hK.out.trans hk9
    clear hH9 hk9
    cases q9 with
    | false =>
      go_wp2_with fail
      go_ret
      exact ⟨y0, a7, c7, rfl, FIN.out w9 HB9.out, HOK.out, hcn, HH9.out, HK9.out⟩
    | true =>
      by_cases hd3 : d ≤ 3
      · have hd3' : (d : Int) ≤ 3 := by omega
        have HD3 := hid hd3
        clear hd3
        by_cases h0 : y0.len = 0
        · have b0 : ((y0.len : Int) == 0) = true := by rw [h0]; rfl
          have HTZ : Hid (∀ q ∈ tops y0, q.n ∈ nmz ∧ q.n ≠ zeroN) := by
           have : y0 = .nil := by cases y0 with | nil => rfl | cons _ _ _ _ => simp [Fo.len] at h0
           rw [this]; intro q hq; cases hq
          clear h0
          have U1 := hid (Upto_any b S0 w9 2 (by omega) HH9.out)
          go_wp2_with fail
          refine U1.out.mono ?_
          rintro e wa ⟨r1, rfl, hr1, hHa, hka⟩
          have hza := hka.size
          have U2 := hid (Upto_any b S0 wa 4 (by omega) hHa)
          have HKa := hid hka
          clear hHa hka
          go_wp2_with fail
          refine U2.out.mono ?_
          rintro e wb ⟨r2, rfl, hr2, hHb, hkb⟩
          have hzb := hkb.size
          have HKb := hid hkb
          have HHb := hid hHb
          have hKb : Hid (Keep (· = b) w wb) := HK9.out.trans (HKa.out.trans hkb)
          have hKr : Hid (Keep (· = b) wr wb) := HB9.out.trans (HKa.out.trans hkb)
          have hownb : wb.ownsRow w1.heap.size 85 3 (.slice a7 y0.len c7) y0.len cs := owns_agree hown fun q hq => hKr.out.block q (hown.lt q hq).2 (by have := (hown.lt q hq).1; omega)
          have hyl300 : y0.len ≤ 300 := by omega
          clear hHb hkb
          go_wp2_with (at_builtin; refine (wpList_append_ao _ rfl _ _ _ rfl w1.heap.size 85 i0 _ 3 64 Tryz.underlying22 hi0 hz0 hz1 hz2 rfl (by omega) (.slice a7 y0.len c7) y0.len cs rfl ((hownb.alloc _).alloc _) (some ⟨wb.heap.size + 1, 0, none⟩) 1 1 [.string ⟨#[122, 101, 114, 111]⟩, .slice (some ⟨wb.heap.size, 0, none⟩) 2 2, .slice none 0 0] rfl rfl (fun h => by cases h) (fun ad had => by cases had; exact World.news_of_block (cs := #[.string ⟨#[122, 101, 114, 111]⟩, .slice (some ⟨wb.heap.size, 0, none⟩) 2 2, .slice none 0 0]) (t := 85) (fr := (0, 0)) (by simpa using heap_alloc_new (wb.alloc (.cells #[.int .i64 r1, .int .i64 r2] 3)) (.cells #[.string ⟨#[122, 101, 114, 111]⟩, .slice (some ⟨wb.heap.size, 0, none⟩) 2 2, .slice none 0 0] 85))) (by simp [Value.oneCell']) (by unfold maxLen; omega) (by omega) (by simp; omega) ?_); intro ac cc wc hownc hgrowc hatc)
          obtain ⟨t1, t2, t3⟩ := oth_zero hb HWW.out hwr hKr.out hKb.out HP.out HHb.out HS0.out hown hfc.out hownc hgrowc hatc
          go_ret
          exact ⟨y0.app (.cons zeroN [(r1 : Int), (r2 : Int)] .nil .nil), ac, cc, by rw [Fo.len_app]; rfl, t1, okF_zero HOK.out HD3.out hr1 hr2 HTZ.out, by rw [Fo.cnt_app]; simp only [Fo.cnt]; omega, t2, t3⟩
        · have b0 : ((y0.len : Int) == 0) = false := beq_eq_false_iff_ne.2 (by omega)
          obtain ⟨k, hk⟩ : ∃ k, y0.len = k + 1 := ⟨y0.len - 1, by omega⟩
          have w8 : IntKind.i64.wrap ((y0.len : Int) - 1) = (k : Int) := by rw [show (y0.len : Int) - 1 = k by omega]; exact IntWalk.i64_in _ (by omega)
          have k1 : (0 : Int) ≤ (k : Int) := by omega
          have k2 : (k : Int) < (y0.len : Int) := by omega
          obtain ⟨_, _, he9, _, _, hat9⟩ := (FIN.out w9 HB9.out).at
          cases he9
          obtain ⟨g9, o9, n9, l9, s9, r9, _, _, _, _, rfl, _, hd9, c9, _⟩ := hat9 k (by omega)
          have HK := hid hk
          have HD9 := hid hd9
          clear h0 hk hat9 hd9
          by_cases hz9 : n9 = zeroN
          · subst hz9
            go_wp2_with fail
            go_ret
            exact ⟨y0, some ⟨g9, o9, none⟩, c7, rfl, FIN.out w9 HB9.out, HOK.out, hcn, HH9.out, HK9.out⟩
          · have HTZ := hid (okF_last HOK.out HK.out HD9.out hz9)
            have bz : (n9 == zeroN) = false := by simpa using hz9
            unfold zeroN at bz
            clear hz9
            have U1 := hid (Upto_any b S0 w9 2 (by omega) HH9.out)
            go_wp2_with fail
            refine U1.out.mono ?_
            rintro e wa ⟨r1, rfl, hr1, hHa, hka⟩
            have hza := hka.size
            have U2 := hid (Upto_any b S0 wa 4 (by omega) hHa)
            have HKa := hid hka
            clear hHa hka
            go_wp2_with fail
            refine U2.out.mono ?_
            rintro e wb ⟨r2, rfl, hr2, hHb, hkb⟩
            have hzb := hkb.size
            have HKb := hid hkb
            have HHb := hid hHb
            have hKb : Hid (Keep (· = b) w wb) := HK9.out.trans (HKa.out.trans hkb)
            have hKr : Hid (Keep (· = b) wr wb) := HB9.out.trans (HKa.out.trans hkb)
            have hownb : wb.ownsRow w1.heap.size 85 3 (.slice (some ⟨g9, o9, none⟩) y0.len c7) y0.len cs := owns_agree hown fun q hq => hKr.out.block q (hown.lt q hq).2 (by have := (hown.lt q hq).1; omega)
            have hyl300 : y0.len ≤ 300 := by omega
            clear hHb hkb
            go_wp2_with (at_builtin; refine (wpList_append_ao _ rfl _ _ _ rfl w1.heap.size 85 i0 _ 3 64 Tryz.underlying22 hi0 hz0 hz1 hz2 rfl (by omega) (.slice (some ⟨g9, o9, none⟩) y0.len c7) y0.len cs rfl ((hownb.alloc _).alloc _) (some ⟨wb.heap.size + 1, 0, none⟩) 1 1 [.string ⟨#[122, 101, 114, 111]⟩, .slice (some ⟨wb.heap.size, 0, none⟩) 2 2, .slice none 0 0] rfl rfl (fun h => by cases h) (fun ad had => by cases had; exact World.news_of_block (cs := #[.string ⟨#[122, 101, 114, 111]⟩, .slice (some ⟨wb.heap.size, 0, none⟩) 2 2, .slice none 0 0]) (t := 85) (fr := (0, 0)) (by simpa using heap_alloc_new (wb.alloc (.cells #[.int .i64 r1, .int .i64 r2] 3)) (.cells #[.string ⟨#[122, 101, 114, 111]⟩, .slice (some ⟨wb.heap.size, 0, none⟩) 2 2, .slice none 0 0] 85))) (by simp [Value.oneCell']) (by unfold maxLen; omega) (by omega) (by simp; omega) ?_); intro ac cc wc hownc hgrowc hatc)
            obtain ⟨t1, t2, t3⟩ := oth_zero hb HWW.out hwr hKr.out hKb.out HP.out HHb.out HS0.out hown hfc.out hownc hgrowc hatc
            go_ret
            exact ⟨y0.app (.cons zeroN [(r1 : Int), (r2 : Int)] .nil .nil), ac, cc, by rw [Fo.len_app]; rfl, t1, okF_zero HOK.out HD3.out hr1 hr2 HTZ.out, by rw [Fo.cnt_app]; simp only [Fo.cnt]; omega, t2, t3⟩
      · have hd3' : ¬ (d : Int) ≤ 3 := by omega
        go_wp2_with fail
        go_ret
        exact ⟨y0, a7, c7, rfl, FIN.out w9 HB9.out, HOK.out, hcn, HH9.out, HK9.out⟩
theorem others_all : ∀ m, OthC m
 | 0 => fun _ y _ _ _ _ _ _ h => by omega
 | m + 1 => others_any m (others_all m)
theorem changed_any (y : Fo) (a : Option Addr) (c b : Nat) (S0 S : Nat → Prop) (w : World) (h300 : y.cnt ≤ 300) (hok : OkF 0 y) (hy : FSl S w (.slice a y.len c) y) (hS : ∀ q, S q → q < w.heap.size) (hH : Hp b S0 w) (hb : b < w.heap.size) (hS0 : ∀ q, S0 q → q < w.heap.size) :
 Calls Tryz.prog 39 #[.pointer (some ⟨b, 0, none⟩), .slice a y.len c] w fun e w' => ∃ y' a' c', e = .returned (.slice a' y'.len c') ∧ FSl (Rg w.heap.size w'.heap.size) w' (.slice a' y'.len c') y' ∧ OkF 0 y' ∧ y'.cnt ≤ 2 * y.cnt + 1 ∧ Hp b S0 w' ∧ Keep (· = b) w w' := by
 have h := others_all (y.cnt + 1) 0 y a c b S0 S w (Nat.lt_succ_self _) h300 hok (by omega) hy hS hH hb hS0
 have H := hid h
 clear h hok hy hS hH hb hS0
 go_enter Tryz.func39, Tryz.ntmps39
 go_wp2_with fail
 refine H.out.mono ?_
 rintro e w1 ⟨y', a', c', rfl, h1, h2, h3, h4, h5⟩
 have h1 := hid h1
 have h2 := hid h2
 have h4 := hid h4
 have h5 := hid h5
 go_wp2_with fail
 go_ret
 exact ⟨y', a', c', rfl, h1.out, h2.out, h3, h4.out, h5.out⟩
end Go.Proofs.LF
