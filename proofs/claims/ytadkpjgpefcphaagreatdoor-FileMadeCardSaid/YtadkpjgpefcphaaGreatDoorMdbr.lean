/- Parts of the proof of a law of layer 11 (file): LfW94, LfW49. The conditions stand in each theorem. -/
import Derived.BigQuiet
import Derived.Deep.AppendLies
import Derived.Deep.Cut
import Derived.Deep.CutBlock
import Derived.Deep.CutRange
import Derived.Deep.QuietTactic
import Derived.Deep.RegionHeld3
import Derived.Laws.ResultCell
import Derived.Outline
import Derived.Test.YtadkpjgpefcphaaGreatDoorProg
import Derived.WalkKit
import Derived.WalkLawsBesides
import Derived.WalkSpells
import Derived.Test.YtadkpjgpefcphaaGreatDoorMdaf
import Derived.Test.YtadkpjgpefcphaaGreatDoorMdag
import Derived.Test.YtadkpjgpefcphaaGreatDoorMdaj
import Derived.Test.YtadkpjgpefcphaaGreatDoorMdav
import Derived.Test.YtadkpjgpefcphaaGreatDoorMdba
import Derived.Test.YtadkpjgpefcphaaGreatDoorMdbp
set_option linter.all false
set_option linter.unusedVariables false
set_option linter.unusedSimpArgs false
namespace Go.Proofs.LF
open Go.RowKit Go.Sort
set_option maxHeartbeats 4000000
set_option maxRecDepth 100000
attribute [local go_sem] bs_toList bs_size bs_get
theorem chg_elem {S : Nat → Prop} {w : World} {ls : List Ch} {ds : List Value} (h : LCs rdCh S w ls ds) {i : Nat} (hi : i < ls.length) : ∃ ap cp ao co an cn, elemV 5 ds i = .agg #[.slice ap ls[i].p.length cp, .bool ls[i].had, .bool ls[i].has, .slice ao ls[i].old.length co, .slice an ls[i].new.length cn] ∧ Pth S w (.slice ap ls[i].p.length cp) ls[i].p ∧ Ints S w (.slice ao ls[i].old.length co) ls[i].old ∧ Ints S w (.slice an ls[i].new.length cn) ls[i].new := by
  have h' := h.drop (i := i)
  rw [List.drop_eq_getElem_cons hi] at h'
  obtain ⟨cs, es, he, ⟨ap, cp, ao, co, an, cn, rfl, hp, ho, hn⟩, _⟩ := h'
  refine ⟨ap, cp, ao, co, an, cn, ?_, hp, ho, hn⟩
  have e0 := congrArg (fun l => l[0]?) he
  have e1 := congrArg (fun l => l[1]?) he
  have e2 := congrArg (fun l => l[2]?) he
  have e3 := congrArg (fun l => l[3]?) he
  have e4 := congrArg (fun l => l[4]?) he
  simp only [List.getElem?_drop] at e0 e1 e2 e3 e4
  simp [elemV, List.getD_eq_getElem?_getD, List.range, List.range.loop] at e0 e1 e2 e3 e4 ⊢
  simp [e0, e1, e2, e3, e4]
theorem enters163 : Enters 163 := by intro args W; simp [go_sem]
theorem enters78 : Enters 78 := by intro args W; simp [go_sem]
theorem eq163 (x : Ch) (q : List Ky) (ap ao an aq : Option Addr) (cp co cn cq F : Nat) (S : Nat → Prop) (w : World) (hp : Pth S w (.slice ap x.p.length cp) x.p) (hq : Pth S w (.slice aq q.length cq) q) (hS : ∀ b, S b → b < w.heap.size) (lp : x.p.length ≤ 1000) (lq : q.length ≤ 1000) (hF : F < w.heap.size) (hc : w.cell? ⟨F, 0, none⟩ = some (.slice aq q.length cq)) :
    Calls Tryz.prog 163 #[.agg #[.slice ap x.p.length cp, .bool x.had, .bool x.has, .slice ao x.old.length co, .slice an x.new.length cn], .pointer (some ⟨F, 0, none⟩)] w fun e w' => e = .returned (.bool (decide (cmpP x.p q = 0))) ∧ Below w.heap.size w w' := by
  obtain ⟨W, hW⟩ : ∃ W, w.alloc (.cells #[.slice ap x.p.length cp, .bool x.had, .bool x.has, .slice ao x.old.length co, .slice an x.new.length cn] 68) = W := ⟨_, rfl⟩
  have hb : Below w.heap.size w W := by rw [← hW]; exact (Below.refl _ _).alloc (Nat.le_refl _) _
  have hnew : W.heap[w.heap.size]? = some (.cells #[.slice ap x.p.length cp, .bool x.had, .bool x.has, .slice ao x.old.length co, .slice an x.new.length cn] 68 (0, 0)) := by rw [← hW]; exact heap_alloc_new _ _
  have c0 : W.cell? ⟨w.heap.size, 0, none⟩ = some (.slice ap x.p.length cp) := cells_get hnew (k := 0) rfl
  have d0 : W.cell? ⟨F, 0, none⟩ = some (.slice aq q.length cq) := below_cell hb hF hc
  have HB := hid hb
  have HC := hid (byPath_any x.p q ap aq cp cq S W (hp.agree (Agree.of_below hb hS)) (hq.agree (Agree.of_below hb hS)) (fun b hb' => Nat.lt_of_lt_of_le (hS b hb') hb.size) lp lq)
  have HW := hid hW
  clear hp hq hc hb hnew hW
  go_enter Tryz.func163, Tryz.ntmps163
  go_wp2_with (rw [HW.out])
  refine HC.out.mono ?_
  rintro e w1 ⟨rfl, hb1⟩
  go_wp2_with fail
  go_ret
  exact ⟨rfl, HB.out.trans (hb1.mono HB.out.size)⟩
theorem eq78 (x : Ch) (q : List Ky) (ap ao an aq : Option Addr) (cp co cn cq F : Nat) (S : Nat → Prop) (w : World) (hp : Pth S w (.slice ap x.p.length cp) x.p) (hq : Pth S w (.slice aq q.length cq) q) (hS : ∀ b, S b → b < w.heap.size) (lp : x.p.length ≤ 1000) (lq : q.length ≤ 1000) (hF : F < w.heap.size) (hc : w.cell? ⟨F, 0, none⟩ = some (.slice aq q.length cq)) :
    Calls Tryz.prog 78 #[.agg #[.slice ap x.p.length cp, .bool x.had, .bool x.has, .slice ao x.old.length co, .slice an x.new.length cn], .pointer (some ⟨F, 0, none⟩)] w fun e w' => e = .returned (.bool (decide (x.p = q))) ∧ Below w.heap.size w w' := by
  obtain ⟨W, hW⟩ : ∃ W, w.alloc (.cells #[.slice ap x.p.length cp, .bool x.had, .bool x.has, .slice ao x.old.length co, .slice an x.new.length cn] 68) = W := ⟨_, rfl⟩
  have hb : Below w.heap.size w W := by rw [← hW]; exact (Below.refl _ _).alloc (Nat.le_refl _) _
  have hnew : W.heap[w.heap.size]? = some (.cells #[.slice ap x.p.length cp, .bool x.had, .bool x.has, .slice ao x.old.length co, .slice an x.new.length cn] 68 (0, 0)) := by rw [← hW]; exact heap_alloc_new _ _
  have c0 : W.cell? ⟨w.heap.size, 0, none⟩ = some (.slice ap x.p.length cp) := cells_get hnew (k := 0) rfl
  have d0 : W.cell? ⟨F, 0, none⟩ = some (.slice aq q.length cq) := below_cell hb hF hc
  have HB := hid hb
  have HC := hid (eqKeys_any x.p q ap aq cp cq S W (hp.agree (Agree.of_below hb hS)) (hq.agree (Agree.of_below hb hS)) (by omega) (by omega))
  have HW := hid hW
  clear hp hq hc hb hnew hW
  go_enter Tryz.func78, Tryz.ntmps78
  go_wp2_with (rw [HW.out])
  refine HC.out.mono ?_
  rintro e w1 ⟨rfl, hb1⟩
  go_wp2_with fail
  go_ret
  exact ⟨rfl, HB.out.trans (hb1.mono HB.out.size)⟩
theorem contC_any (ls : List Ch) (q : List Ky) (al aq : Option Addr) (cl cq F : Nat) (S T : Nat → Prop) (w : World) (hv : ChSl S w (.slice al ls.length cl) ls) (hS : ∀ b, S b → b < w.heap.size) (hq : Pth T w (.slice aq q.length cq) q) (hT : ∀ b, T b → b < w.heap.size)
    (hF : F < w.heap.size) (hc : w.cell? ⟨F, 0, none⟩ = some (.slice aq q.length cq)) (hl : ls.length ≤ 1000) (hps : ∀ x ∈ ls, x.p.length ≤ 1000) (lq : q.length ≤ 1000) :
    Calls Tryz.prog 142 #[.slice al ls.length cl, .func (.func 163) #[] #[.pointer (some ⟨F, 0, none⟩)]] w fun e w' => e = .returned (.bool (ls.any fun x => decide (cmpP x.p q = 0))) ∧ Below w.heap.size w w' := by
  obtain ⟨ds, h1, h2⟩ := hv
  have key := cont_chg 163 enters163 (fun i => decide (cmpP ((ls.map (·.p)).getD i []) q = 0)) [.pointer (some ⟨F, 0, none⟩)] ls.length al cl ds S w h1 hS (by omega) (fun i hi W hW => by
    obtain ⟨ap, cp, ao, co, an, cn, he, hp, _, _⟩ := chg_elem h2 hi
    have hg : (ls.map (·.p)).getD i [] = ls[i].p := by simp [List.getD_eq_getElem?_getD, hi]
    rw [he, hg]
    exact eq163 ls[i] q ap ao an aq cp co cn cq F (fun b => S b ∨ T b) W ((hp.agree (Agree.of_below hW hS)).wide fun b hb => .inl hb) ((hq.agree (Agree.of_below hW hT)).wide fun b hb => .inr hb) (fun b hb => by have := hW.size; rcases hb with h | h; exact Nat.lt_of_lt_of_le (hS b h) this; exact Nat.lt_of_lt_of_le (hT b h) this) (hps _ (List.getElem_mem hi)) lq (Nat.lt_of_lt_of_le hF hW.size) (below_cell hW hF hc))
  rw [anyN_list (fun x : Ch => decide (cmpP x.p q = 0)) _ ls (fun i hi => by simp [List.getD_eq_getElem?_getD, hi])] at key
  exact key
theorem idxC_any (ls : List Ch) (q : List Ky) (al aq : Option Addr) (cl cq F : Nat) (S T : Nat → Prop) (w : World) (hv : ChSl S w (.slice al ls.length cl) ls) (hS : ∀ b, S b → b < w.heap.size) (hq : Pth T w (.slice aq q.length cq) q) (hT : ∀ b, T b → b < w.heap.size)
    (hF : F < w.heap.size) (hc : w.cell? ⟨F, 0, none⟩ = some (.slice aq q.length cq)) (hl : ls.length ≤ 1000) (hps : ∀ x ∈ ls, x.p.length ≤ 1000) (lq : q.length ≤ 1000) :
    Calls Tryz.prog 77 #[.slice al ls.length cl, .func (.func 78) #[] #[.pointer (some ⟨F, 0, none⟩)]] w fun e w' => e = .returned (.int .i64 (idxN (fun i => decide ((ls.map (·.p)).getD i [] = q)) ls.length)) ∧ Below w.heap.size w w' := by
  obtain ⟨ds, h1, h2⟩ := hv
  exact idx_chg 78 enters78 (fun i => decide ((ls.map (·.p)).getD i [] = q)) [.pointer (some ⟨F, 0, none⟩)] ls.length al cl ds S w h1 hS (by omega) (fun i hi W hW => by
    obtain ⟨ap, cp, ao, co, an, cn, he, hp, _, _⟩ := chg_elem h2 hi
    have hg : (ls.map (·.p)).getD i [] = ls[i].p := by simp [List.getD_eq_getElem?_getD, hi]
    rw [he, hg]
    exact eq78 ls[i] q ap ao an aq cp co cn cq F (fun b => S b ∨ T b) W ((hp.agree (Agree.of_below hW hS)).wide fun b hb => .inl hb) ((hq.agree (Agree.of_below hW hT)).wide fun b hb => .inr hb) (fun b hb => by have := hW.size; rcases hb with h | h; exact Nat.lt_of_lt_of_le (hS b h) this; exact Nat.lt_of_lt_of_le (hT b h) this) (hps _ (List.getElem_mem hi)) lq (Nat.lt_of_lt_of_le hF hW.size) (below_cell hW hF hc))
end Go.Proofs.LF
namespace Go.Proofs.LF
open Go.RowKit Go.Sort
set_option maxHeartbeats 4000000
set_option maxRecDepth 100000
attribute [local go_sem] bs_toList bs_size bs_get
theorem FCs.take {S : Nat → Prop} {w : World} : ∀ {i : Nat} {y : Fo} {cs : List Value}, FCs S w y cs → FCs S w (y.take i) (cs.take (i * 3))
  | 0, _, _, _ => by simp [Fo.take, FCs]
  | i + 1, .nil, _, h => by rw [show _ = [] from h]; simp [Fo.take, FCs]
  | i + 1, .cons _ _ _ _, _, ⟨vn, vs, cs', h, h2, h3, h5⟩ => by
    rw [h, show (i + 1) * 3 = i * 3 + 1 + 1 + 1 from by omega]
    exact ⟨vn, vs, cs'.take (i * 3), rfl, h2, h3, h5.take⟩
theorem SlC.pre {S : Nat → Prop} {w : World} {k n m c : Nat} {a : Option Addr} {cs : List Value} (h : SlC S w k (.slice a n c) n cs) (hm : m ≤ n) : SlC S w k (.slice a m c) m (cs.take (m * k)) := by
  obtain ⟨h1, a', c', he, h2, h3, h4, h5⟩ := h
  cases he
  refine ⟨by rw [List.length_take, h1]; exact Nat.min_eq_left (Nat.mul_le_mul_right k hm), a, c, rfl, by omega, h3, h4, ?_⟩
  rcases h5 with h5 | ⟨g, o, h6, h7, h8⟩
  · exact .inl (by omega)
  · refine .inr ⟨g, o, h6, h7, fun j u hj => h8 j u ?_⟩
    rw [List.getElem?_take] at hj
    split at hj
    · exact hj
    · cases hj
theorem SlC.suf {S : Nat → Prop} {w : World} {k n m c g o : Nat} {cs : List Value} (h : SlC S w k (.slice (some ⟨g, o, none⟩) n c) n cs) (hm : m < n) : SlC S w k (.slice (some ⟨g, o + m * k, none⟩) (n - m) (c - m)) (n - m) (cs.drop (m * k)) := by
  obtain ⟨h1, a', c', he, h2, h3, h4, h5⟩ := h
  cases he
  refine ⟨by rw [List.length_drop, h1, Nat.sub_mul], _, _, rfl, by omega, by omega, (fun h => by cases h), ?_⟩
  rcases h5 with h5 | ⟨g', o', h6, h7, h8⟩
  · omega
  · cases h6
    refine .inr ⟨g, o + m * k, rfl, h7, fun j u hj => ?_⟩
    rw [List.getElem?_drop] at hj
    rw [Nat.add_assoc]
    exact h8 _ u hj
theorem FSl.pre {S : Nat → Prop} {w : World} {a : Option Addr} {m c : Nat} {y : Fo} (h : FSl S w (.slice a y.len c) y) (hm : m ≤ y.len) : FSl S w (.slice a m c) (y.take m) := by
  obtain ⟨ds, h1, h2⟩ := h
  exact ⟨_, by rw [Fo.len_take hm]; exact h1.pre hm, h2.take⟩
theorem FSl.suf {S : Nat → Prop} {w : World} {g o m c : Nat} {y : Fo} (h : FSl S w (.slice (some ⟨g, o, none⟩) y.len c) y) (hm : m < y.len) : FSl S w (.slice (some ⟨g, o + m * 3, none⟩) (y.len - m) (c - m)) (y.drop m) := by
  obtain ⟨ds, h1, h2⟩ := h
  exact ⟨_, by rw [Fo.len_drop]; exact h1.suf hm, h2.drop⟩
theorem one_facts (n : Int) : (oneY n).len = 2 ∧ (oneY n).Sm ∧ (oneY n).cnt = 3 := ⟨rfl, by simp [oneY, Fo.Sm, bedN, rakedN, soldN, Fo.len], rfl⟩
theorem print7 (a : Option Addr) (c : Nat) (S : Nat → Prop) (w : World) (hv : FSl S w (.slice a 2 c) (oneY 7)) (hS : ∀ b, S b → b < w.heap.size) (ht : Pow w) :
    Calls Tryz.prog 22 #[.slice a 2 c] w fun e w' => e = .returned (.tuple #[.string ⟨#[98, 101, 100, 32, 51, 10, 32, 114, 97, 107, 101, 100, 32, 53, 32, 55, 10, 115, 111, 108, 100, 10]⟩, .int .i64 0]) ∧ Below w.heap.size w w' := by
  have h := Print_any (oneY 7) a c S w hv hS (by decide) (one_facts 7).2.1 (by decide) ht
  rw [val_chk, if_pos rfl, val_txt] at h
  exact h
theorem parse1 (w : World) : Calls Tryz.prog 26 #[.string ⟨#[98, 101, 100, 32, 51, 10, 32, 114, 97, 107, 101, 100, 32, 53, 32, 55, 10, 115, 111, 108, 100, 10]⟩] w fun e w' => ∃ a c, e = .returned (.tuple #[.slice a 2 c, .int .i64 0, .int .i64 0, .int .i64 0]) ∧ FSl (Rg w.heap.size w'.heap.size) w' (.slice a 2 c) (oneY 7) ∧ Below w.heap.size w w' := by
  have h := Parse_any txt1 w (by decide)
  rw [val_prs1.1, val_prs1.2] at h
  exact h
theorem parse2 (w : World) : Calls Tryz.prog 26 #[.string ⟨#[98, 101, 100, 32, 51, 10, 32, 32, 114, 97, 107, 101, 100, 32, 53, 10]⟩] w fun e w' => ∃ a c, e = .returned (.tuple #[.slice a 0 c, .int .i64 1, .int .i64 1, .int .i64 11]) ∧ Below w.heap.size w w' := by
  have h := Parse_any txt2 w (by decide)
  rw [val_prs2.1, val_prs2.2] at h
  exact h.mono fun e w' ⟨a, c, h1, _, h3⟩ => ⟨a, c, h1, h3⟩
theorem alike7 (a1 a2 : Option Addr) (c1 c2 : Nat) (S : Nat → Prop) (w : World) (h1 : FSl S w (.slice a1 2 c1) (oneY 7)) (h2 : FSl S w (.slice a2 2 c2) (oneY 7)) (hS : ∀ b, S b → b < w.heap.size) :
    Calls Tryz.prog 25 #[.slice a1 2 c1, .slice a2 2 c2] w fun e w' => e = .returned (.bool true) ∧ Below w.heap.size w w' := by
  have h := (alike_any 4).2 (oneY 7) (oneY 7) a1 c1 a2 c2 S w (by decide) h1 h2 hS (by decide) (by decide) (one_facts 7).2.1 (one_facts 7).2.1
  rw [decide_eq_true rfl] at h
  exact h
theorem diff78 (a1 a2 : Option Addr) (c1 c2 : Nat) (S : Nat → Prop) (w : World) (h1 : FSl S w (.slice a1 2 c1) (oneY 7)) (h2 : FSl S w (.slice a2 1 c2) (oneB 8)) (hS : ∀ b, S b → b < w.heap.size) (ht : Pow w) :
    Calls Tryz.prog 41 #[.slice a1 2 c1, .slice a2 1 c2] w fun e w' => ∃ a c, e = .returned (.tuple #[.slice a 2 c, .int .i64 0]) ∧ ChSl (Rg w.heap.size w'.heap.size) w' (.slice a 2 c) difV ∧ Below w.heap.size w w' := by
  have h := Diff_any (oneY 7) (oneB 8) a1 a2 c1 c2 S w h1 h2 hS (by decide) (by decide) (one_facts 7).2.1 (by simp [oneB, Fo.Sm, bedN, rakedN, Fo.len]) (by decide) (by decide) ht
  rw [val_dif.1, val_dif.2] at h
  exact h
theorem get7 (a1 a2 : Option Addr) (c1 c2 : Nat) (S T : Nat → Prop) (w : World) (h1 : FSl S w (.slice a1 2 c1) (oneY 7)) (hS : ∀ b, S b → b < w.heap.size) (h2 : Pth T w (.slice a2 2 c2) [bed3, raked5]) (hT : ∀ b, T b → b < w.heap.size) :
    Calls Tryz.prog 56 #[.slice a1 2 c1, .slice a2 2 c2] w fun e w' => ∃ an cn ab cb, e = .returned (.tuple #[.agg #[.string ⟨#[114, 97, 107, 101, 100]⟩, .slice an 2 cn, .slice ab 0 cb], .int .i64 0]) ∧ Ints (Rg w.heap.size w'.heap.size) w' (.slice an 2 cn) [5, 7] ∧ Below w.heap.size w w' := by
  have h := Get_any (oneY 7) [bed3, raked5] a1 a2 c1 c2 S T w h1 hS h2 hT (by decide) (one_facts 7).2.1 (by decide) (by decide)
  refine h.mono ?_
  rintro e w' ⟨n, l, s, an, cn, ab, cb, hg, he, hi, hf, hb⟩
  rw [val_get.2] at hg
  obtain ⟨rfl, rfl, rfl⟩ : rakedN = n ∧ [5, 7] = l ∧ Fo.nil = s := by simpa using hg
  rw [val_get.1] at he
  exact ⟨an, cn, ab, cb, he, hi, hb⟩
theorem put7 (a1 a2 an : Option Addr) (c1 c2 cn : Nat) (S T : Nat → Prop) (w : World) (h1 : FSl S w (.slice a1 2 c1) (oneY 7)) (hS : ∀ b, S b → b < w.heap.size) (h2 : Pth T w (.slice a2 1 c2) [bed3]) (h3 : Ints T w (.slice an 1 cn) [6]) (hT : ∀ b, T b → b < w.heap.size) :
    Calls Tryz.prog 49 #[.slice a1 2 c1, .slice a2 1 c2, .agg #[.string ⟨#[114, 97, 107, 101, 100]⟩, .slice an 1 cn, .slice none 0 0]] w fun e w' => ∃ a c, e = .returned (.tuple #[.slice a 2 c, .int .i64 0]) ∧ FSl (Rg w.heap.size w'.heap.size) w' (.slice a 2 c) oneM ∧ Below w.heap.size w w' := by
  have h := Put_any (oneY 7) [bed3] rakedN [6] .nil a1 a2 an none c1 c2 cn 0 S T T w h1 hS h2 hT h3 ⟨[], ⟨rfl, none, 0, rfl, Nat.le_refl _, by simp [maxLen], fun _ => rfl, .inl rfl⟩, rfl⟩ hT (by decide) (one_facts 7).2.1 (by decide) (by decide) (by decide) (by decide) (by decide) trivial (by decide)
  refine h.mono ?_
  rintro e w' ⟨a, c, he, hf, hb⟩
  rw [val_put.1, val_put.2] at he
  rw [val_put.2] at hf
  exact ⟨a, c, he, hf.fsl, hb⟩
theorem join7 (a1 a2 a3 : Option Addr) (c1 c2 c3 : Nat) (S : Nat → Prop) (w : World) (h1 : FSl S w (.slice a1 2 c1) (oneY 7)) (h2 : FSl S w (.slice a2 1 c2) oneS) (h3 : FSl S w (.slice a3 2 c3) oneM) (hS : ∀ b, S b → b < w.heap.size) (ht : Pow w) :
    Calls Tryz.prog 33 #[.slice a1 2 c1, .slice a2 1 c2, .slice a3 2 c3] w fun e w' => ∃ a c a' c', e = .returned (.tuple #[.slice a 1 c, .slice a' 1 c', .int .i64 0]) ∧ FSl (Rg w.heap.size w'.heap.size) w' (.slice a 1 c) oneS ∧ PaSl (Rg w.heap.size w'.heap.size) w' (.slice a' 1 c') [[bed3, raked6]] ∧ Below w.heap.size w w' := by
  have h := Join_any (oneY 7) oneS oneM a1 a2 a3 c1 c2 c3 S w h1 h2 h3 hS ⟨by decide, (one_facts 7).2.1, by decide⟩ ⟨by decide, by simp [oneS, Fo.Sm, soldN, Fo.len], by decide⟩ ⟨by decide, by simp [oneM, Fo.Sm, bedN, rakedN, soldN, Fo.len], by decide⟩ ht
  refine h.mono ?_
  rintro e w' ⟨a, c, a', c', he, hf, hp, hb⟩
  rw [val_join.1, val_join.2.1, val_join.2.2] at he
  rw [val_join.2.1] at hf
  rw [val_join.2.2] at hp
  exact ⟨a, c, a', c', he, hf, hp, hb⟩
end Go.Proofs.LF
