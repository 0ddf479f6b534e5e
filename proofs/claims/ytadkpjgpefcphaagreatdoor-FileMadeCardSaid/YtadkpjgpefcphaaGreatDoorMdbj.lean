/- Parts of the proof of a law of layer 11 (file): LfGen, LfW46. The conditions stand in each theorem. -/
import Derived.BigQuiet
import Derived.Deep.AppendLies
import Derived.Deep.Cut
import Derived.Deep.CutBlock
import Derived.Deep.CutRange
import Derived.Deep.QuietTactic
import Derived.Deep.RegionHeld3
import Derived.Laws.ResultCell
import Derived.Outline
import Derived.Test.YtadkpjgpefcphaaGreatDoorProg
import Derived.WalkKit
import Derived.WalkLawsBesides
import Derived.WalkSpells
import Derived.Test.YtadkpjgpefcphaaGreatDoorMdbh
import Derived.Test.YtadkpjgpefcphaaGreatDoorMdbi
set_option linter.all false
set_option linter.unusedVariables false
set_option linter.unusedSimpArgs false
namespace Go.Proofs.LF
def tops : Fo → List Ky
  | .nil => []
  | .cons n l _ r => kyOf n l :: tops r
theorem tops_app : ∀ (y z : Fo), tops (y.app z) = tops y ++ tops z
  | .nil, _ => rfl
  | .cons n l s r, z => by simp only [Fo.app, tops, tops_app r z, List.cons_append]
def nmz : List (List UInt8) := [[98, 101, 100], [99, 97, 114, 116], [104, 111, 114, 110], [115, 97, 99, 107], [122, 101, 114, 111]]
def OkF : Nat → Fo → Prop
  | _, .nil => True
  | d, .cons n l s r => d ≤ 3 ∧ n ∈ nmz ∧ l.length ≤ 4 ∧ (∀ x ∈ l, 0 ≤ x ∧ x ≤ 9999) ∧ OkF (d + 1) s ∧ (∀ k ∈ tops r, byK (kyOf n l) k < 0) ∧ OkF d r
theorem OkF.app : ∀ {d : Nat} {y z : Fo}, OkF d y → OkF d z → (∀ a ∈ tops y, ∀ b ∈ tops z, byK a b < 0) → OkF d (y.app z)
  | _, .nil, _, _, h, _ => h
  | d, .cons n l s r, z, ⟨h1, h2, h3, h4, h5, h6, h7⟩, h, k => by
    refine ⟨h1, h2, h3, h4, h5, fun q hq => ?_, OkF.app h7 h fun a ha b hb => k a (by simp [tops, ha]) b hb⟩
    rw [tops_app] at hq
    rcases List.mem_append.1 hq with hq | hq
    · exact h6 q hq
    · exact k _ (by simp [tops]) q hq
theorem OkF.one {d : Nat} {n : List UInt8} {l : List Int} {s : Fo} (h1 : d ≤ 3) (h2 : n ∈ nmz) (h3 : l.length ≤ 4) (h4 : ∀ x ∈ l, 0 ≤ x ∧ x ≤ 9999) (h5 : OkF (d + 1) s) : OkF d (.cons n l s .nil) :=
  ⟨h1, h2, h3, h4, h5, by simp [tops], trivial⟩
theorem nmz_ok : ∀ n ∈ nmz, badNm n = false ∧ n.length ≤ 8 := by decide
theorem okF_ord : ∀ (y : Fo) (d : Nat) (p : Option Ky), OkF d y → (∀ q, p = some q → ∀ k ∈ tops y, byK q k < 0) → ordG geK (d : Int) p y = 0
  | .nil, _, _, _, _ => rfl
  | .cons n l s r, d, p, ⟨h1, h2, h3, h4, h5, h6, h7⟩, hp => by
    have e1 : ordG geK ((d : Int) + 1) none s = 0 := by
      have := okF_ord s (d + 1) none h5 (fun q hq => by cases hq)
      rwa [show ((d + 1 : Nat) : Int) = (d : Int) + 1 by omega] at this
    have e2 : ordG geK (d : Int) (some (kyOf n l)) r = 0 := okF_ord r d _ h7 (fun q hq k hk => by cases hq; exact h6 k hk)
    have hb : badNs l = false := by
      simp only [badNs, List.any_eq_false, offB, Bool.or_eq_true, decide_eq_true_eq, not_or]
      intro x hx
      have := h4 x hx
      omega
    simp only [ordG]
    rw [if_neg (by omega), if_neg (by rw [(nmz_ok n h2).1]; simp), if_neg (by omega), if_neg (by rw [hb]; simp)]
    cases p with
    | none => dsimp only; rw [if_neg (by simp), e1, e2]; simp
    | some q =>
      have := hp q rfl (kyOf n l) (by simp [tops])
      have hg : geK q (kyOf n l) = false := by simp only [geK, decide_eq_false_iff_not]; omega
      dsimp only
      rw [if_neg (by rw [hg]; simp), e1, e2]; simp
theorem okF_chk {y : Fo} (h : OkF 0 y) : chkY y = if y.cnt ≤ 60 then 0 else 2 := by
  have := okF_ord y 0 none h (fun q hq => by cases hq)
  unfold chkY
  split
  · exact this
  · rfl
theorem okF_sm : ∀ (y : Fo) (d : Nat), OkF d y → y.cnt ≤ 1000 → y.Sm
  | .nil, _, _, _ => trivial
  | .cons n l s r, d, ⟨_, h2, h3, _, h5, _, h7⟩, hc => by
    simp only [Fo.cnt] at hc
    have := len_cnt s
    exact ⟨by have := (nmz_ok n h2).2; omega, by omega, by omega, okF_sm s _ h5 (by omega), okF_sm r _ h7 (by omega)⟩
theorem byK_nm {a b : Ky} (h : Op.bytesLess a.n b.n = true) : byK a b < 0 := by
  have hne : a.n ≠ b.n := fun e => by rw [e, bl_irrefl] at h; cases h
  simp [byK, hne, cmpB, h]
theorem byK_num {n : List UInt8} {x y : Int} (h : x < y) : byK ⟨n, true, x⟩ ⟨n, true, y⟩ < 0 := by
  simp [byK, cmpI, h]
def nmI (i : Nat) : List UInt8 := nmz.getD i []
theorem nmI_less : ∀ i, i < 5 → ∀ j, j < i → Op.bytesLess (nmI j) (nmI i) = true := by decide
theorem nmI_mem : ∀ i, i < 5 → nmI i ∈ nmz := by decide
theorem tops_n {n : List UInt8} {l : List Int} : (kyOf n l).n = n := kyOf_n n l
theorem okF_down : ∀ {d : Nat} {y : Fo}, OkF (d + 1) y → OkF d y
  | _, .nil, _ => trivial
  | d, .cons n l s r, ⟨h1, h2, h3, h4, h5, h6, h7⟩ => ⟨by omega, h2, h3, h4, okF_down h5, h6, okF_down h7⟩
end Go.Proofs.LF
namespace Go.Proofs.LF
open Go.RowKit Go.Sort
set_option maxHeartbeats 4000000
set_option maxRecDepth 100000
attribute [local go_sem] bs_toList bs_size bs_get
theorem enters120 : Enters 120 := by intro args W; simp [go_sem]
theorem eqP_any (p q : List Ky) (ap aq : Option Addr) (cp cq F : Nat) (S : Nat → Prop) (w : World) (hp : Pth S w (.slice ap p.length cp) p) (hq : Pth S w (.slice aq q.length cq) q) (hS : ∀ b, S b → b < w.heap.size) (lp : p.length ≤ 1000) (lq : q.length ≤ 1000)
    (hc : w.cell? ⟨F, 0, none⟩ = some (.slice aq q.length cq)) :
    Calls Tryz.prog 120 #[.slice ap p.length cp, .pointer (some ⟨F, 0, none⟩)] w fun e w' => e = .returned (.bool (decide (cmpP p q = 0))) ∧ Below w.heap.size w w' := by
  have H := hid (byPath_any p q ap aq cp cq S w hp hq hS lp lq)
  clear hp hq
  go_enter Tryz.func120, Tryz.ntmps120
  go_wp2_with fail
  refine H.out.mono ?_
  rintro e w1 ⟨rfl, hb1⟩
  have HB1 := hid hb1
  clear hb1
  by_cases h : cmpP p q = 0
  · go_wp2_with fail
    go_ret
    exact ⟨ret_bool (by simp [h]), HB1.out⟩
  · go_wp2_with fail
    go_ret
    exact ⟨ret_bool (by simp [h]), HB1.out⟩
theorem path_elem {S : Nat → Prop} {w : World} {ps : List (List Ky)} {ds : List Value} (h : LCs rdPa S w ps ds) {i : Nat} (hi : i < ps.length) : ∃ ap cp, elemV 1 ds i = .slice ap ps[i].length cp ∧ Pth S w (.slice ap ps[i].length cp) ps[i] := by
  have h' := h.drop (i := i)
  rw [List.drop_eq_getElem_cons hi] at h'
  obtain ⟨cs, es, he, ⟨ap, cp, rfl, hp⟩, _⟩ := h'
  refine ⟨ap, cp, ?_, hp⟩
  have e0 : ds[i]? = some (.slice ap ps[i].length cp) := by
    have := congrArg (fun l => l[0]?) he
    simpa [List.getElem?_drop] using this
  simp [elemV, List.getD_eq_getElem?_getD, e0]
theorem contP_any (ps : List (List Ky)) (q : List Ky) (al aq : Option Addr) (cl cq F : Nat) (S T : Nat → Prop) (w : World) (hv : PaSl S w (.slice al ps.length cl) ps) (hS : ∀ b, S b → b < w.heap.size) (hq : Pth T w (.slice aq q.length cq) q) (hT : ∀ b, T b → b < w.heap.size)
    (hF : F < w.heap.size) (hc : w.cell? ⟨F, 0, none⟩ = some (.slice aq q.length cq)) (hl : ps.length ≤ 1000) (hps : ∀ p ∈ ps, p.length ≤ 1000) (lq : q.length ≤ 1000) :
    Calls Tryz.prog 45 #[.slice al ps.length cl, .func (.func 120) #[] #[.pointer (some ⟨F, 0, none⟩)]] w fun e w' => e = .returned (.bool (ps.any (fun p => decide (cmpP p q = 0)))) ∧ Below w.heap.size w w' := by
  obtain ⟨ds, h1, h2⟩ := hv
  have key := cont_path 120 enters120 (fun i => decide (cmpP (ps.getD i []) q = 0)) [.pointer (some ⟨F, 0, none⟩)] ps.length al cl ds S w h1 hS (by omega) (fun i hi W hW => by
    obtain ⟨ap', cp', he, hp'⟩ := path_elem h2 hi
    have hg : ps.getD i [] = ps[i] := by simp [List.getD_eq_getElem?_getD, hi]
    rw [he, hg]
    exact eqP_any ps[i] q ap' aq cp' cq F (fun b => S b ∨ T b) W ((hp'.agree (Agree.of_below hW hS)).wide fun b hb => .inl hb) ((hq.agree (Agree.of_below hW hT)).wide fun b hb => .inr hb) (fun b hb => by have := hW.size; rcases hb with hb | hb; have := hS b hb; omega; have := hT b hb; omega) (hps _ (List.getElem_mem hi)) lq (below_cell hW hF hc))
  rw [anyN_list (fun p => decide (cmpP p q = 0)) _ ps (fun i hi => by simp [List.getD_eq_getElem?_getD, hi])] at key
  exact key
end Go.Proofs.LF
