/- Parts of the proof of a law of layer 11 (file): LfW78, LfW81, LfPp, LfW82, LfC84, LfC89. The conditions stand in each theorem. -/
import Derived.BigQuiet
import Derived.Deep.AppendLies
import Derived.Deep.Cut
import Derived.Deep.CutBlock
import Derived.Deep.CutRange
import Derived.Deep.QuietTactic
import Derived.Deep.RegionHeld3
import Derived.Laws.ResultCell
import Derived.Outline
import Derived.Test.YtadkpjgpefcphaaGreatDoorProg
import Derived.WalkKit
import Derived.WalkLawsBesides
import Derived.WalkSpells
import Derived.Test.YtadkpjgpefcphaaGreatDoorPuaf
import Derived.Test.YtadkpjgpefcphaaGreatDoorPual
import Derived.Test.YtadkpjgpefcphaaGreatDoorPuan
import Derived.Test.YtadkpjgpefcphaaGreatDoorPuas
import Derived.Test.YtadkpjgpefcphaaGreatDoorPuat
import Derived.Test.YtadkpjgpefcphaaGreatDoorPuaw
import Derived.Test.YtadkpjgpefcphaaGreatDoorPubc
import Derived.Test.YtadkpjgpefcphaaGreatDoorPubk
import Derived.Test.YtadkpjgpefcphaaGreatDoorPubl
import Derived.Test.YtadkpjgpefcphaaGreatDoorPubm
import Derived.Test.YtadkpjgpefcphaaGreatDoorPubn
import Derived.Test.YtadkpjgpefcphaaGreatDoorPubr
set_option linter.all false
set_option linter.unusedVariables false
set_option linter.unusedSimpArgs false
namespace Go.Proofs.LF
open Go.RowKit Go.Sort
def Bd (y : Fo) : Prop := y.len ≤ 1000 ∧ y.Sm ∧ y.cnt ≤ 900
def In (W : World) (v : Value) (y : Fo) : Prop := FSl (fun q => q < W.heap.size) W v y
theorem In.on {W W' : World} {v : Value} {y : Fo} (h : In W v y) (hb : Below W.heap.size W W') : In W' v y := FSl.on h hb
def PaIn (W : World) (v : Value) (ps : List (List Ky)) : Prop := PaSl (fun q => q < W.heap.size) W v ps
theorem PaIn.on {W W' : World} {v : Value} {ps : List (List Ky)} (h : PaIn W v ps) (hb : Below W.heap.size W W') : PaIn W' v ps := LSl.on h hb
def IsIn (W : World) (v : Value) (l : List Int) : Prop := Ints (fun q => q < W.heap.size) W v l
theorem IsIn.on {w w' : World} {v : Value} {l : List Int} (h : IsIn w v l) (hb : Below w.heap.size w w') : IsIn w' v l :=
  (Ints.agree h (Agree.of_below hb fun _ h => h)).wide fun b hq => by have := hb.size; omega
def PtIn (W : World) (v : Value) (l : List Ky) : Prop := Pth (fun q => q < W.heap.size) W v l
theorem PtIn.on {w w' : World} {v : Value} {l : List Ky} (h : PtIn w v l) (hb : Below w.heap.size w w') : PtIn w' v l :=
  (Pth.agree h (Agree.of_below hb fun _ h => h)).wide fun b hq => by have := hb.size; omega
def ChIn (W : World) (v : Value) (l : List Ch) : Prop := ChSl (fun q => q < W.heap.size) W v l
theorem ChIn.on {W W' : World} {v : Value} {ps : List Ch} (h : ChIn W v ps) (hb : Below W.heap.size W W') : ChIn W' v ps := LSl.on h hb
theorem join_c (y a b : Fo) (ay aa ab : Option Addr) (cy ca cb : Nat) (W : World) (hy : In W (.slice ay y.len cy) y) (ha : In W (.slice aa a.len ca) a) (hb : In W (.slice ab b.len cb) b) (by_ : Bd y) (ba : Bd a) (bb : Bd b) (ht : Pow W)
    {E : Int} {Y : Fo} {P : List (List Ky)} (h : joE y a b = E ∧ joY y a b = Y ∧ joP y a b = P) :
    Calls Tryz.prog 33 #[.slice ay y.len cy, .slice aa a.len ca, .slice ab b.len cb] W fun e w' => ∃ aj cj ap cp, e = .returned (.tuple #[.slice aj Y.len cj, .slice ap P.length cp, .int .i64 E]) ∧ In w' (.slice aj Y.len cj) Y ∧ PaIn w' (.slice ap P.length cp) P ∧ Below W.heap.size W w' := by
  obtain ⟨rfl, rfl, rfl⟩ := h
  exact (Join_any y a b ay aa ab cy ca cb _ W hy ha hb (fun _ h => h) by_ ba bb ht).mono fun e w' ⟨a1, c1, a2, c2, he, h1, h2, h3⟩ => ⟨a1, c1, a2, c2, he, h1.wide fun b hb => hb.2, h2.wide fun b hb => hb.2, h3⟩
theorem diff_c (y a : Fo) (ay aa : Option Addr) (cy ca : Nat) (W : World) (hy : In W (.slice ay y.len cy) y) (ha : In W (.slice aa a.len ca) a) (by_ : Bd y) (ba : Bd a) (ht : Pow W) {D : List Ch} {E : Int} (h : difE y a = E ∧ difL y a = D) :
    Calls Tryz.prog 41 #[.slice ay y.len cy, .slice aa a.len ca] W fun e w' => ∃ ap cp, e = .returned (.tuple #[.slice ap D.length cp, .int .i64 E]) ∧ ChIn w' (.slice ap D.length cp) D ∧ Below W.heap.size W w' := by
  obtain ⟨rfl, rfl⟩ := h
  exact (Diff_any y a ay aa cy ca _ W hy ha (fun _ h => h) by_.1 ba.1 by_.2.1 ba.2.1 by_.2.2 ba.2.2 ht).mono fun e w' ⟨a1, c1, he, h1, h3⟩ => ⟨a1, c1, he, h1.wide fun b hb => hb.2, h3⟩
theorem same_c (y a : Fo) (ay aa : Option Addr) (cy ca : Nat) (W : World) (hy : In W (.slice ay y.len cy) y) (ha : In W (.slice aa a.len ca) a) (by_ : Bd y) (ba : Bd a) :
    Calls Tryz.prog 25 #[.slice ay y.len cy, .slice aa a.len ca] W fun e w' => e = .returned (.bool (decide (y = a))) ∧ Below W.heap.size W w' :=
  (alike_any (y.cnt + 1)).2 y a ay cy aa ca _ W (Nat.lt_succ_self _) hy ha (fun _ h => h) by_.1 ba.1 by_.2.1 ba.2.1
theorem check_c (y : Fo) (a : Option Addr) (c : Nat) (W : World) (hy : In W (.slice a y.len c) y) (hb : Bd y) : Calls Tryz.prog 23 #[.slice a y.len c] W fun e w' => e = .returned (.int .i64 (chkY y)) ∧ Below W.heap.size W w' :=
  Check_any y a c _ W hy (fun _ h => h) hb.1 hb.2.1 hb.2.2
def AllP (W w' : World) (v : Value) (ps : List (List Ky)) (n : Nat) (cs : List Value) : Prop := n = ps.length ∧ w'.ownsRow W.heap.size 65 1 v n cs ∧ ∃ T : Nat → Prop, LCs rdPa T w' ps cs ∧ ∀ b, T b → W.heap.size ≤ b ∧ b < w'.heap.size ∧ v.ownBlock ≠ some b
theorem all_c (y : Fo) (a : Option Addr) (c : Nat) (W : World) (hy : In W (.slice a y.len c) y) (hb : Bd y) :
    Calls Tryz.prog 43 #[.slice a y.len c, .slice none 0 0] W fun e w' => ∃ a1 c1 a2 c2 cs, e = .returned (.tuple #[.slice a1 y.cnt c1, .slice a2 y.cnt c2]) ∧ AllP W w' (.slice a1 y.cnt c1) (evP [] y) y.cnt cs ∧ Below W.heap.size W w' := by
  have hnil : Pth (fun _ => False) W (.slice none ([] : List Ky).length 0) [] := ⟨rfl, none, 0, rfl, Nat.le_refl _, by simp [maxLen], fun _ => rfl, .inl rfl⟩
  refine (all_all (y.cnt + 1) y [] a c none 0 _ (fun _ => False) W (Nat.lt_succ_self _) hy hnil (fun _ h => h) (fun _ h => h.elim) hb.1 hb.2.1 (by simpa using hb.2.2)).mono ?_
  rintro e w' ⟨a1, c1, a2, c2, he, ⟨T, cs, es, h1, h2, h3, h4, h5, h6⟩, hB⟩
  rw [evP_length] at h1
  exact ⟨a1, c1, a2, c2, cs, he, ⟨(evP_length [] y).symm, h1, T, h2, fun b hb => ⟨(h5 b hb).1, (h5 b hb).2.1, (h5 b hb).2.2.1⟩⟩, hB⟩
theorem AllP.news {W w' : World} {a : Option Addr} {n c : Nat} {ps : List (List Ky)} {cs : List Value} (h : AllP W w' (.slice a n c) ps n cs) : cs.length = n * 1 ∧ (a = none → n = 0 ∧ c = 0) ∧ (∀ ad, a = some ad → ∀ (j : Nat) (u : Value), cs[j]? = some u → w'.cell? (ad.add j) = some u) ∧ (∀ u ∈ cs, u.oneCell' = true) := by
  obtain ⟨_, h1, T, h2, h3⟩ := h
  have s1 := SlC.of_owns h1
  exact ⟨h1.1, fun h => (SlC.caps s1).2.2 h, SlC.news s1 Agree.refl, LCs.one h2⟩
theorem all_app {W0 w1 w2 w3 : World} {v1 v2 v3 : Value} {p1 p2 : List (List Ky)} {n1 n2 : Nat} {cs1 cs2 : List Value} (h1 : AllP W0 w1 v1 p1 n1 cs1) (b1 : Below W0.heap.size W0 w1) (h2 : AllP w1 w2 v2 p2 n2 cs2) (b2 : Below w1.heap.size w1 w2)
    (hown : w3.ownsRow W0.heap.size 65 1 v3 (n1 + n2) (cs1 ++ cs2)) (hg : w2.grownBy w3 v1.ownBlock) : PaIn w3 v3 (p1 ++ p2) ∧ Below W0.heap.size W0 w3 := by
  obtain ⟨e1, o1, T1, l1, t1⟩ := h1
  obtain ⟨e2, o2, T2, l2, t2⟩ := h2
  have z1 := b1.size
  have z2 := b2.size
  have z3 := hg.size
  have k1 : LCs rdPa T1 w3 p1 cs1 := (l1.agree (Agree.of_below b2 fun b hb => (t1 b hb).2.1)).agree (Agree.grown hg fun b hb => ⟨by have := (t1 b hb).2.1; omega, fun e => (t1 b hb).2.2 e⟩)
  have k2 : LCs rdPa T2 w3 p2 cs2 := l2.agree (Agree.grown hg fun b hb => ⟨by have := (t2 b hb).2.1; omega, fun e => by have := (o1.lt b e).2; have := (t2 b hb).1; omega⟩)
  have hs := SlC.of_owns hown
  have hn : n1 + n2 = (p1 ++ p2).length := by rw [List.length_append, e1, e2]
  rw [hn] at hs
  refine ⟨⟨cs1 ++ cs2, hs.wide fun b hb => hb.2, (k1.wide fun b hb => by have := (t1 b hb).2.1; omega).app (k2.wide fun b hb => by have := (t2 b hb).2.1; omega)⟩, ?_⟩
  exact (b1.trans (b2.mono z1)).grown hg (by omega) (fun b hb => (o1.lt b hb).1)
theorem at_c (y : Fo) (q : List Ky) (a aq : Option Addr) (c cq : Nat) (W : World) (hy : In W (.slice a y.len c) y) (hq : PtIn W (.slice aq q.length cq) q) (hb : Bd y) (lq : q.length ≤ 1000) {n : List Int} {i : Bool} (h : nsAt y q = n ∧ isAt y q = i) :
    Calls Tryz.prog 44 #[.slice a y.len c, .slice aq q.length cq] W fun e w' => ∃ a1 c1, e = .returned (.tuple #[.slice a1 n.length c1, .bool i]) ∧ IsIn w' (.slice a1 n.length c1) n ∧ Below W.heap.size W w' := by
  obtain ⟨rfl, rfl⟩ := h
  refine (atY_any y q a aq c cq _ _ W hy hq (fun _ h => h) (fun _ h => h) hb.1 hb.2.1 hb.2.2 lq).mono ?_
  rintro e w' ⟨a1, c1, he, h1, hB⟩
  exact ⟨a1, c1, he, h1.wide fun b hb => by have := hB.size; omega, hB⟩
theorem nsAt_len {y : Fo} (hb : Bd y) (q : List Ky) : (nsAt y q).length ≤ 1000 := by
  have key : ∀ (y : Fo) (u : List Ky), y.Sm → ∀ x ∈ flsL u y, x.l.length ≤ 1000 := by
    intro y
    induction y with
    | nil => intro u _ x hx; cases hx
    | cons n l s r ihs ihr =>
      intro u hs x hx
      obtain ⟨h1, h2, h3, h4, h5⟩ := hs
      rw [flsL_cons, List.mem_cons, List.mem_append] at hx
      rcases hx with rfl | hx | hx
      · exact h2
      · exact ihs _ h4 x hx
      · exact ihr _ h5 x hx
  unfold nsAt
  cases h : rfd (flsL [] y) q with
  | none => simp
  | some x => exact key y [] hb.2.1 x (rfd_some h).1
theorem eqN_c (l m : List Int) (al am : Option Addr) (cl cm : Nat) (W : World) (hl : IsIn W (.slice al l.length cl) l) (hm : IsIn W (.slice am m.length cm) m) (h1 : l.length ≤ 1000) (h2 : m.length ≤ 1000) {b : Bool} (h : decide (l = m) = b) :
    Calls Tryz.prog 47 #[.slice al l.length cl, .slice am m.length cm] W fun e w' => e = .returned (.bool b) ∧ Below W.heap.size W w' := by
  subst h
  exact eqInts_any l m al am cl cm _ W hl hm (by omega) (by omega)
theorem okF_bd {y : Fo} (h : OkF 0 y) (hc : y.cnt ≤ 900) : Bd y := ⟨by have := len_cnt y; omega, okF_sm y 0 h (by omega), hc⟩
def PAt (W w' : World) : Prop := Hp W.heap.size (fun q => q < W.heap.size) w' ∧ w'.heap.size = W.heap.size + 1 ∧ Below W.heap.size W w'
def ByIn (W : World) (v : Value) (l : List Int) : Prop := Byt (fun q => q < W.heap.size) W v l
theorem ByIn.on {W W' : World} {v : Value} {l : List Int} (h : ByIn W v l) (hb : Below W.heap.size W W') : ByIn W' v l :=
  (SlC.agree h (Agree.of_below hb fun _ h => h)).wide fun b hq => by have := hb.size; omega
theorem pile_c (l : List Int) (a : Option Addr) (c : Nat) (W : World) (h : ByIn W (.slice a l.length c) l) :
    Calls Tryz.prog 38 #[.slice a l.length c] W fun e w' => e = .returned (.pointer (some ⟨W.heap.size, 0, none⟩)) ∧ PAt W w' :=
  (Pile_any a l c _ W h (fun _ h => h)).mono fun e w' ⟨he, h1, h2, h3⟩ => ⟨he, h1, h2, h3⟩
theorem made1_c (W w1 : World) (h : PAt W w1) : Calls Tryz.prog 37 #[.pointer (some ⟨W.heap.size, 0, none⟩), .int .i64 3] w1 fun e w' => ∃ y a c, e = .returned (.slice a y.len c) ∧ In w' (.slice a y.len c) y ∧ (OkF 1 y ∧ y.cnt ≤ 78) ∧ Below W.heap.size W w' := by
  obtain ⟨h1, h2, h3⟩ := h
  refine (Made_any 3 W.heap.size _ w1 (by omega) (by omega) h1 (by omega) (fun q hq => by omega)).mono ?_
  rintro e w' ⟨y, a, c, he, hF, ho, _, hc, _, hk⟩
  exact ⟨y, a, c, he, hF.wide fun b hb => hb.2, ⟨ho, hc⟩, h3.trans (Keep.below hk (by omega) (fun b hb => by omega))⟩
theorem made_c (W w1 : World) (h : PAt W w1) : Calls Tryz.prog 37 #[.pointer (some ⟨W.heap.size, 0, none⟩), .int .i64 3] w1 fun e w' => ∃ y a c, e = .returned (.slice a y.len c) ∧ In w' (.slice a y.len c) y ∧ (OkF 0 y ∧ y.cnt ≤ 78) ∧ Below W.heap.size W w' :=
  (made1_c W w1 h).mono fun e w' ⟨y, a, c, he, h1, h2, h3⟩ => ⟨y, a, c, he, h1, ⟨okF_down h2.1, h2.2⟩, h3⟩
theorem few_c (y : Fo) (a : Option Addr) (c : Nat) (W : World) (hy : In W (.slice a y.len c) y) (ho : OkF 0 y) (hc : y.cnt ≤ 800) {q : Bool} (h : decide (60 < y.cnt) = q) :
    Calls Tryz.prog 40 #[.slice a y.len c] W fun e w' => e = .returned (.bool q) ∧ Below W.heap.size W w' := by
  subst h
  exact fewY_any y a c _ W ho hc hy (fun _ h => h)
theorem checkE_c (y : Fo) (a : Option Addr) (c : Nat) (W : World) (hy : In W (.slice a y.len c) y) (hb : Bd y) {E : Int} (h : chkY y = E) : Calls Tryz.prog 23 #[.slice a y.len c] W fun e w' => e = .returned (.int .i64 E) ∧ Below W.heap.size W w' := by
  subst h
  exact check_c y a c W hy hb
theorem okF_few {y : Fo} (h : OkF 0 y) (hc : y.cnt ≤ 60) : chkY y = 0 := by rw [okF_chk h, if_pos hc]
theorem okF_many2 {y : Fo} (h : OkF 0 y) (hc : ¬ y.cnt ≤ 60) : chkY y = 2 := by rw [okF_chk h, if_neg hc]
theorem eqY_c (y : Fo) (ay aa : Option Addr) (cy ca : Nat) (W : World) (hy : In W (.slice ay y.len cy) y) (ha : In W (.slice aa y.len ca) y) (by_ : Bd y) :
    Calls Tryz.prog 25 #[.slice ay y.len cy, .slice aa y.len ca] W fun e w' => e = .returned (.bool true) ∧ Below W.heap.size W w' := by
  have h := same_c y y ay aa cy ca W hy ha by_ by_
  rwa [decide_eq_true rfl] at h
theorem contK_c (ps : List (List Ky)) (q : List Ky) (al aq : Option Addr) (cl cq F : Nat) (w : World) (hv : PaIn w (.slice al ps.length cl) ps) (hq : PtIn w (.slice aq q.length cq) q) (hF : F < w.heap.size) (hc : w.cell? ⟨F, 0, none⟩ = some (.slice aq q.length cq)) (hl : ps.length ≤ 1000) (hps : ∀ p ∈ ps, p.length ≤ 1000) (lq : q.length ≤ 1000) {b : Bool} (h : decide (q ∈ ps) = b) :
    Calls Tryz.prog 45 #[.slice al ps.length cl, .func (.func 46) #[] #[.pointer (some ⟨F, 0, none⟩)]] w fun e w' => e = .returned (.bool b) ∧ Below w.heap.size w w' := by
  subst h
  exact contK_any ps q al aq cl cq F _ _ w hv (fun _ h => h) hq (fun _ h => h) hF hc hl hps lq
end Go.Proofs.LF
namespace Go.Proofs.LF
open Go.RowKit Go.Sort
set_option maxHeartbeats 4000000
set_option maxRecDepth 100000
attribute [local go_sem] bs_toList bs_size bs_get
theorem enters131 : Enters 131 := by intro args W; simp [go_sem]
def blP (q p : List Ky) : Bool := decide (q.length ≤ p.length) && decide (p.take q.length = q)
theorem drop1_any (x : Fl) (q : List Ky) (ap an aq : Option Addr) (cp cn cq F : Nat) (S : Nat → Prop) (w : World) (hp : Pth S w (.slice ap x.p.length cp) x.p) (hq : Pth S w (.slice aq q.length cq) q) (hS : ∀ b, S b → b < w.heap.size) (lp : x.p.length ≤ 1000) (lq : q.length ≤ 1000) (hF : F < w.heap.size) (hc : w.cell? ⟨F, 0, none⟩ = some (.slice aq q.length cq)) :
    Calls Tryz.prog 131 #[.agg #[.slice ap x.p.length cp, .slice an x.l.length cn], .pointer (some ⟨F, 0, none⟩)] w fun e w' => e = .returned (.bool (blP q x.p)) ∧ Below w.heap.size w w' := by
  obtain ⟨W, hW⟩ : ∃ W, w.alloc (.cells #[.slice ap x.p.length cp, .slice an x.l.length cn] 171) = W := ⟨_, rfl⟩
  have hb : Below w.heap.size w W := by rw [← hW]; exact (Below.refl _ _).alloc (Nat.le_refl _) _
  have hnew : W.heap[w.heap.size]? = some (.cells #[.slice ap x.p.length cp, .slice an x.l.length cn] 171 (0, 0)) := by rw [← hW]; exact heap_alloc_new _ _
  have c0 : W.cell? ⟨w.heap.size, 0, none⟩ = some (.slice ap x.p.length cp) := cells_get hnew (k := 0) rfl
  have d0 : W.cell? ⟨F, 0, none⟩ = some (.slice aq q.length cq) := below_cell hb hF hc
  have hcp := SlC.caps hp
  have HB := hid hb
  have HP := hid (hp.agree (Agree.of_below hb hS))
  have HQ := hid (hq.agree (Agree.of_below hb hS))
  have HW := hid hW
  have hS0 : W.cell? ⟨w.heap.size, 0, none⟩ = some (.slice ap x.p.length cp) ∧ W.cell? ⟨F, 0, none⟩ = some (.slice aq q.length cq) := ⟨c0, d0⟩
  have HS0 := hid hS0
  have hzW : W.heap.size = w.heap.size + 1 := by rw [← hW]; simp
  have HZW := hid hzW
  clear hp hq hc hb hnew c0 d0 hS0 hW hzW
  go_enter Tryz.func131, Tryz.ntmps131
  go_upto_region 1 with fail
  rw [HW.out]
  have i1 : (0 : Int) ≤ (q.length : Int) := by omega
  by_cases hle : q.length ≤ x.p.length
  · have hle' : (q.length : Int) ≤ (x.p.length : Int) := by omega
    have hlc : (q.length : Int) ≤ (cp : Int) := by omega
    have hsum : decide (q.length ≤ x.p.length) = true := by simp [hle]
    have CALL := hid (eqKeys_any (x.p.take q.length) q ap aq cp cq S W.drew (by
      have this := HP.out.pre hle
      rw [show (x.p.take q.length).length = q.length by rw [List.length_take]; omega]
      exact this.agree (fun _ _ => rfl)) (HQ.out.agree (fun _ _ => rfl)) (by rw [List.length_take]; omega) (by omega))
    have hlt : (x.p.take q.length).length = q.length := by rw [List.length_take]; omega
    rw [hlt] at CALL
    refine (wpIn_wide (n := 9)).1 ?_
    refine region_held (fun w' : World => w'.cell? ⟨w.heap.size, 0, none⟩ = some (.slice ap x.p.length cp) ∧ w'.cell? ⟨F, 0, none⟩ = some (.slice aq q.length cq)) (by kernel_rfl) ?_
    have hS0 := HS0.out
    refine AnyH_takeD (fun _ => trivial) (by kernel_rfl) 0 4 (.pointer (some ⟨w.heap.size, 0, none⟩)) rfl rfl (by kernel_rfl) (by kernel_rfl) (by kernel_rfl) (fun _ _ _ h => h) (.inl ⟨by kernel_rfl, fun w' hs => ?_⟩) hS0 ?_
    · go_simp
    refine AnyH_takeD (fun _ => trivial) (by kernel_rfl) 1 5 (.slice ap x.p.length cp) rfl rfl (by kernel_rfl) (by kernel_rfl) (by kernel_rfl) (fun _ _ _ h => h) (.inl ⟨by kernel_rfl, fun w' hs => ?_⟩) hS0 ?_
    · obtain ⟨q0, q1⟩ := hs
      go_simp
    refine AnyH_takeD (fun _ => trivial) (by kernel_rfl) 2 6 (.int .i64 x.p.length) rfl rfl (by kernel_rfl) (by kernel_rfl) (by kernel_rfl) (fun _ _ _ h => h) (.inl ⟨by kernel_rfl, fun w' hs => ?_⟩) hS0 ?_
    · go_simp
    refine AnyH_takeD (fun _ => trivial) (by kernel_rfl) 3 7 (.slice aq q.length cq) rfl rfl (by kernel_rfl) (by kernel_rfl) (by kernel_rfl) (fun _ _ _ h => h) (.inl ⟨by kernel_rfl, fun w' hs => ?_⟩) hS0 ?_
    · obtain ⟨q0, q1⟩ := hs
      go_simp
    refine AnyH_takeD (fun _ => trivial) (by kernel_rfl) 4 8 (.int .i64 q.length) rfl rfl (by kernel_rfl) (by kernel_rfl) (by kernel_rfl) (fun _ _ _ h => h) (.inl ⟨by kernel_rfl, fun w' hs => ?_⟩) hS0 ?_
    · go_simp
    refine AnyH_takeD (fun _ => trivial) (by kernel_rfl) 5 9 (.bool true) rfl rfl (by kernel_rfl) (by kernel_rfl) (by kernel_rfl) (fun _ _ _ h => h) (.inl ⟨by kernel_rfl, fun w' hs => ?_⟩) hS0 ?_
    · go_simp
    refine AnyH_takeD (fun _ => trivial) (by kernel_rfl) 6 10 (.bool true) rfl rfl (by kernel_rfl) (by kernel_rfl) (by kernel_rfl) (fun _ _ _ h => h) (.inl ⟨by kernel_rfl, fun w' hs => ?_⟩) hS0 ?_
    · go_simp
    refine AnyH_takeD (fun _ => trivial) (by kernel_rfl) 7 11 (.pointer (some ⟨w.heap.size, 0, none⟩)) rfl rfl (by kernel_rfl) (by kernel_rfl) (by kernel_rfl) (fun _ _ _ h => h) (.inl ⟨by kernel_rfl, fun w' hs => ?_⟩) hS0 ?_
    · go_simp
    refine AnyH_takeD (fun _ => trivial) (by kernel_rfl) 8 12 (.slice ap x.p.length cp) rfl rfl (by kernel_rfl) (by kernel_rfl) (by kernel_rfl) (fun _ _ _ h => h) (.inl ⟨by kernel_rfl, fun w' hs => ?_⟩) hS0 ?_
    · obtain ⟨q0, q1⟩ := hs
      go_simp
    refine AnyH_takeD (fun _ => trivial) (by kernel_rfl) 9 13 (.slice aq q.length cq) rfl rfl (by kernel_rfl) (by kernel_rfl) (by kernel_rfl) (fun _ _ _ h => h) (.inl ⟨by kernel_rfl, fun w' hs => ?_⟩) hS0 ?_
    · obtain ⟨q0, q1⟩ := hs
      go_simp
    refine AnyH_takeD (fun _ => trivial) (by kernel_rfl) 10 14 (.int .i64 q.length) rfl rfl (by kernel_rfl) (by kernel_rfl) (by kernel_rfl) (fun _ _ _ h => h) (.inl ⟨by kernel_rfl, fun w' hs => ?_⟩) hS0 ?_
    · go_simp
    refine AnyH_takeD (fun _ => trivial) (by kernel_rfl) 11 15 (.slice ap q.length cp) rfl rfl (by kernel_rfl) (by kernel_rfl) (by kernel_rfl) (fun _ _ _ h => h) (.inl ⟨by kernel_rfl, fun w' hs => ?_⟩) hS0 ?_
    · go_simp
    refine AnyH_takeD (fun _ => trivial) (by kernel_rfl) 12 16 (.slice aq q.length cq) rfl rfl (by kernel_rfl) (by kernel_rfl) (by kernel_rfl) (fun _ _ _ h => h) (.inl ⟨by kernel_rfl, fun w' hs => ?_⟩) hS0 ?_
    · obtain ⟨q0, q1⟩ := hs
      go_simp
    refine AnyH_one (i := 13) (by kernel_rfl) rfl (by kernel_rfl) (fun K hK => ?_)
    go_simp
    refine ⟨trivial, (callsIn_wide.2 CALL.out).mono ?_⟩
    rintro e w5 ⟨he5, hb5⟩
    obtain ⟨r, hr⟩ : ∃ r, decide (List.take q.length x.p = q) = r := ⟨_, rfl⟩
    rw [hr] at he5
    subst he5
    have hS5 : w5.cell? ⟨w.heap.size, 0, none⟩ = some (.slice ap x.p.length cp) ∧ w5.cell? ⟨F, 0, none⟩ = some (.slice aq q.length cq) := ⟨below_cell hb5 (by simp; have := HZW.out; omega) HS0.out.1, below_cell hb5 (by simp; have := HZW.out; omega) HS0.out.2⟩
    refine hK _ _ ⟨hS5, ?_⟩
    clear hK
    refine AnyH_takeD (fun _ => trivial) (by kernel_rfl) 14 18 (.bool r) rfl rfl (by kernel_rfl) (by kernel_rfl) (by kernel_rfl) (fun _ _ _ h => h) (.inl ⟨by kernel_rfl, fun w' hs => ?_⟩) hS5 ?_
    · go_simp
    refine AnyH_takeD (fun _ => trivial) (by kernel_rfl) 15 3 (.bool r) rfl rfl (by kernel_rfl) (by kernel_rfl) (by kernel_rfl) (fun _ _ _ h => h) (.inl ⟨by kernel_rfl, fun w' hs => ?_⟩) hS5 ?_
    · go_simp
    refine AnyH_done (by kernel_rfl) ?_
    go_simp
    have HBX := hid (HB.out.drew.trans (hb5.mono (by simp; exact HB.out.size)))
    have HR := hid hr
    clear hb5 hS5 hr
    go_wp2_with fail
    go_ret
    exact ⟨by rw [blP, hsum, HR.out]; rfl, HBX.out⟩
  · have hle' : ¬ (q.length : Int) ≤ (x.p.length : Int) := by omega
    have hsum : decide (q.length ≤ x.p.length) = false := by simp [hle]
    refine (wpIn_wide (n := 9)).1 ?_
    refine region_held (fun w' : World => w'.cell? ⟨w.heap.size, 0, none⟩ = some (.slice ap x.p.length cp) ∧ w'.cell? ⟨F, 0, none⟩ = some (.slice aq q.length cq)) (by kernel_rfl) ?_
    have hS0 := HS0.out
    refine AnyH_takeD (fun _ => trivial) (by kernel_rfl) 0 4 (.pointer (some ⟨w.heap.size, 0, none⟩)) rfl rfl (by kernel_rfl) (by kernel_rfl) (by kernel_rfl) (fun _ _ _ h => h) (.inl ⟨by kernel_rfl, fun w' hs => ?_⟩) hS0 ?_
    · go_simp
    refine AnyH_takeD (fun _ => trivial) (by kernel_rfl) 1 5 (.slice ap x.p.length cp) rfl rfl (by kernel_rfl) (by kernel_rfl) (by kernel_rfl) (fun _ _ _ h => h) (.inl ⟨by kernel_rfl, fun w' hs => ?_⟩) hS0 ?_
    · obtain ⟨q0, q1⟩ := hs
      go_simp
    refine AnyH_takeD (fun _ => trivial) (by kernel_rfl) 2 6 (.int .i64 x.p.length) rfl rfl (by kernel_rfl) (by kernel_rfl) (by kernel_rfl) (fun _ _ _ h => h) (.inl ⟨by kernel_rfl, fun w' hs => ?_⟩) hS0 ?_
    · go_simp
    refine AnyH_takeD (fun _ => trivial) (by kernel_rfl) 3 7 (.slice aq q.length cq) rfl rfl (by kernel_rfl) (by kernel_rfl) (by kernel_rfl) (fun _ _ _ h => h) (.inl ⟨by kernel_rfl, fun w' hs => ?_⟩) hS0 ?_
    · obtain ⟨q0, q1⟩ := hs
      go_simp
    refine AnyH_takeD (fun _ => trivial) (by kernel_rfl) 4 8 (.int .i64 q.length) rfl rfl (by kernel_rfl) (by kernel_rfl) (by kernel_rfl) (fun _ _ _ h => h) (.inl ⟨by kernel_rfl, fun w' hs => ?_⟩) hS0 ?_
    · go_simp
    refine AnyH_takeD (fun _ => trivial) (by kernel_rfl) 5 9 (.bool false) rfl rfl (by kernel_rfl) (by kernel_rfl) (by kernel_rfl) (fun _ _ _ h => h) (.inl ⟨by kernel_rfl, fun w' hs => ?_⟩) hS0 ?_
    · go_simp
    refine AnyH_takeD (fun _ => trivial) (by kernel_rfl) 6 10 (.bool false) rfl rfl (by kernel_rfl) (by kernel_rfl) (by kernel_rfl) (fun _ _ _ h => h) (.inl ⟨by kernel_rfl, fun w' hs => ?_⟩) hS0 ?_
    · go_simp
    refine AnyH_takeD (fun _ => trivial) (by kernel_rfl) 7 11 undef rfl rfl (by kernel_rfl) (by kernel_rfl) (by kernel_rfl) (fun _ _ _ h => h) (.inr ⟨by kernel_rfl, rfl⟩) hS0 ?_
    refine AnyH_takeD (fun _ => trivial) (by kernel_rfl) 8 12 undef rfl rfl (by kernel_rfl) (by kernel_rfl) (by kernel_rfl) (fun _ _ _ h => h) (.inr ⟨by kernel_rfl, rfl⟩) hS0 ?_
    refine AnyH_takeD (fun _ => trivial) (by kernel_rfl) 9 13 undef rfl rfl (by kernel_rfl) (by kernel_rfl) (by kernel_rfl) (fun _ _ _ h => h) (.inr ⟨by kernel_rfl, rfl⟩) hS0 ?_
    refine AnyH_takeD (fun _ => trivial) (by kernel_rfl) 10 14 undef rfl rfl (by kernel_rfl) (by kernel_rfl) (by kernel_rfl) (fun _ _ _ h => h) (.inr ⟨by kernel_rfl, rfl⟩) hS0 ?_
    refine AnyH_takeD (fun _ => trivial) (by kernel_rfl) 11 15 undef rfl rfl (by kernel_rfl) (by kernel_rfl) (by kernel_rfl) (fun _ _ _ h => h) (.inr ⟨by kernel_rfl, rfl⟩) hS0 ?_
    refine AnyH_takeD (fun _ => trivial) (by kernel_rfl) 12 16 undef rfl rfl (by kernel_rfl) (by kernel_rfl) (by kernel_rfl) (fun _ _ _ h => h) (.inr ⟨by kernel_rfl, rfl⟩) hS0 ?_
    refine AnyH_takeD (fun _ => trivial) (by kernel_rfl) 13 17 undef rfl rfl (by kernel_rfl) (by kernel_rfl) (by kernel_rfl) (fun _ _ _ h => h) (.inr ⟨by kernel_rfl, rfl⟩) hS0 ?_
    refine AnyH_takeD (fun _ => trivial) (by kernel_rfl) 14 18 (.bool false) rfl rfl (by kernel_rfl) (by kernel_rfl) (by kernel_rfl) (fun _ _ _ h => h) (.inl ⟨by kernel_rfl, fun w' hs => ?_⟩) hS0 ?_
    · go_simp
    refine AnyH_takeD (fun _ => trivial) (by kernel_rfl) 15 3 (.bool false) rfl rfl (by kernel_rfl) (by kernel_rfl) (by kernel_rfl) (fun _ _ _ h => h) (.inl ⟨by kernel_rfl, fun w' hs => ?_⟩) hS0 ?_
    · go_simp
    refine AnyH_done (by kernel_rfl) ?_
    go_simp
    go_wp2_with fail
    go_ret
    exact ⟨by rw [blP, hsum]; rfl, HB.out.drew⟩
end Go.Proofs.LF
namespace Go.Proofs.LF
theorem fstK_insK {n : List UInt8} {l : List Int} {s : Fo} : ∀ (y : Fo), fstK (kyOf n l) (insK n l s y) = some (n, l, s)
  | .nil => by simp [insK, fstK]
  | .cons n' l' s' r' => by
    simp only [insK]
    split
    · rename_i h
      rw [fstK, if_neg (byK_ne h)]
      exact fstK_insK r'
    · split <;> simp [fstK]
theorem fstK_modK {k : Ky} {f : Fo → Fo} {n : List UInt8} {l : List Int} {s : Fo} : ∀ {y : Fo}, fstK k y = some (n, l, s) → fstK k (modK k f y) = some (n, l, f s)
  | .nil, h => by cases h
  | .cons n' l' s' r', h => by
    simp only [modK]
    rw [fstK] at h
    split at h
    · rename_i hk
      simp only [Option.some.injEq, Prod.mk.injEq] at h
      obtain ⟨rfl, rfl, rfl⟩ := h
      rw [if_pos hk, fstK, if_pos hk]
    · rename_i hk
      rw [if_neg hk, fstK, if_neg hk]
      exact fstK_modK h
theorem atF_one {k : Ky} {y : Fo} : atF y [k] = fstK k y := by
  rw [atF]
  cases fstK k y with
  | none => rfl
  | some x => simp
theorem atF_put {n : List UInt8} {l : List Int} {s : Fo} : ∀ (p : List Ky) (y : Fo) (d : Nat), OkG d y → Pl y p → atF (putF n l s p y) (p ++ [kyOf n l]) = some (n, l, s)
  | [], y, d, hy, _ => by
    simp only [putF, List.nil_append]
    rw [putN_ins hy, atF_one, fstK_insK]
  | k :: r, y, d, hy, hp => by
    obtain ⟨n', l', s', hf, hp'⟩ := pl_cons hp
    have hs' := (fstK_okG hy hf).1
    simp only [putF, List.cons_append]
    rw [atF, fstK_modK hf]
    dsimp only
    rw [if_neg (by simp)]
    exact atF_put r s' (d + 1) hs' hp'
theorem pre_mem {L : List Fl} (hcl : Clo L) : ∀ (m : Nat) (x : Fl), x.p.length ≤ m → x ∈ L → ∀ q, q ≠ [] → q <+: x.p → q ∈ L.map Fl.p := by
  intro m
  induction m with
  | zero => intro x hl hx q hq hpre; exact absurd (List.eq_nil_of_length_eq_zero (by have := hpre.length_le; omega)) hq
  | succ m ih =>
    intro x hl hx q hq hpre
    by_cases he : q = x.p
    · rw [he]; exact List.mem_map.2 ⟨x, hx, rfl⟩
    · have hlt : q.length < x.p.length := by
        rcases Nat.lt_or_ge q.length x.p.length with h | h
        · exact h
        · exact absurd (hpre.eq_of_length_le h) he
      have hq' : q <+: x.p.dropLast := by
        rw [List.prefix_iff_eq_take] at hpre ⊢
        rw [List.dropLast_eq_take, List.take_take, Nat.min_eq_left (by omega)]
        exact hpre
      have hne : x.p.dropLast ≠ [] := fun e => by
        rw [e] at hq'
        exact hq (List.prefix_nil.1 hq')
      obtain ⟨z, hz, hzp⟩ := hcl x hx hne
      exact ih z (by rw [hzp, List.length_dropLast]; omega) hz q hq (by rw [hzp]; exact hq')
theorem okG_sm' : ∀ {y : Fo} {d : Nat}, OkG d y → y.cnt ≤ 1000 → y.Sm
  | .nil, _, _, _ => trivial
  | .cons n l s r, d, ⟨⟨_, h2, h3, _⟩, h5, _, h7⟩, hc => by
    simp only [Fo.cnt] at hc
    have := len_cnt s
    have hn := badNm_len h2
    exact ⟨by omega, by omega, by omega, okG_sm' h5 (by omega), okG_sm' h7 (by omega)⟩
theorem bd_chk {z : Fo} (h : chkY z = 0) : Bd z := by
  have h1 := chk_cnt h
  have h2 := len_cnt z
  exact ⟨by omega, okG_sm' (chk_okG h) (by omega), by omega⟩
theorem put_facts {y : Fo} {p : List Ky} {n : List UInt8} {l : List Int} {s : Fo} (hy : chkY y = 0) (hp : p = [] ∨ p ∈ evP [] y) (hd : OkG p.length (.cons n l s .nil)) (hs : s.cnt ≤ 20) : ∃ M E, (putE y p n l s = E ∧ putY y p n l s = M) ∧ (E = 0 ∨ E = 2 ∧ 60 < y.cnt + 1 + s.cnt) ∧
    (E = 0 → chkY M = 0 ∧ Bd M ∧ getE M (p ++ [kyOf n l]) = 0 ∧ getN M (p ++ [kyOf n l]) = (n, l, s) ∧ (p ++ [kyOf n l]) ∈ evP [] M ∧ ∃ R, (dropE M (p ++ [kyOf n l]) = 0 ∧ dropY M (p ++ [kyOf n l]) = R) ∧ Bd R ∧
      (isAt y (p ++ [kyOf n l]) = true → dropE y (p ++ [kyOf n l]) = 0 ∧ dropY y (p ++ [kyOf n l]) = R) ∧ (isAt y (p ++ [kyOf n l]) = false → R = y)) := by
  have hok := chk_okG hy
  have hpl : Pl y p := by
    rcases hp with h | h
    · exact .inl h
    · exact pl_of y [] p 0 hok (by simpa using h)
  have hok2 := putF_okG (n := n) (l := l) (s := s) p y 0 hok (by simpa using hd)
  have hcnt := putF_cnt (n := n) (l := l) (s := s) p y
  have hE : putE y p n l s = if (putF n l s p y).cnt ≤ 60 then 0 else 2 := by
    rw [putE, if_neg (by simp [hy]), if_neg, if_neg (by omega), okG_chk hok2]
    rintro ⟨h1, h2⟩
    have := hpl.resolve_left h2
    rw [Option.isNone_iff_eq_none] at h1
    rw [h1] at this
    cases this
  refine ⟨_, _, ⟨rfl, rfl⟩, ?_, fun h0 => ?_⟩
  · rw [hE]
    split
    · exact .inl rfl
    · exact .inr ⟨rfl, by omega⟩
  have hM : putY y p n l s = putF n l s p y := by rw [putY, if_pos h0]
  have hc60 : (putF n l s p y).cnt ≤ 60 := by
    rw [hE] at h0
    split at h0
    · assumption
    · cases h0
  rw [hM]
  have hat := atF_put (n := n) (l := l) (s := s) p y 0 hok hpl
  have hmem := putF_mem (n := n) (l := l) (s := s) p y [] 0 hok hpl
  simp only [List.nil_append] at hmem
  obtain ⟨q, hq⟩ : ∃ q, p ++ [kyOf n l] = q := ⟨_, rfl⟩
  have hqn : q ≠ [] := by rw [← hq]; simp
  have hqM : q ∈ evP [] (putF n l s p y) := by
    refine List.mem_map.2 ⟨⟨p ++ [kyOf n l], l⟩, (hmem _).2 (.inl ?_), hq⟩
    rw [flsL_cons]
    exact List.mem_cons_self ..
  have honly : ∀ x ∈ flsL p (.cons n l s .nil), q <+: x.p := fun x hx => by rw [← hq]; exact fls_one_pre hx
  rw [hq] at hat hmem ⊢
  obtain ⟨M, hMM⟩ : ∃ M, putF n l s p y = M := ⟨_, rfl⟩
  rw [hMM] at hat hmem hqM hok2 hc60 ⊢
  have km : chkY M = 0 := by rw [okG_chk hok2, if_pos hc60]
  have hg0 : getE M q = 0 := by rw [getE, if_neg (by simp [km]), hat]; rfl
  obtain ⟨d1, d2, d3, d4⟩ := drop_is km hqM
  have hcR := cnt_drP km hqM
  have kr : chkY (rmF q M) = 0 := by rw [okG_chk d3, if_pos (by omega)]
  have hmR : ∀ x, x ∈ flsL [] (rmF q M) ↔ x ∈ flsL [] y ∧ ¬ q <+: x.p := fun x => by
    rw [d4, drP_mem, hmem x]
    constructor
    · rintro ⟨h | h, h'⟩
      · exact absurd (honly x h) h'
      · exact h
    · rintro ⟨h, h'⟩
      exact ⟨.inr ⟨h, h'⟩, h'⟩
  refine ⟨km, bd_chk km, hg0, by rw [getN, if_pos hg0, hat]; rfl, hqM, rmF q M, ⟨d1, d2⟩, bd_chk kr, fun hi => ?_, fun hi => ?_⟩
  · have hqy : q ∈ evP [] y := rfd_iff.1 hi
    obtain ⟨e1, e2, e3, e4⟩ := drop_is hy hqy
    refine ⟨e1, e2.trans (year_ext e3 d3 fun x => ?_)⟩
    rw [hmR x, e4, drP_mem]
  · have hqy : q ∉ evP [] y := fun h => by
      have := rfd_iff.2 h
      unfold isAt at hi
      rw [this] at hi
      cases hi
    refine year_ext d3 hok fun x => ?_
    rw [hmR x]
    exact ⟨fun h => h.1, fun h => ⟨h, fun hpre => hqy (pre_mem clo_fls x.p.length x (Nat.le_refl _) h q hqn hpre)⟩⟩
def noS : Fo → Fo
  | .nil => .nil
  | .cons n l _ r => .cons n l .nil (noS r)
theorem noS_len : ∀ (y : Fo), (noS y).len = y.len ∧ (noS y).cnt = y.len
  | .nil => ⟨rfl, rfl⟩
  | .cons n l s r => by obtain ⟨h1, h2⟩ := noS_len r; exact ⟨by simp only [noS, Fo.len, h1], by simp only [noS, Fo.cnt, Fo.len, h2]; omega⟩
theorem noS_tops : ∀ (y : Fo), tops (noS y) = tops y
  | .nil => rfl
  | .cons n l s r => by simp [noS, tops, noS_tops r]
theorem noS_ok : ∀ {y : Fo} {d e : Nat}, OkF d y → e ≤ 3 → OkG e (noS y)
  | .nil, _, _, _, _ => trivial
  | .cons n l s r, d, e, ⟨_, h2, h3, h4, _, h6, h7⟩, he => ⟨⟨he, (nmz_ok _ h2).1, h3, badNs_of h4⟩, trivial, by rw [noS_tops]; exact h6, noS_ok h7 he⟩
end Go.Proofs.LF
namespace Go.Proofs.LF
open Go.RowKit Go.Sort
set_option maxHeartbeats 4000000
set_option maxRecDepth 100000
attribute [local go_sem] bs_toList bs_size bs_get
theorem kp_lcs {α : Type} {k : Nat} {r : Rd α k} {S : Nat → Prop} {w : World} {xs : List α} {cs : List Value} (h : LCs r S w xs cs) {p : Nat → Bool} {pr : α → Bool} (hp : ∀ i (hi : i < xs.length), p i = pr xs[i]) : ∀ j, j ≤ xs.length → LCs r S w ((xs.take j).filter fun x => !pr x) (kpC k p cs j) ∧ kpN p j = ((xs.take j).filter fun x => !pr x).length
  | 0, _ => by simp [kpC, kpN, LCs]
  | j + 1, hj => by
    obtain ⟨h1, h2⟩ := kp_lcs h hp j (by omega)
    have hx : j < xs.length := by omega
    rw [List.take_succ_eq_append_getElem hx, List.filter_append, kpC, kpN, hp j hx]
    cases hq : pr xs[j] with
    | true => simpa [hq] using ⟨h1, h2⟩
    | false =>
      have h3 := (h.drop (i := j)).take (i := 1)
      rw [List.drop_eq_getElem_cons hx, Nat.one_mul] at h3
      simp only [List.take_succ_cons, List.take_zero] at h3
      simp only [List.filter_cons, List.filter_nil, hq, Bool.not_false, if_true, Bool.false_eq_true, if_false, List.length_append, List.length_singleton]
      exact ⟨h1.app h3, by rw [h2]⟩
theorem flat_cells {S : Nat → Prop} {w : World} {fs : List Fl} {cs : List Value} (h : LCs rdFl S w fs cs) {i : Nat} (hi : i < fs.length) : ∃ ap cp an cn, cs.getD (i * 2) undef = .slice ap fs[i].p.length cp ∧ cs.getD (i * 2 + 1) undef = .slice an fs[i].l.length cn ∧ Pth S w (.slice ap fs[i].p.length cp) fs[i].p := by
  have h3 := h.drop (i := i)
  rw [List.drop_eq_getElem_cons hi] at h3
  obtain ⟨cc, ee, he, ⟨ap, cp, an, cn, rfl, hp, _⟩, _⟩ := h3
  have e0 := congrArg (fun l => l[0]?) he
  have e1 := congrArg (fun l => l[1]?) he
  simp [List.getElem?_drop] at e0 e1
  exact ⟨ap, cp, an, cn, by rw [List.getD_eq_getElem?_getD, e0]; rfl, by rw [List.getD_eq_getElem?_getD, e1]; rfl, hp⟩
def DropR (y : Fo) (q : List Ky) (w : World) (e : Ending) (w' : World) : Prop :=
  ∃ a c, e = .returned (.tuple #[.slice a (dropY y q).len c, .int .i64 (dropE y q)]) ∧ FSl (Rg w.heap.size w'.heap.size) w' (.slice a (dropY y q).len c) (dropY y q) ∧ Below w.heap.size w w'
theorem DropR.bad {y : Fo} {q : List Ky} {w w' : World} {x : Int} (hx : dropE y q = x) (h0 : x ≠ 0) (hb : Below w.heap.size w w') : DropR y q w (.returned (.tuple #[.slice none 0 0, .int .i64 x])) w' := by
  subst hx
  have h1 : dropY y q = .nil := by rw [dropY, if_neg h0]
  unfold DropR
  rw [h1]
  exact ⟨none, 0, rfl, ⟨[], ⟨rfl, _, 0, rfl, Nat.le_refl _, by simp [maxLen], fun _ => rfl, .inl rfl⟩, rfl⟩, hb⟩
theorem Drop_any (y : Fo) (q : List Ky) (ay aq : Option Addr) (cy cq : Nat) (S T : Nat → Prop) (w : World) (hv : FSl S w (.slice ay y.len cy) y) (hS : ∀ b, S b → b < w.heap.size) (hq : Pth T w (.slice aq q.length cq) q) (hT : ∀ b, T b → b < w.heap.size)
    (hlen : y.len ≤ 1000) (hsm : y.Sm) (hcnt : y.cnt ≤ 900) (lq : q.length ≤ 1000) :
    Calls Tryz.prog 48 #[.slice ay y.len cy, .slice aq q.length cq] w (DropR y q w) := by
  have hb0 : Below w.heap.size w (w.alloc (.cells #[.slice aq q.length cq] 65)) := (Below.refl _ _).alloc (Nat.le_refl _) _
  have HB0 := hid hb0
  have HN0 := hid (heap_alloc_new w (.cells #[.slice aq q.length cq] 65))
  have HC := hid (Check_any y ay cy S _ (hv.agree (Agree.of_below hb0 hS)) (fun b hb => by have := hS b hb; simp; omega) hlen hsm hcnt)
  have HV := hid hv
  have HQ := hid hq
  have HS := hid hS
  have HT := hid hT
  have HSM := hid hsm
  clear hb0 hv hq hS hT hsm
  by_cases hc : chkY y = 0
  · have HCK := hid hc
    go_enter Tryz.func48, Tryz.ntmps48
    go_wp2_with fail
    refine HC.out.mono ?_
    rintro e w1 ⟨rfl, hb1⟩
    have hB1 := HB0.out.trans (hb1.mono (by simp))
    have hF1 := hid ((hb1.block w.heap.size (by simp)).trans HN0.out)
    have hz1 := hb1.size
    simp only [World.size_alloc] at hz1
    have HFL := hid (flats_own y ay cy S w1 (HV.out.agree (Agree.of_below hB1 HS.out)) (fun b hb => by have := HS.out b hb; omega) hlen HSM.out hcnt)
    rw [hc]
    have HB1 := hid hB1
    clear hb1 hB1 hc HC
    go_wp2_with fail
    refine HFL.out.mono ?_
    rintro e w2 ⟨af, cf, cs, M, rfl, how, hls, hM, hb2⟩
    have hz2 := hb2.size
    have HB2 := hid (HB1.out.trans (hb2.mono (by omega)))
    have hF2 := hid ((hb2.block w.heap.size (by omega)).trans hF1.out)
    have hlsl : FlSl (Rg w1.heap.size w2.heap.size) w2 (.slice af (flsL [] y).length cf) (flsL [] y) := ⟨cs, SlC.of_owns how, hls.wide fun b hb' => ⟨(hM b hb').1, (hM b hb').2.1⟩⟩
    have okf := fls_ok HCK.out
    have hsmf : SmF (flsL [] y) := fun x hx => ⟨(okf.2.1 x hx).1, (okf.1 x hx).2.1, (okf.1 x hx).2.2⟩
    have hll := okf.2.2
    have HFD := hid (find_any (flsL [] y) q af aq cf cq _ T w2 hlsl (fun b hb => hb.2) (HQ.out.agree (Agree.of_below HB2.out HT.out)) (fun b hb => by have := HT.out b hb; omega) (by omega) hsmf lq)
    have hcF : w2.cell? ⟨w.heap.size, 0, none⟩ = some (.slice aq q.length cq) := cells_get hF2.out (k := 0) rfl
    have HOW := hid how
    have HLS := hid hls
    have HM := hid hM
    have HSMF := hid hsmf
    clear how hls hM hb2 hlsl okf hsmf HFL
    go_wp2_with fail
    refine HFD.out.mono ?_
    rintro e w3 ⟨ap3, cp3, an3, cn3, rfl, _, _, hb3⟩
    have hz3 := hb3.size
    obtain ⟨is, his⟩ : ∃ is, (fnd (flsL [] y) q).isSome = is := ⟨_, rfl⟩
    rw [his]
    obtain ⟨fv, hfv⟩ : ∃ fv, (fnd (flsL [] y) q).getD fl0 = fv := ⟨_, rfl⟩
    rw [hfv]
    have HIS := hid his
    have hb3' : Below w2.heap.size w2 (w3.alloc (.cells #[.slice ap3 fv.p.length cp3, .slice an3 fv.l.length cn3] 171)) := hb3.alloc hz3 _
    have HB3 := hid hb3'
    obtain ⟨wa, hwa⟩ : ∃ wa, w3.alloc (.cells #[.slice ap3 fv.p.length cp3, .slice an3 fv.l.length cn3] 171) = wa := ⟨_, rfl⟩
    have HWA := hid hwa
    have hza : wa.heap.size = w3.heap.size + 1 := by rw [← hwa]; simp
    rw [hwa] at HB3
    clear his hfv hb3 hb3' hwa HFD hcF
    cases is with
    | false =>
      have hE : dropE y q = 1 := by rw [dropE, if_neg (by simp [HCK.out]), HIS.out]; rfl
      have HE := hid hE
      clear hE
      go_wp2_with fail
      rw [HWA.out]
      exact bodyPost_ret (v := .tuple #[.slice none 0 0, .int .i64 1]) (by simp [results, Tryz.results48, go_sem]) rfl (DropR.bad HE.out (by decide) (HB2.out.trans (HB3.out.mono (by omega))))
    | true =>
      have hE : dropE y q = 0 := by rw [dropE, if_neg (by simp [HCK.out]), HIS.out]; rfl
      have hY : dropY y q = (treF 0 ((flsL [] y).filter fun x => !blP q x.p)).1 := by rw [dropY, if_pos hE]; rfl
      have HE := hid hE
      have HY := hid hY
      have hne : 0 < (flsL [] y).length := by
        rcases Nat.eq_zero_or_pos (flsL [] y).length with h | h
        · have := HIS.out
          rw [List.eq_nil_of_length_eq_zero h] at this
          cases this
        · exact h
      obtain ⟨_, ⟨_, h00⟩ | ⟨gg, cap, cur, he, hbg, hg, hnc, hcap, _, _⟩⟩ := id HOW.out
      · omega
      cases he
      have hggl : gg < w2.heap.size := (Array.getElem?_eq_some_iff.1 hg).1
      have hag : ∀ b, b < w2.heap.size → wa.heap[b]? = w2.heap[b]? := fun b hb => HB3.out.block b hb
      have hgF : w.heap.size ≠ gg := by omega
      have how2 : wa.ownsRow w1.heap.size 171 2 (.slice (some ⟨gg, 0, none⟩) (flsL [] y).length cf) (flsL [] y).length cs := owns_agree HOW.out fun g hg => hag g (HOW.out.lt g hg).2
      have hls2 : LCs rdFl M wa (flsL [] y) cs := HLS.out.agree fun b hb => hag b (HM.out b hb).2.1
      have DEL := hid (del_flat 131 enters131 (fun i => blP q ((flsL [] y).getD i fl0).p) [.pointer (some ⟨w.heap.size, 0, none⟩)] (flsL [] y).length w1.heap.size gg cf cs wa how2 (fun j hj => by
        obtain ⟨ap, cp, an, cn, e1, e2, _⟩ := flat_cells hls2 hj
        exact ⟨ap, _, cp, an, _, cn, e1, e2⟩) (by omega) (fun i hi W hW => by
        obtain ⟨ap, cp, an, cn, e1, e2, hp⟩ := flat_cells hls2 hi
        have hgd : (flsL [] y).getD i fl0 = (flsL [] y)[i] := by simp [List.getD_eq_getElem?_getD, hi]
        have hel : elemV 2 cs i = .agg #[.slice ap (flsL [] y)[i].p.length cp, .slice an (flsL [] y)[i].l.length cn] := by simp [elemV, List.range_succ, e1, e2, -List.getD_eq_getElem?_getD]
        rw [hel, hgd]
        have hzW := hW.size
        have hpM : Pth M W (.slice ap (flsL [] y)[i].p.length cp) (flsL [] y)[i].p := hp.agree fun b hb => hW.block b (by have := (HM.out b hb).2.1; omega) (fun e => (HM.out b hb).2.2 (by rw [e]; rfl))
        have hqT : Pth T W (.slice aq q.length cq) q := HQ.out.agree fun b hb => (hW.block b (by have := HT.out b hb; have := HB2.out.size; omega) (fun e => by
          have := HT.out b hb
          have : gg = b := by simpa using e.symm
          omega)).trans ((hag b (by have := HT.out b hb; have := HB2.out.size; omega)).trans (HB2.out.block b (HT.out b hb)))
        refine drop1_any (flsL [] y)[i] q ap an aq cp cn cq w.heap.size (fun b => M b ∨ T b) W (hpM.wide fun b hb => .inl hb) (hqT.wide fun b hb => .inr hb) (fun b hb => ?_) (HSMF.out _ (List.getElem_mem hi)).1 lq (by omega) ?_
        · rcases hb with hb | hb
          · have := (HM.out b hb).2.1; omega
          · have := HT.out b hb; omega
        · rw [World.cell?_of_block (a := ⟨w.heap.size, 0, none⟩) ((hW.block w.heap.size (by omega) (fun e => hgF (Option.some.inj e))).trans (hag _ (by omega)))]
          exact cells_get hF2.out (k := 0) rfl))
      clear how2 hls2 hE hY hg HOW
      have HAG := hid hag
      clear hag
      go_wp2_with fail
      rw [HWA.out]
      go_wp2_with fail
      refine DEL.out.mono ?_
      rintro e w4 ⟨rfl, hown4, hgr4⟩
      obtain ⟨k1, k2⟩ := kp_lcs (HLS.out.agree fun b hb => HAG.out b (HM.out b hb).2.1) (p := fun i => blP q ((flsL [] y).getD i fl0).p) (pr := fun x => blP q x.p) (fun i hi => by simp [List.getD_eq_getElem?_getD, hi]) (flsL [] y).length (Nat.le_refl _)
      rw [List.take_length] at k1 k2
      rw [k2] at hown4 ⊢
      have hz4 := hgr4.size
      obtain ⟨l2, hl2⟩ : ∃ l2, (flsL [] y).filter (fun x => !blP q x.p) = l2 := ⟨_, rfl⟩
      rw [hl2] at hown4 k1 ⊢
      have HY2 := HY.out
      rw [hl2] at HY2
      have hlsl : FlSl (fun b => b < w4.heap.size) w4 (.slice (some ⟨gg, 0, none⟩) l2.length cf) l2 := ⟨_, (SlC.of_owns hown4).wide fun b hb => hb.2, (k1.agree (w' := w4) fun b hb => hgr4.block b (by have := (HM.out b hb).2.1; omega) (fun e => (HM.out b hb).2.2 (by rw [e]; rfl))).wide fun b hb => by have := (HM.out b hb).2.1; omega⟩
      have hll2 : l2.length ≤ 1000 := by rw [← hl2]; exact Nat.le_trans (List.length_filter_le _ _) (by omega)
      have hsm2 : SmF l2 := fun x hx => HSMF.out x (by rw [← hl2] at hx; exact (List.mem_filter.1 hx).1)
      have TR := hid (tree_any l2 (some ⟨gg, 0, none⟩) cf _ w4 hlsl (fun b hb => hb) hll2 hsm2)
      have hB4 : Below w.heap.size w w4 := by
        have hB3 := HB2.out.trans (HB3.out.mono (by omega))
        exact hB3.grown hgr4 (by omega) (fun b hb => by cases hb; omega)
      have HB4 := hid hB4
      have HY2 := hid HY2
      clear hB4 hlsl hown4 hgr4 k1 k2 hl2 hll2 hsm2 DEL
      go_wp2_with fail
      refine TR.out.mono ?_
      rintro e w5 ⟨a5, c5, rfl, hF5, hb5⟩
      have hz5 := hb5.size
      have hB5 := HB4.out.trans (hb5.mono HB4.out.size)
      have hzz := HB4.out.size
      clear hb5
      go_wp2_with fail
      refine bodyPost_ret (v := .tuple #[.slice a5 (treF 0 l2).1.len c5, .int .i64 0]) (by simp [results, Tryz.results48, go_sem]) rfl ?_
      unfold DropR
      rw [HE.out, HY2.out]
      exact ⟨a5, c5, rfl, hF5.wide fun b hb => ⟨by have := hb.1; omega, hb.2⟩, hB5⟩
  · have hE : dropE y q = chkY y := by rw [dropE, if_pos hc]
    obtain ⟨x, hx⟩ : ∃ x, chkY y = x := ⟨_, rfl⟩
    rw [hx] at hE hc HC
    have hc' : ¬ x = 0 := hc
    have HE := hid hE
    clear hE hx hc
    go_enter Tryz.func48, Tryz.ntmps48
    go_wp2_with fail
    refine HC.out.mono ?_
    rintro e w1 ⟨rfl, hb1⟩
    have hB1 := HB0.out.trans (hb1.mono (by simp))
    clear hb1
    go_wp2_with fail
    exact bodyPost_ret (v := .tuple #[.slice none 0 0, .int .i64 x]) (by simp [results, Tryz.results48, go_sem]) rfl (DropR.bad HE.out hc' hB1)
end Go.Proofs.LF
namespace Go.Proofs.LF
open Go.RowKit Go.Sort
theorem paths_c (y : Fo) (a : Option Addr) (c : Nat) (W : World) (hy : In W (.slice a y.len c) y) (hb : Bd y) :
    Calls Tryz.prog 43 #[.slice a y.len c, .slice none 0 0] W fun e w' => ∃ a1 c1 a2 c2, e = .returned (.tuple #[.slice a1 y.cnt c1, .slice a2 y.cnt c2]) ∧ PaIn w' (.slice a1 y.cnt c1) (evP [] y) ∧ Below W.heap.size W w' :=
  (all_c y a c W hy hb).mono fun e w' ⟨a1, c1, a2, c2, cs, he, ⟨h0, h1, T, h2, h3⟩, hB⟩ => ⟨a1, c1, a2, c2, he, ⟨cs, by rw [← h0]; exact (SlC.of_owns h1).wide fun b hb => hb.2, h2.wide fun b hb => (h3 b hb).2.1⟩, hB⟩
theorem drop_c (y : Fo) (q : List Ky) (ay aq : Option Addr) (cy cq : Nat) (W : World) (hy : In W (.slice ay y.len cy) y) (hq : PtIn W (.slice aq q.length cq) q) (hb : Bd y) (lq : q.length ≤ 1000) {E : Int} {Z : Fo} (h : dropE y q = E ∧ dropY y q = Z) :
    Calls Tryz.prog 48 #[.slice ay y.len cy, .slice aq q.length cq] W fun e w' => ∃ a c, e = .returned (.tuple #[.slice a Z.len c, .int .i64 E]) ∧ In w' (.slice a Z.len c) Z ∧ Below W.heap.size W w' := by
  obtain ⟨rfl, rfl⟩ := h
  exact (Drop_any y q ay aq cy cq _ _ W hy (fun _ h => h) hq (fun _ h => h) hb.1 hb.2.1 hb.2.2 lq).mono fun e w' ⟨a, c, he, hF, hB⟩ => ⟨a, c, he, hF.wide fun b hb => hb.2, hB⟩
theorem put_c (y : Fo) (p : List Ky) (n : List UInt8) (l : List Int) (s : Fo) (ay ap an ab : Option Addr) (cy cp cn cb : Nat) (W : World) (hy : In W (.slice ay y.len cy) y) (hp : PtIn W (.slice ap p.length cp) p) (hI : IsIn W (.slice an l.length cn) l) (hF : In W (.slice ab s.len cb) s)
    (hb : Bd y) (lp : p.length ≤ 1000) (s1 : n.length ≤ 1000) (s2 : l.length ≤ 1000) (s3 : s.len ≤ 1000) (s4 : s.Sm) (s5 : s.cnt ≤ 800) {E : Int} {Z : Fo} (h : putE y p n l s = E ∧ putY y p n l s = Z) :
    Calls Tryz.prog 49 #[.slice ay y.len cy, .slice ap p.length cp, .agg #[.string (bs n), .slice an l.length cn, .slice ab s.len cb]] W fun e w' => ∃ a c, e = .returned (.tuple #[.slice a Z.len c, .int .i64 E]) ∧ In w' (.slice a Z.len c) Z ∧ Below W.heap.size W w' := by
  obtain ⟨rfl, rfl⟩ := h
  exact (Put_any y p n l s ay ap an ab cy cp cn cb _ _ _ W hy (fun _ h => h) hp (fun _ h => h) hI hF (fun _ h => h) hb.1 hb.2.1 hb.2.2 lp s1 s2 s3 s4 s5).mono fun e w' ⟨a, c, he, hF, hB⟩ => ⟨a, c, he, hF.fsl.wide fun b hb => hb.2, hB⟩
theorem equalP_c (y z : List (List Ky)) (ay az : Option Addr) (cy cz : Nat) (W : World) (hy : PaIn W (.slice ay y.length cy) y) (hz : PaIn W (.slice az z.length cz) z) (ly : y.length ≤ 1000) (lz : z.length ≤ 1000) (sy : ∀ p ∈ y, p.length ≤ 1000) (sz : ∀ p ∈ z, p.length ≤ 1000) {b : Bool} (h : decide (y = z) = b) :
    Calls Tryz.prog 52 #[.slice ay y.length cy, .slice az z.length cz] W fun e w' => e = .returned (.bool b) ∧ Below W.heap.size W w' := by
  subst h
  exact equalPaths_any y z ay az cy cz _ W hy hz (fun _ h => h) ly lz sy sz
theorem In.nil (W : World) (v : Value) (h : v = .slice none 0 0) : In W v .nil := by subst h; exact ⟨[], ⟨rfl, none, 0, rfl, Nat.le_refl _, by simp [maxLen], fun _ => rfl, .inl rfl⟩, rfl⟩
theorem IsIn.one {W : World} {b : Nat} {x : Int} {t : TypeId} (h : W.heap[b]? = some (.cells #[.int .i64 x] t (0, 0))) : IsIn W (.slice (some ⟨b, 0, none⟩) 1 1) [x] := by
  refine ⟨rfl, some ⟨b, 0, none⟩, 1, rfl, Nat.le_refl _, by simp [maxLen], (fun h => by cases h), .inr ⟨b, 0, rfl, (Array.getElem?_eq_some_iff.1 h).1, fun j u hj => ?_⟩⟩
  match j, hj with
  | 0, hj =>
    simp only [List.map_cons, List.map_nil, List.getElem?_cons_zero, Option.some.injEq] at hj
    subst hj
    exact cells_get h (k := 0) rfl
theorem PaIn.one {W : World} {b : Nat} {p : List Ky} {a : Option Addr} {c : Nat} {t : TypeId} (h : W.heap[b]? = some (.cells #[.slice a p.length c] t (0, 0))) (hp : PtIn W (.slice a p.length c) p) : PaIn W (.slice (some ⟨b, 0, none⟩) 1 1) [p] := by
  refine ⟨[.slice a p.length c], ⟨rfl, some ⟨b, 0, none⟩, 1, rfl, Nat.le_refl _, by simp [maxLen], (fun h => by cases h), .inr ⟨b, 0, rfl, (Array.getElem?_eq_some_iff.1 h).1, fun j u hj => ?_⟩⟩, LCs.single ⟨a, c, rfl, hp⟩⟩
  match j, hj with
  | 0, hj =>
    simp only [List.map_cons, List.map_nil, List.getElem?_cons_zero, Option.some.injEq] at hj
    subst hj
    exact cells_get h (k := 0) rfl
theorem PaIn.get {W : World} {v : Value} {ps : List (List Ky)} (h : PaIn W v ps) {k : Nat} (hk : k < ps.length) : ∃ g o c ap cp, v = .slice (some ⟨g, o, none⟩) ps.length c ∧ g < W.heap.size ∧ W.cell? ⟨g, o + k, none⟩ = some (.slice ap ps[k].length cp) ∧ PtIn W (.slice ap ps[k].length cp) ps[k] := by
  obtain ⟨a, c, rfl, _, _, hat⟩ := LSl.at h
  obtain ⟨g, o, cs, rfl, hg, ⟨ap, cp, rfl, hp⟩, hc⟩ := hat k hk
  have := hc 0 _ rfl
  rw [Nat.mul_one, Nat.add_zero] at this
  exact ⟨g, o, c, ap, cp, rfl, hg, this, hp⟩
theorem okG_sm : ∀ {y : Fo} {d : Nat}, OkG d y → y.cnt ≤ 1000 → y.Sm
  | .nil, _, _, _ => trivial
  | .cons n l s r, d, ⟨⟨_, h2, h3, _⟩, h5, _, h7⟩, hc => by
    simp only [Fo.cnt] at hc
    have := len_cnt s
    have hn : n.length ≤ 8 := by
      simp only [badNm, Bool.or_eq_false_iff, decide_eq_false_iff_not] at h2
      omega
    exact ⟨by omega, by omega, by omega, okG_sm h5 (by omega), okG_sm h7 (by omega)⟩
def nwN : List UInt8 := [110, 101, 119]
theorem blP_iff {q p : List Ky} : q <+: p ↔ q.length ≤ p.length ∧ p.take q.length = q :=
  ⟨fun h => ⟨h.length_le, (List.prefix_iff_eq_take.1 h).symm⟩, fun h => List.prefix_iff_eq_take.2 h.2.symm⟩
theorem PtIn.snoc {W : World} {B c : Nat} {a : Option Addr} {p : List Ky} {k : Ky} (h : W.ownsRow B 71 3 (.slice a (p.length + 1) c) (p.length + 1) (p.flatMap Ky.cells ++ [.string (bs k.n), .bool k.h, .int .i64 k.x])) : PtIn W (.slice a (p ++ [k]).length c) (p ++ [k]) := by
  have h1 := SlC.of_owns h
  unfold PtIn Pth
  rw [List.length_append, List.flatMap_append]
  exact h1.wide fun b hb => hb.2
end Go.Proofs.LF
namespace Go.Proofs.LF
open Go.RowKit Go.Sort
set_option maxHeartbeats 4000000
set_option maxRecDepth 100000
attribute [local go_sem] bs_toList bs_size bs_get
theorem IsIn.two {W : World} {b : Nat} {x y : Int} {t : TypeId} (h : W.heap[b]? = some (.cells #[.int .i64 x, .int .i64 y] t (0, 0))) : IsIn W (.slice (some ⟨b, 0, none⟩) 2 2) [x, y] := by
  refine ⟨rfl, some ⟨b, 0, none⟩, 2, rfl, Nat.le_refl _, by simp [maxLen], (fun h => by cases h), .inr ⟨b, 0, rfl, (Array.getElem?_eq_some_iff.1 h).1, fun j u hj => ?_⟩⟩
  match j, hj with
  | 0, hj =>
    simp only [List.map_cons, List.map_nil, List.getElem?_cons_zero, Option.some.injEq] at hj
    subst hj
    exact cells_get h (k := 0) rfl
  | 1, hj =>
    simp only [List.map_cons, List.map_nil, List.getElem?_cons_succ, List.getElem?_cons_zero, Option.some.injEq] at hj
    subst hj
    exact cells_get h (k := 1) rfl
theorem In.one {W : World} {b : Nat} {n : List UInt8} {l : List Int} {s : Fo} {vn vs : Value} {t : TypeId} (hb : W.heap[b]? = some (.cells #[.string (bs n), vn, vs] t (0, 0))) (h1 : IsIn W vn l) (h2 : In W vs s) : In W (.slice (some ⟨b, 0, none⟩) 1 1) (.cons n l s .nil) :=
  FSl.wide (one_node hb h1 h2) fun q hq => hq.elim id (fun h => by rw [h]; exact (Array.getElem?_eq_some_iff.1 hb).1)
theorem get_c (y : Fo) (q : List Ky) (n : List UInt8) (l : List Int) (s : Fo) (ay aq : Option Addr) (cy cq : Nat) (W : World) (hy : In W (.slice ay y.len cy) y) (hq : PtIn W (.slice aq q.length cq) q) (hb : Bd y) (lq : q.length ≤ 1000) (h : getE y q = 0 ∧ getN y q = (n, l, s)) :
    Calls Tryz.prog 56 #[.slice ay y.len cy, .slice aq q.length cq] W fun e w' => ∃ an cn ab cb, e = .returned (.tuple #[.agg #[.string (bs n), .slice an l.length cn, .slice ab s.len cb], .int .i64 0]) ∧ IsIn w' (.slice an l.length cn) l ∧ In w' (.slice ab s.len cb) s ∧ Below W.heap.size W w' := by
  refine (Get_any y q ay aq cy cq _ _ W hy (fun _ h => h) hq (fun _ h => h) hb.1 hb.2.1 hb.2.2 lq).mono ?_
  rintro e w' ⟨n', l', s', an, cn, ab, cb, h1, he, h2, h3, h4⟩
  rw [h.2] at h1
  cases h1
  rw [h.1] at he
  exact ⟨an, cn, ab, cb, he, h2.wide fun b hb => hb.2, h3.wide fun b hb => hb.2, h4⟩
theorem find_c (y : Fo) (nm : List UInt8) (ay : Option Addr) (cy : Nat) (W : World) (hy : In W (.slice ay y.len cy) y) (hb : Bd y) (h : chkY y = 0) {ps : List (List Ky)} (hp : nmF nm (evP [] y) = ps) :
    Calls Tryz.prog 60 #[.slice ay y.len cy, .string (bs nm)] W fun e w' => ∃ a c, e = .returned (.tuple #[.slice a ps.length c, .int .i64 0]) ∧ PaIn w' (.slice a ps.length c) ps ∧ Below W.heap.size W w' := by
  subst hp
  have hl : findL y nm = nmF nm (evP [] y) := by rw [findL, if_pos h]; rfl
  refine (Find_any y nm ay cy _ W hy (fun _ h => h) hb.1 hb.2.1 hb.2.2).mono ?_
  rintro e w' ⟨a, c, he, h1, h2⟩
  rw [hl, findE, h] at he
  rw [hl] at h1
  exact ⟨a, c, he, h1.wide fun b hb => hb.2, h2⟩
theorem enters62 : Enters 62 := by intro args W; simp [go_sem]
theorem eq62 : EqK 62 := by
  intro p q ap aq cp cq F S w hp hq lp lq hc
  have H := hid (eqKeys_any p q ap aq cp cq S w hp hq (by omega) (by omega))
  clear hp hq
  go_enter Tryz.func62, Tryz.ntmps62
  go_wp2_with fail
  refine H.out.mono ?_
  rintro e w1 ⟨rfl, hb1⟩
  go_wp2_with fail
  go_ret
  exact ⟨rfl, hb1⟩
theorem contK62_c (ps : List (List Ky)) (q : List Ky) (al aq : Option Addr) (cl cq F : Nat) (w : World) (hv : PaIn w (.slice al ps.length cl) ps) (hq : PtIn w (.slice aq q.length cq) q) (hF : w.heap[F]? = some (.cells #[.slice aq q.length cq] 65 (0, 0))) (hl : ps.length ≤ 1000) (hps : ∀ p ∈ ps, p.length ≤ 1000) (lq : q.length ≤ 1000) (hm : q ∈ ps) :
    Calls Tryz.prog 45 #[.slice al ps.length cl, .func (.func 62) #[] #[.pointer (some ⟨F, 0, none⟩)]] w fun e w' => e = .returned (.bool true) ∧ Below w.heap.size w w' := by
  obtain ⟨ds, h1, h2⟩ := hv
  have key := cont_path 62 enters62 (fun i => decide (ps.getD i [] = q)) [.pointer (some ⟨F, 0, none⟩)] ps.length al cl ds _ w h1 (fun _ h => h) (by omega) (fun i hi => predK eq62 ps q al aq cl cq F _ _ w ds h2 (fun _ h => h) hq (fun _ h => h) (Array.getElem?_eq_some_iff.1 hF).1 (cells_get hF (k := 0) rfl) hps lq i hi)
  rw [anyN_list (fun p => decide (p = q)) _ ps (fun i hi => by simp [List.getD_eq_getElem?_getD, hi])] at key
  rw [show (ps.any fun p => decide (p = q)) = true from by
    rw [List.any_eq_true]; exact ⟨q, hm, by simp⟩] at key
  exact key
theorem nmF_bd {y : Fo} (h : chkY y = 0) (nm : List UInt8) : (nmF nm (evP [] y)).length ≤ 1000 ∧ ∀ p ∈ nmF nm (evP [] y), p.length ≤ 1000 := by
  have hc := chk_cnt h
  refine ⟨Nat.le_trans (List.length_filter_le _ _) (by rw [evP_length]; omega), fun p hp => ?_⟩
  have := path_length_le (List.mem_filter.1 hp).1
  simp at this
  omega
end Go.Proofs.LF
