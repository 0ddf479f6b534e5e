/- Parts of the proof of a law of layer 11 (file): LfW78. The conditions stand in each theorem. -/
import Derived.Test.YtadkpjgpefcphaaGreatDoorProg
import Derived.Test.YtadkpjgpefcphaaGreatDoorToaf
import Derived.Test.YtadkpjgpefcphaaGreatDoorTobp
import Derived.Test.YtadkpjgpefcphaaGreatDoorTobq
import Derived.Test.YtadkpjgpefcphaaGreatDoorTobw
set_option linter.all false
set_option linter.unusedVariables false
set_option linter.unusedSimpArgs false
namespace Go.Proofs.LF
open Go.RowKit Go.Sort
def Bd (y : Fo) : Prop := y.len ≤ 1000 ∧ y.Sm ∧ y.cnt ≤ 900
def In (W : World) (v : Value) (y : Fo) : Prop := FSl (fun q => q < W.heap.size) W v y
theorem In.on {W W' : World} {v : Value} {y : Fo} (h : In W v y) (hb : Below W.heap.size W W') : In W' v y := FSl.on h hb
def PaIn (W : World) (v : Value) (ps : List (List Ky)) : Prop := PaSl (fun q => q < W.heap.size) W v ps
theorem PaIn.on {W W' : World} {v : Value} {ps : List (List Ky)} (h : PaIn W v ps) (hb : Below W.heap.size W W') : PaIn W' v ps := LSl.on h hb
def IsIn (W : World) (v : Value) (l : List Int) : Prop := Ints (fun q => q < W.heap.size) W v l
theorem IsIn.on {w w' : World} {v : Value} {l : List Int} (h : IsIn w v l) (hb : Below w.heap.size w w') : IsIn w' v l :=
  (Ints.agree h (Agree.of_below hb fun _ h => h)).wide fun b hq => by have := hb.size; omega
def PtIn (W : World) (v : Value) (l : List Ky) : Prop := Pth (fun q => q < W.heap.size) W v l
theorem PtIn.on {w w' : World} {v : Value} {l : List Ky} (h : PtIn w v l) (hb : Below w.heap.size w w') : PtIn w' v l :=
  (Pth.agree h (Agree.of_below hb fun _ h => h)).wide fun b hq => by have := hb.size; omega
def ChIn (W : World) (v : Value) (l : List Ch) : Prop := ChSl (fun q => q < W.heap.size) W v l
theorem ChIn.on {W W' : World} {v : Value} {ps : List Ch} (h : ChIn W v ps) (hb : Below W.heap.size W W') : ChIn W' v ps := LSl.on h hb
theorem join_c (y a b : Fo) (ay aa ab : Option Addr) (cy ca cb : Nat) (W : World) (hy : In W (.slice ay y.len cy) y) (ha : In W (.slice aa a.len ca) a) (hb : In W (.slice ab b.len cb) b) (by_ : Bd y) (ba : Bd a) (bb : Bd b) (ht : Pow W)
    {E : Int} {Y : Fo} {P : List (List Ky)} (h : joE y a b = E ∧ joY y a b = Y ∧ joP y a b = P) :
    Calls Tryz.prog 33 #[.slice ay y.len cy, .slice aa a.len ca, .slice ab b.len cb] W fun e w' => ∃ aj cj ap cp, e = .returned (.tuple #[.slice aj Y.len cj, .slice ap P.length cp, .int .i64 E]) ∧ In w' (.slice aj Y.len cj) Y ∧ PaIn w' (.slice ap P.length cp) P ∧ Below W.heap.size W w' := by
  obtain ⟨rfl, rfl, rfl⟩ := h
  exact (Join_any y a b ay aa ab cy ca cb _ W hy ha hb (fun _ h => h) by_ ba bb ht).mono fun e w' ⟨a1, c1, a2, c2, he, h1, h2, h3⟩ => ⟨a1, c1, a2, c2, he, h1.wide fun b hb => hb.2, h2.wide fun b hb => hb.2, h3⟩
theorem diff_c (y a : Fo) (ay aa : Option Addr) (cy ca : Nat) (W : World) (hy : In W (.slice ay y.len cy) y) (ha : In W (.slice aa a.len ca) a) (by_ : Bd y) (ba : Bd a) (ht : Pow W) {D : List Ch} {E : Int} (h : difE y a = E ∧ difL y a = D) :
    Calls Tryz.prog 41 #[.slice ay y.len cy, .slice aa a.len ca] W fun e w' => ∃ ap cp, e = .returned (.tuple #[.slice ap D.length cp, .int .i64 E]) ∧ ChIn w' (.slice ap D.length cp) D ∧ Below W.heap.size W w' := by
  obtain ⟨rfl, rfl⟩ := h
  exact (Diff_any y a ay aa cy ca _ W hy ha (fun _ h => h) by_.1 ba.1 by_.2.1 ba.2.1 by_.2.2 ba.2.2 ht).mono fun e w' ⟨a1, c1, he, h1, h3⟩ => ⟨a1, c1, he, h1.wide fun b hb => hb.2, h3⟩
theorem same_c (y a : Fo) (ay aa : Option Addr) (cy ca : Nat) (W : World) (hy : In W (.slice ay y.len cy) y) (ha : In W (.slice aa a.len ca) a) (by_ : Bd y) (ba : Bd a) :
    Calls Tryz.prog 25 #[.slice ay y.len cy, .slice aa a.len ca] W fun e w' => e = .returned (.bool (decide (y = a))) ∧ Below W.heap.size W w' :=
  (alike_any (y.cnt + 1)).2 y a ay cy aa ca _ W (Nat.lt_succ_self _) hy ha (fun _ h => h) by_.1 ba.1 by_.2.1 ba.2.1
theorem check_c (y : Fo) (a : Option Addr) (c : Nat) (W : World) (hy : In W (.slice a y.len c) y) (hb : Bd y) : Calls Tryz.prog 23 #[.slice a y.len c] W fun e w' => e = .returned (.int .i64 (chkY y)) ∧ Below W.heap.size W w' :=
  Check_any y a c _ W hy (fun _ h => h) hb.1 hb.2.1 hb.2.2
def AllP (W w' : World) (v : Value) (ps : List (List Ky)) (n : Nat) (cs : List Value) : Prop := n = ps.length ∧ w'.ownsRow W.heap.size 65 1 v n cs ∧ ∃ T : Nat → Prop, LCs rdPa T w' ps cs ∧ ∀ b, T b → W.heap.size ≤ b ∧ b < w'.heap.size ∧ v.ownBlock ≠ some b
theorem all_c (y : Fo) (a : Option Addr) (c : Nat) (W : World) (hy : In W (.slice a y.len c) y) (hb : Bd y) :
    Calls Tryz.prog 43 #[.slice a y.len c, .slice none 0 0] W fun e w' => ∃ a1 c1 a2 c2 cs, e = .returned (.tuple #[.slice a1 y.cnt c1, .slice a2 y.cnt c2]) ∧ AllP W w' (.slice a1 y.cnt c1) (evP [] y) y.cnt cs ∧ Below W.heap.size W w' := by
  have hnil : Pth (fun _ => False) W (.slice none ([] : List Ky).length 0) [] := ⟨rfl, none, 0, rfl, Nat.le_refl _, by simp [maxLen], fun _ => rfl, .inl rfl⟩
  refine (all_all (y.cnt + 1) y [] a c none 0 _ (fun _ => False) W (Nat.lt_succ_self _) hy hnil (fun _ h => h) (fun _ h => h.elim) hb.1 hb.2.1 (by simpa using hb.2.2)).mono ?_
  rintro e w' ⟨a1, c1, a2, c2, he, ⟨T, cs, es, h1, h2, h3, h4, h5, h6⟩, hB⟩
  rw [evP_length] at h1
  exact ⟨a1, c1, a2, c2, cs, he, ⟨(evP_length [] y).symm, h1, T, h2, fun b hb => ⟨(h5 b hb).1, (h5 b hb).2.1, (h5 b hb).2.2.1⟩⟩, hB⟩
theorem AllP.news {W w' : World} {a : Option Addr} {n c : Nat} {ps : List (List Ky)} {cs : List Value} (h : AllP W w' (.slice a n c) ps n cs) : cs.length = n * 1 ∧ (a = none → n = 0 ∧ c = 0) ∧ (∀ ad, a = some ad → ∀ (j : Nat) (u : Value), cs[j]? = some u → w'.cell? (ad.add j) = some u) ∧ (∀ u ∈ cs, u.oneCell' = true) := by
  obtain ⟨_, h1, T, h2, h3⟩ := h
  have s1 := SlC.of_owns h1
  exact ⟨h1.1, fun h => (SlC.caps s1).2.2 h, SlC.news s1 Agree.refl, LCs.one h2⟩
theorem all_app {W0 w1 w2 w3 : World} {v1 v2 v3 : Value} {p1 p2 : List (List Ky)} {n1 n2 : Nat} {cs1 cs2 : List Value} (h1 : AllP W0 w1 v1 p1 n1 cs1) (b1 : Below W0.heap.size W0 w1) (h2 : AllP w1 w2 v2 p2 n2 cs2) (b2 : Below w1.heap.size w1 w2)
    (hown : w3.ownsRow W0.heap.size 65 1 v3 (n1 + n2) (cs1 ++ cs2)) (hg : w2.grownBy w3 v1.ownBlock) : PaIn w3 v3 (p1 ++ p2) ∧ Below W0.heap.size W0 w3 := by
  obtain ⟨e1, o1, T1, l1, t1⟩ := h1
  obtain ⟨e2, o2, T2, l2, t2⟩ := h2
  have z1 := b1.size
  have z2 := b2.size
  have z3 := hg.size
  have k1 : LCs rdPa T1 w3 p1 cs1 := (l1.agree (Agree.of_below b2 fun b hb => (t1 b hb).2.1)).agree (Agree.grown hg fun b hb => ⟨by have := (t1 b hb).2.1; omega, fun e => (t1 b hb).2.2 e⟩)
  have k2 : LCs rdPa T2 w3 p2 cs2 := l2.agree (Agree.grown hg fun b hb => ⟨by have := (t2 b hb).2.1; omega, fun e => by have := (o1.lt b e).2; have := (t2 b hb).1; omega⟩)
  have hs := SlC.of_owns hown
  have hn : n1 + n2 = (p1 ++ p2).length := by rw [List.length_append, e1, e2]
  rw [hn] at hs
  refine ⟨⟨cs1 ++ cs2, hs.wide fun b hb => hb.2, (k1.wide fun b hb => by have := (t1 b hb).2.1; omega).app (k2.wide fun b hb => by have := (t2 b hb).2.1; omega)⟩, ?_⟩
  exact (b1.trans (b2.mono z1)).grown hg (by omega) (fun b hb => (o1.lt b hb).1)
theorem at_c (y : Fo) (q : List Ky) (a aq : Option Addr) (c cq : Nat) (W : World) (hy : In W (.slice a y.len c) y) (hq : PtIn W (.slice aq q.length cq) q) (hb : Bd y) (lq : q.length ≤ 1000) {n : List Int} {i : Bool} (h : nsAt y q = n ∧ isAt y q = i) :
    Calls Tryz.prog 44 #[.slice a y.len c, .slice aq q.length cq] W fun e w' => ∃ a1 c1, e = .returned (.tuple #[.slice a1 n.length c1, .bool i]) ∧ IsIn w' (.slice a1 n.length c1) n ∧ Below W.heap.size W w' := by
  obtain ⟨rfl, rfl⟩ := h
  refine (atY_any y q a aq c cq _ _ W hy hq (fun _ h => h) (fun _ h => h) hb.1 hb.2.1 hb.2.2 lq).mono ?_
  rintro e w' ⟨a1, c1, he, h1, hB⟩
  exact ⟨a1, c1, he, h1.wide fun b hb => by have := hB.size; omega, hB⟩
theorem nsAt_len {y : Fo} (hb : Bd y) (q : List Ky) : (nsAt y q).length ≤ 1000 := by
  have key : ∀ (y : Fo) (u : List Ky), y.Sm → ∀ x ∈ flsL u y, x.l.length ≤ 1000 := by
    intro y
    induction y with
    | nil => intro u _ x hx; cases hx
    | cons n l s r ihs ihr =>
      intro u hs x hx
      obtain ⟨h1, h2, h3, h4, h5⟩ := hs
      rw [flsL_cons, List.mem_cons, List.mem_append] at hx
      rcases hx with rfl | hx | hx
      · exact h2
      · exact ihs _ h4 x hx
      · exact ihr _ h5 x hx
  unfold nsAt
  cases h : rfd (flsL [] y) q with
  | none => simp
  | some x => exact key y [] hb.2.1 x (rfd_some h).1
theorem eqN_c (l m : List Int) (al am : Option Addr) (cl cm : Nat) (W : World) (hl : IsIn W (.slice al l.length cl) l) (hm : IsIn W (.slice am m.length cm) m) (h1 : l.length ≤ 1000) (h2 : m.length ≤ 1000) {b : Bool} (h : decide (l = m) = b) :
    Calls Tryz.prog 47 #[.slice al l.length cl, .slice am m.length cm] W fun e w' => e = .returned (.bool b) ∧ Below W.heap.size W w' := by
  subst h
  exact eqInts_any l m al am cl cm _ W hl hm (by omega) (by omega)
theorem okF_bd {y : Fo} (h : OkF 0 y) (hc : y.cnt ≤ 900) : Bd y := ⟨by have := len_cnt y; omega, okF_sm y 0 h (by omega), hc⟩
def PAt (W w' : World) : Prop := Hp W.heap.size (fun q => q < W.heap.size) w' ∧ w'.heap.size = W.heap.size + 1 ∧ Below W.heap.size W w'
def ByIn (W : World) (v : Value) (l : List Int) : Prop := Byt (fun q => q < W.heap.size) W v l
theorem ByIn.on {W W' : World} {v : Value} {l : List Int} (h : ByIn W v l) (hb : Below W.heap.size W W') : ByIn W' v l :=
  (SlC.agree h (Agree.of_below hb fun _ h => h)).wide fun b hq => by have := hb.size; omega
theorem pile_c (l : List Int) (a : Option Addr) (c : Nat) (W : World) (h : ByIn W (.slice a l.length c) l) :
    Calls Tryz.prog 38 #[.slice a l.length c] W fun e w' => e = .returned (.pointer (some ⟨W.heap.size, 0, none⟩)) ∧ PAt W w' :=
  (Pile_any a l c _ W h (fun _ h => h)).mono fun e w' ⟨he, h1, h2, h3⟩ => ⟨he, h1, h2, h3⟩
theorem made1_c (W w1 : World) (h : PAt W w1) : Calls Tryz.prog 37 #[.pointer (some ⟨W.heap.size, 0, none⟩), .int .i64 3] w1 fun e w' => ∃ y a c, e = .returned (.slice a y.len c) ∧ In w' (.slice a y.len c) y ∧ (OkF 1 y ∧ y.cnt ≤ 78) ∧ Below W.heap.size W w' := by
  obtain ⟨h1, h2, h3⟩ := h
  refine (Made_any 3 W.heap.size _ w1 (by omega) (by omega) h1 (by omega) (fun q hq => by omega)).mono ?_
  rintro e w' ⟨y, a, c, he, hF, ho, _, hc, _, hk⟩
  exact ⟨y, a, c, he, hF.wide fun b hb => hb.2, ⟨ho, hc⟩, h3.trans (Keep.below hk (by omega) (fun b hb => by omega))⟩
theorem made_c (W w1 : World) (h : PAt W w1) : Calls Tryz.prog 37 #[.pointer (some ⟨W.heap.size, 0, none⟩), .int .i64 3] w1 fun e w' => ∃ y a c, e = .returned (.slice a y.len c) ∧ In w' (.slice a y.len c) y ∧ (OkF 0 y ∧ y.cnt ≤ 78) ∧ Below W.heap.size W w' :=
  (made1_c W w1 h).mono fun e w' ⟨y, a, c, he, h1, h2, h3⟩ => ⟨y, a, c, he, h1, ⟨okF_down h2.1, h2.2⟩, h3⟩
theorem few_c (y : Fo) (a : Option Addr) (c : Nat) (W : World) (hy : In W (.slice a y.len c) y) (ho : OkF 0 y) (hc : y.cnt ≤ 800) {q : Bool} (h : decide (60 < y.cnt) = q) :
    Calls Tryz.prog 40 #[.slice a y.len c] W fun e w' => e = .returned (.bool q) ∧ Below W.heap.size W w' := by
  subst h
  exact fewY_any y a c _ W ho hc hy (fun _ h => h)
theorem checkE_c (y : Fo) (a : Option Addr) (c : Nat) (W : World) (hy : In W (.slice a y.len c) y) (hb : Bd y) {E : Int} (h : chkY y = E) : Calls Tryz.prog 23 #[.slice a y.len c] W fun e w' => e = .returned (.int .i64 E) ∧ Below W.heap.size W w' := by
  subst h
  exact check_c y a c W hy hb
theorem okF_few {y : Fo} (h : OkF 0 y) (hc : y.cnt ≤ 60) : chkY y = 0 := by rw [okF_chk h, if_pos hc]
theorem okF_many2 {y : Fo} (h : OkF 0 y) (hc : ¬ y.cnt ≤ 60) : chkY y = 2 := by rw [okF_chk h, if_neg hc]
theorem eqY_c (y : Fo) (ay aa : Option Addr) (cy ca : Nat) (W : World) (hy : In W (.slice ay y.len cy) y) (ha : In W (.slice aa y.len ca) y) (by_ : Bd y) :
    Calls Tryz.prog 25 #[.slice ay y.len cy, .slice aa y.len ca] W fun e w' => e = .returned (.bool true) ∧ Below W.heap.size W w' := by
  have h := same_c y y ay aa cy ca W hy ha by_ by_
  rwa [decide_eq_true rfl] at h
theorem joE_two {y a b : Fo} (ky : chkY y = 0) (ka : chkY a = 0) (kb : chkY b = 0) : joE y a b = 0 ∨ joE y a b = 2 := by
  have hcp : cpE [y, a, b] = 0 := by simp [cpE, ky, ka, kb]
  rw [joE, if_neg (by simp [hcp])]
  split
  · exact .inr rfl
  · exact .inl rfl
theorem joP_bd {y a b : Fo} {E : Int} {Y : Fo} {P : List (List Ky)} (ky : chkY y = 0) (ka : chkY a = 0) (kb : chkY b = 0) (h : joE y a b = E ∧ joY y a b = Y ∧ joP y a b = P) : P.length ≤ 1000 ∧ ∀ p ∈ P, p.length ≤ 1000 := by
  obtain ⟨_, _, rfl⟩ := h
  exact (join_bd ky ka kb).2.2
theorem joY_bd {y a b : Fo} {Y : Fo} {P : List (List Ky)} (ky : chkY y = 0) (ka : chkY a = 0) (kb : chkY b = 0) (h : joE y a b = 0 ∧ joY y a b = Y ∧ joP y a b = P) : Bd Y := by
  obtain ⟨h0, rfl, _⟩ := h
  obtain ⟨h1, h2, _⟩ := join_bd ky ka kb
  exact ⟨h2, h1, by have := (joined_two ky ka kb h0).1; omega⟩
theorem contK_c (ps : List (List Ky)) (q : List Ky) (al aq : Option Addr) (cl cq F : Nat) (w : World) (hv : PaIn w (.slice al ps.length cl) ps) (hq : PtIn w (.slice aq q.length cq) q) (hF : F < w.heap.size) (hc : w.cell? ⟨F, 0, none⟩ = some (.slice aq q.length cq)) (hl : ps.length ≤ 1000) (hps : ∀ p ∈ ps, p.length ≤ 1000) (lq : q.length ≤ 1000) {b : Bool} (h : decide (q ∈ ps) = b) :
    Calls Tryz.prog 45 #[.slice al ps.length cl, .func (.func 46) #[] #[.pointer (some ⟨F, 0, none⟩)]] w fun e w' => e = .returned (.bool b) ∧ Below w.heap.size w w' := by
  subst h
  exact contK_any ps q al aq cl cq F _ _ w hv (fun _ h => h) hq (fun _ h => h) hF hc hl hps lq
end Go.Proofs.LF
