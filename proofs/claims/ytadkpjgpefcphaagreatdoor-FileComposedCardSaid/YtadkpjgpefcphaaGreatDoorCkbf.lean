/- Parts of the proof of a law of layer 11 (file): LfW94, LfJo, LfW78, LfVal, LfAf. The conditions stand in each theorem. -/
import Derived.Test.YtadkpjgpefcphaaGreatDoorProg
import Derived.Test.YtadkpjgpefcphaaGreatDoorCkad
import Derived.Test.YtadkpjgpefcphaaGreatDoorCkae
import Derived.Test.YtadkpjgpefcphaaGreatDoorCkan
import Derived.Test.YtadkpjgpefcphaaGreatDoorCkar
import Derived.Test.YtadkpjgpefcphaaGreatDoorCkav
import Derived.Test.YtadkpjgpefcphaaGreatDoorCkaz
import Derived.Test.YtadkpjgpefcphaaGreatDoorCkba
import Derived.Test.YtadkpjgpefcphaaGreatDoorCkbb
import Derived.Test.YtadkpjgpefcphaaGreatDoorCkbc
import Derived.Test.YtadkpjgpefcphaaGreatDoorCkbd
set_option linter.all false
set_option linter.unusedVariables false
set_option linter.unusedSimpArgs false
namespace Go.Proofs.LF
open Go.RowKit Go.Sort
set_option maxHeartbeats 4000000
set_option maxRecDepth 100000
attribute [local go_sem] bs_toList bs_size bs_get
theorem chg_elem {S : Nat → Prop} {w : World} {ls : List Ch} {ds : List Value} (h : LCs rdCh S w ls ds) {i : Nat} (hi : i < ls.length) : ∃ ap cp ao co an cn, elemV 5 ds i = .agg #[.slice ap ls[i].p.length cp, .bool ls[i].had, .bool ls[i].has, .slice ao ls[i].old.length co, .slice an ls[i].new.length cn] ∧ Pth S w (.slice ap ls[i].p.length cp) ls[i].p ∧ Ints S w (.slice ao ls[i].old.length co) ls[i].old ∧ Ints S w (.slice an ls[i].new.length cn) ls[i].new := by
 have h' := h.drop (i := i)
 rw [List.drop_eq_getElem_cons hi] at h'
 obtain ⟨cs, es, he, ⟨ap, cp, ao, co, an, cn, rfl, hp, ho, hn⟩, _⟩ := h'
 refine ⟨ap, cp, ao, co, an, cn, ?_, hp, ho, hn⟩
 have e0 := congrArg (fun l => l[0]?) he
 have e1 := congrArg (fun l => l[1]?) he
 have e2 := congrArg (fun l => l[2]?) he
 have e3 := congrArg (fun l => l[3]?) he
 have e4 := congrArg (fun l => l[4]?) he
 simp only [List.getElem?_drop] at e0 e1 e2 e3 e4
 simp [elemV, List.getD_eq_getElem?_getD, List.range, List.range.loop] at e0 e1 e2 e3 e4 ⊢
 simp [e0, e1, e2, e3, e4]
theorem enters163 : Enters 163 := by intro args W; simp [go_sem]
theorem eq163 (x : Ch) (q : List Ky) (ap ao an aq : Option Addr) (cp co cn cq F : Nat) (S : Nat → Prop) (w : World) (hp : Pth S w (.slice ap x.p.length cp) x.p) (hq : Pth S w (.slice aq q.length cq) q) (hS : ∀ b, S b → b < w.heap.size) (lp : x.p.length ≤ 1000) (lq : q.length ≤ 1000) (hF : F < w.heap.size) (hc : w.cell? ⟨F, 0, none⟩ = some (.slice aq q.length cq)) :
 Calls Tryz.prog 163 #[.agg #[.slice ap x.p.length cp, .bool x.had, .bool x.has, .slice ao x.old.length co, .slice an x.new.length cn], .pointer (some ⟨F, 0, none⟩)] w fun e w' => e = .returned (.bool (decide (cmpP x.p q = 0))) ∧ Below w.heap.size w w' := by
 obtain ⟨W, hW⟩ : ∃ W, w.alloc (.cells #[.slice ap x.p.length cp, .bool x.had, .bool x.has, .slice ao x.old.length co, .slice an x.new.length cn] 68) = W := ⟨_, rfl⟩
 have hb : Below w.heap.size w W := by rw [← hW]; exact (Below.refl _ _).alloc (nl_ _) _
 have hnew : W.heap[w.heap.size]? = some (.cells #[.slice ap x.p.length cp, .bool x.had, .bool x.has, .slice ao x.old.length co, .slice an x.new.length cn] 68 (0, 0)) := by rw [← hW]; exact heap_alloc_new _ _
 have c0 : W.cell? ⟨w.heap.size, 0, none⟩ = some (.slice ap x.p.length cp) := cg_ hnew (k := 0) rfl
 have d0 : W.cell? ⟨F, 0, none⟩ = some (.slice aq q.length cq) := bc_ hb hF hc
 have HB := hid hb
 have HC := hid (byPath_any x.p q ap aq cp cq S W (hp.agree (Ag_b hb hS)) (hq.agree (Ag_b hb hS)) (fun b hb' => Nat.lt_of_lt_of_le (hS b hb') hb.size) lp lq)
 have HW := hid hW
 clear hp hq hc hb hnew hW
 go_enter Tryz.func163, Tryz.ntmps163
 go_wp2_with (rw [HW.out])
 refine HC.out.mono ?_
 rintro e w1 ⟨rfl, hb1⟩
 go_wp2_with fail
 go_ret
 exact ⟨rfl, HB.out.trans (hb1.mono HB.out.size)⟩
theorem contC_any (ls : List Ch) (q : List Ky) (al aq : Option Addr) (cl cq F : Nat) (S T : Nat → Prop) (w : World) (hv : ChSl S w (.slice al ls.length cl) ls) (hS : ∀ b, S b → b < w.heap.size) (hq : Pth T w (.slice aq q.length cq) q) (hT : ∀ b, T b → b < w.heap.size)
 (hF : F < w.heap.size) (hc : w.cell? ⟨F, 0, none⟩ = some (.slice aq q.length cq)) (hl : ls.length ≤ 1000) (hps : ∀ x ∈ ls, x.p.length ≤ 1000) (lq : q.length ≤ 1000) :
 Calls Tryz.prog 142 #[.slice al ls.length cl, .func (.func 163) #[] #[.pointer (some ⟨F, 0, none⟩)]] w fun e w' => e = .returned (.bool (ls.any fun x => decide (cmpP x.p q = 0))) ∧ Below w.heap.size w w' := by
 obtain ⟨ds, h1, h2⟩ := hv
 have key := cont_chg 163 enters163 (fun i => decide (cmpP ((ls.map (·.p)).getD i []) q = 0)) [.pointer (some ⟨F, 0, none⟩)] ls.length al cl ds S w h1 hS (by omega) (fun i hi W hW => by
  obtain ⟨ap, cp, ao, co, an, cn, he, hp, _, _⟩ := chg_elem h2 hi
  have hg : (ls.map (·.p)).getD i [] = ls[i].p := by simp [List.getD_eq_getElem?_getD, hi]
  rw [he, hg]
  exact eq163 ls[i] q ap ao an aq cp co cn cq F (fun b => S b ∨ T b) W ((hp.agree (Ag_b hW hS)).wide fun b hb => .inl hb) ((hq.agree (Ag_b hW hT)).wide fun b hb => .inr hb) (fun b hb => by have := hW.size; rcases hb with h | h; exact Nat.lt_of_lt_of_le (hS b h) this; exact Nat.lt_of_lt_of_le (hT b h) this) (hps _ (List.getElem_mem hi)) lq (Nat.lt_of_lt_of_le hF hW.size) (bc_ hW hF hc))
 rw [anyN_list (fun x : Ch => decide (cmpP x.p q = 0)) _ ls (fun i hi => by simp [List.getD_eq_getElem?_getD, hi])] at key
 exact key
end Go.Proofs.LF
namespace Go.Proofs.LF
open Go.RowKit Go.Sort
theorem cmpP_dropLast : ∀ {p : List Ky}, p ≠ [] → cmpP p.dropLast p < 0
 | [], h => absurd rfl h
 | [a], _ => by simp [cmpP]
 | a :: b :: p, _ => by
   have h := cmpP_dropLast (p := b :: p) (by simp)
   have e : byK a a = 0 := byK_ord.refl a
   rw [List.dropLast_cons_of_ne_nil (by simp), cmpP, if_neg (by simp [e])]
   exact h
theorem lsF_clo {a : List Fl} (ha : Srt a) (hc : Clo a) (hne : ∀ x ∈ a, x.p ≠ []) : ∀ (k r : List Fl), a = k ++ r → lsF k [] r = (a, [])
 | k, [], e => by rw [e]; simp [lsF]
 | k, f :: r, e => by
   have hk : Srt k := by rw [e] at ha; exact (List.pairwise_append.1 ha).1
   rw [lsF, if_pos, lsF_clo ha hc hne (k ++ [f]) r (by rw [e]; simp)]
   by_cases h1 : f.p.length = 1
   · exact .inr h1
   · left
     have hf : f ∈ a := by rw [e]; simp
     have hfp : f.p.dropLast ≠ [] := fun h => by
      have h2 := congrArg List.length h
      rw [List.length_dropLast] at h2
      have h3 : f.p.length ≠ 0 := fun h => hne f hf (List.eq_nil_of_length_eq_zero h)
      simp at h2
      omega
     obtain ⟨z, hz, hzp⟩ := hc f hf hfp
     have hzk : z ∈ k := by
      rw [e] at hz
      rcases List.mem_append.1 hz with h | h
      · exact h
      · exfalso
        have hlt : 0 ≤ cmpP z.p f.p := by
         rcases List.mem_cons.1 h with h | h
         · rw [h, cmpP_ord.refl]; omega
         · have h4 := ha
           rw [e] at h4
           have h5 := (List.pairwise_cons.1 (List.pairwise_append.1 h4).2.1).1 z h
           have := cmpP_ord.flip h5
           omega
        have hlt2 : cmpP z.p f.p < 0 := by
         rw [hzp]
         exact cmpP_dropLast (hne f hf)
        omega
     rw [fnd_rfd hk]
     exact rfd_iff.2 (List.mem_map.2 ⟨z, hzk, hzp⟩)
end Go.Proofs.LF
namespace Go.Proofs.LF
open Go.RowKit Go.Sort
def Bd (y : Fo) : Prop := y.len ≤ 1000 ∧ y.Sm ∧ y.cnt ≤ 900
def In (W : World) (v : Value) (y : Fo) : Prop := FSl (fun q => q < W.heap.size) W v y
theorem In.on {W W' : World} {v : Value} {y : Fo} (h : In W v y) (hb : Below W.heap.size W W') : In W' v y := FSl.on h hb
def PaIn (W : World) (v : Value) (ps : List (List Ky)) : Prop := PaSl (fun q => q < W.heap.size) W v ps
theorem PaIn.on {W W' : World} {v : Value} {ps : List (List Ky)} (h : PaIn W v ps) (hb : Below W.heap.size W W') : PaIn W' v ps := LSl.on h hb
def IsIn (W : World) (v : Value) (l : List Int) : Prop := Ints (fun q => q < W.heap.size) W v l
theorem IsIn.on {w w' : World} {v : Value} {l : List Int} (h : IsIn w v l) (hb : Below w.heap.size w w') : IsIn w' v l :=
 (Ints.agree h (Ag_b hb fun _ h => h)).wide fun b hq => by have := hb.size; omega
def PtIn (W : World) (v : Value) (l : List Ky) : Prop := Pth (fun q => q < W.heap.size) W v l
theorem PtIn.on {w w' : World} {v : Value} {l : List Ky} (h : PtIn w v l) (hb : Below w.heap.size w w') : PtIn w' v l :=
 (Pth.agree h (Ag_b hb fun _ h => h)).wide fun b hq => by have := hb.size; omega
def ChIn (W : World) (v : Value) (l : List Ch) : Prop := ChSl (fun q => q < W.heap.size) W v l
theorem ChIn.on {W W' : World} {v : Value} {ps : List Ch} (h : ChIn W v ps) (hb : Below W.heap.size W W') : ChIn W' v ps := LSl.on h hb
theorem diff_c (y a : Fo) (ay aa : Option Addr) (cy ca : Nat) (W : World) (hy : In W (.slice ay y.len cy) y) (ha : In W (.slice aa a.len ca) a) (by_ : Bd y) (ba : Bd a) (ht : Pow W) {D : List Ch} {E : Int} (h : difE y a = E ∧ difL y a = D) :
 Calls Tryz.prog 41 #[.slice ay y.len cy, .slice aa a.len ca] W fun e w' => ∃ ap cp, e = .returned (.tuple #[.slice ap D.length cp, .int .i64 E]) ∧ ChIn w' (.slice ap D.length cp) D ∧ Below W.heap.size W w' := by
 obtain ⟨rfl, rfl⟩ := h
 exact (Diff_any y a ay aa cy ca _ W hy ha (fun _ h => h) by_.1 ba.1 by_.2.1 ba.2.1 by_.2.2 ba.2.2 ht).mono fun e w' ⟨a1, c1, he, h1, h3⟩ => ⟨a1, c1, he, h1.wide fun b hb => hb.2, h3⟩
theorem check_c (y : Fo) (a : Option Addr) (c : Nat) (W : World) (hy : In W (.slice a y.len c) y) (hb : Bd y) : Calls Tryz.prog 23 #[.slice a y.len c] W fun e w' => e = .returned (.int .i64 (chkY y)) ∧ Below W.heap.size W w' :=
 Check_any y a c _ W hy (fun _ h => h) hb.1 hb.2.1 hb.2.2
def AllP (W w' : World) (v : Value) (ps : List (List Ky)) (n : Nat) (cs : List Value) : Prop := n = ps.length ∧ w'.ownsRow W.heap.size 65 1 v n cs ∧ ∃ T : Nat → Prop, LCs rdPa T w' ps cs ∧ ∀ b, T b → W.heap.size ≤ b ∧ b < w'.heap.size ∧ v.ownBlock ≠ some b
theorem AllP.news {W w' : World} {a : Option Addr} {n c : Nat} {ps : List (List Ky)} {cs : List Value} (h : AllP W w' (.slice a n c) ps n cs) : cs.length = n * 1 ∧ (a = none → n = 0 ∧ c = 0) ∧ (∀ ad, a = some ad → ∀ (j : Nat) (u : Value), cs[j]? = some u → w'.cell? (ad.add j) = some u) ∧ (∀ u ∈ cs, u.oneCell' = true) := by
 obtain ⟨_, h1, T, h2, h3⟩ := h
 have s1 := SlC.of_owns h1
 exact ⟨h1.1, fun h => (SlC.caps s1).2.2 h, SlC.news s1 Agree.refl, LCs.one h2⟩
theorem okF_bd {y : Fo} (h : OkF 0 y) (hc : y.cnt ≤ 900) : Bd y := ⟨by have := len_cnt y; omega, okF_sm y 0 h (by omega), hc⟩
def PAt (W w' : World) : Prop := Hp W.heap.size (fun q => q < W.heap.size) w' ∧ w'.heap.size = W.heap.size + 1 ∧ Below W.heap.size W w'
def ByIn (W : World) (v : Value) (l : List Int) : Prop := Byt (fun q => q < W.heap.size) W v l
theorem ByIn.on {W W' : World} {v : Value} {l : List Int} (h : ByIn W v l) (hb : Below W.heap.size W W') : ByIn W' v l :=
 (SlC.agree h (Ag_b hb fun _ h => h)).wide fun b hq => by have := hb.size; omega
theorem pile_c (l : List Int) (a : Option Addr) (c : Nat) (W : World) (h : ByIn W (.slice a l.length c) l) :
 Calls Tryz.prog 38 #[.slice a l.length c] W fun e w' => e = .returned (.pointer (some ⟨W.heap.size, 0, none⟩)) ∧ PAt W w' :=
 (Pile_any a l c _ W h (fun _ h => h)).mono fun e w' ⟨he, h1, h2, h3⟩ => ⟨he, h1, h2, h3⟩
theorem made1_c (W w1 : World) (h : PAt W w1) : Calls Tryz.prog 37 #[.pointer (some ⟨W.heap.size, 0, none⟩), .int .i64 3] w1 fun e w' => ∃ y a c, e = .returned (.slice a y.len c) ∧ In w' (.slice a y.len c) y ∧ (OkF 1 y ∧ y.cnt ≤ 78) ∧ Below W.heap.size W w' := by
 obtain ⟨h1, h2, h3⟩ := h
 refine (Made_any 3 W.heap.size _ w1 (by omega) (by omega) h1 (by omega) (fun q hq => by omega)).mono ?_
 rintro e w' ⟨y, a, c, he, hF, ho, _, hc, _, hk⟩
 exact ⟨y, a, c, he, hF.wide fun b hb => hb.2, ⟨ho, hc⟩, h3.trans (Keep.below hk (by omega) (fun b hb => by omega))⟩
theorem made_c (W w1 : World) (h : PAt W w1) : Calls Tryz.prog 37 #[.pointer (some ⟨W.heap.size, 0, none⟩), .int .i64 3] w1 fun e w' => ∃ y a c, e = .returned (.slice a y.len c) ∧ In w' (.slice a y.len c) y ∧ (OkF 0 y ∧ y.cnt ≤ 78) ∧ Below W.heap.size W w' :=
 (made1_c W w1 h).mono fun e w' ⟨y, a, c, he, h1, h2, h3⟩ => ⟨y, a, c, he, h1, ⟨okF_down h2.1, h2.2⟩, h3⟩
theorem few_c (y : Fo) (a : Option Addr) (c : Nat) (W : World) (hy : In W (.slice a y.len c) y) (ho : OkF 0 y) (hc : y.cnt ≤ 800) {q : Bool} (h : decide (60 < y.cnt) = q) :
 Calls Tryz.prog 40 #[.slice a y.len c] W fun e w' => e = .returned (.bool q) ∧ Below W.heap.size W w' := by
 subst h
 exact fewY_any y a c _ W ho hc hy (fun _ h => h)
theorem checkE_c (y : Fo) (a : Option Addr) (c : Nat) (W : World) (hy : In W (.slice a y.len c) y) (hb : Bd y) {E : Int} (h : chkY y = E) : Calls Tryz.prog 23 #[.slice a y.len c] W fun e w' => e = .returned (.int .i64 E) ∧ Below W.heap.size W w' := by
 subst h
 exact check_c y a c W hy hb
theorem okF_few {y : Fo} (h : OkF 0 y) (hc : y.cnt ≤ 60) : chkY y = 0 := by rw [okF_chk h, if_pos hc]
theorem okF_many2 {y : Fo} (h : OkF 0 y) (hc : ¬ y.cnt ≤ 60) : chkY y = 2 := by rw [okF_chk h, if_neg hc]
end Go.Proofs.LF
namespace Go.Proofs.LF
def txt1 : List UInt8 := [98, 101, 100, 32, 51, 10, 32, 114, 97, 107, 101, 100, 32, 53, 32, 55, 10, 115, 111, 108, 100, 10]
def txt2 : List UInt8 := [98, 101, 100, 32, 51, 10, 32, 32, 114, 97, 107, 101, 100, 32, 53, 10]
def bed3 : Ky := ⟨bedN, true, 3⟩
def raked5 : Ky := ⟨rakedN, true, 5⟩
def raked6 : Ky := ⟨rakedN, true, 6⟩
def oneB (n : Int) : Fo := .cons bedN [3] (.cons rakedN [5, n] .nil .nil) .nil
def oneS : Fo := .cons soldN [] .nil .nil
def oneM : Fo := .cons bedN [3] (.cons rakedN [5, 7] .nil (.cons rakedN [6] .nil .nil)) (.cons soldN [] .nil .nil)
def difV : List Ch := [⟨[bed3, raked5], true, true, [5, 7], [5, 8]⟩, ⟨[⟨soldN, false, 0⟩], true, false, [], []⟩]
theorem val_chk : chkY (oneY 7) = 0 := by decide +kernel
theorem val_txt : txtL (nodesL [] (oneY 7)) = txt1 := by decide +kernel
theorem val_prs1 : (prs txt1).2 = (0, 0, 0) ∧ prsY txt1 = oneY 7 := by decide +kernel
theorem val_prs2 : (prs txt2).2 = (1, 1, 11) ∧ prsY txt2 = .nil := by decide +kernel
theorem val_dif : difE (oneY 7) (oneB 8) = 0 ∧ difL (oneY 7) (oneB 8) = difV := by decide +kernel
theorem val_get : getE (oneY 7) [bed3, raked5] = 0 ∧ getN (oneY 7) [bed3, raked5] = (rakedN, [5, 7], .nil) := by decide +kernel
theorem val_put : putE (oneY 7) [bed3] rakedN [6] .nil = 0 ∧ putY (oneY 7) [bed3] rakedN [6] .nil = oneM := by decide +kernel
theorem val_join : joE (oneY 7) oneS oneM = 0 ∧ joY (oneY 7) oneS oneM = oneS ∧ joP (oneY 7) oneS oneM = [[bed3, raked6]] := by decide +kernel
end Go.Proofs.LF
namespace Go.Proofs.LF
def fdC (l : List Ch) (p : List Ky) : Option Ch := l.find? fun c => decide (c.p = p)
def mrgC (m : List Ch) (a : Ch) : Ch := match fdC m a.p with | none => a | some b => ⟨a.p, a.had, b.has, a.old, b.new⟩
def claC (m : List Ch) (a : Ch) : Bool := match fdC m a.p with | none => false | some b => !((a.has == b.had) && decide (a.new = b.old))
def remC (l m : List Ch) : List Ch := m.filter fun c => !(l.any fun a => decide (a.p = c.p))
def nopC (c : Ch) : Bool := (c.had == c.has) && decide (c.old = c.new)
def aftO (l m : List Ch) : List Ch := (l.map (mrgC m) ++ remC l m).filter fun c => !nopC c
def insCh (c : Ch) : List Ch → List Ch
 | [] => [c]
 | d :: r => if cmpP c.p d.p < 0 then c :: d :: r else d :: insCh c r
def srtCh : List Ch → List Ch
 | [] => []
 | c :: r => insCh c (srtCh r)
def aftE (l m : List Ch) : Int := if ckC l ≠ 0 then ckC l else if ckC m ≠ 0 then ckC m else if l.any (claC m) then 7 else if 120 < (aftO l m).length then 2 else 0
def aftL (l m : List Ch) : List Ch := if aftE l m = 0 then srtCh (aftO l m) else []
theorem fdC_some {l : List Ch} {p : List Ky} {c : Ch} (h : fdC l p = some c) : c ∈ l ∧ c.p = p := ⟨List.mem_of_find?_eq_some h, by have := List.find?_some h; simpa using this⟩
theorem fdC_none {l : List Ch} {p : List Ky} (h : fdC l p = none) : ∀ c ∈ l, c.p ≠ p := fun c hc => by
 unfold fdC at h
 rw [List.find?_eq_none] at h
 simpa using h c hc
abbrev SrtC (l : List Ch) : Prop := l.Pairwise (fun a b => cmpP a.p b.p < 0)
theorem SrtC.inj {l : List Ch} (h : SrtC l) {a b : Ch} (ha : a ∈ l) (hb : b ∈ l) (e : a.p = b.p) : a = b := by
 induction l with
 | nil => cases ha
 | cons x l ih =>
   obtain ⟨h1, h2⟩ := List.pairwise_cons.1 h
   rcases List.mem_cons.1 ha with rfl | ha' <;> rcases List.mem_cons.1 hb with rfl | hb'
   · rfl
   · have := h1 b hb'; rw [e, cmpP_ord.refl] at this; omega
   · have := h1 a ha'; rw [e, cmpP_ord.refl] at this; omega
   · exact ih h2 ha' hb'
theorem fdC_mem {l : List Ch} (h : SrtC l) {c : Ch} (hc : c ∈ l) : fdC l c.p = some c := by
 cases hf : fdC l c.p with
 | none => exact absurd rfl (fdC_none hf c hc)
 | some d =>
   obtain ⟨h1, h2⟩ := fdC_some hf
   rw [h.inj h1 hc h2]
theorem SrtC.nodup {l : List Ch} (h : SrtC l) : (l.map Ch.p).Nodup := by
 unfold List.Nodup
 rw [List.pairwise_map]
 exact h.imp fun {a b} hab e => by rw [e, cmpP_ord.refl] at hab; omega
theorem insCh_mem {c d : Ch} : ∀ {l : List Ch}, d ∈ insCh c l ↔ d = c ∨ d ∈ l
 | [] => by simp [insCh]
 | x :: r => by
   simp only [insCh]
   split
   · simp
   · simp only [List.mem_cons, insCh_mem (l := r)]
     constructor
     · rintro (h | h | h)
       · exact .inr (.inl h)
       · exact .inl h
       · exact .inr (.inr h)
     · rintro (h | h | h)
       · exact .inr (.inl h)
       · exact .inl h
       · exact .inr (.inr h)
theorem insCh_srt {c : Ch} : ∀ {l : List Ch}, SrtC l → c.p ∉ l.map Ch.p → SrtC (insCh c l)
 | [], _, _ => by simp [insCh, SrtC]
 | x :: r, h, hn => by
   obtain ⟨h1, h2⟩ := List.pairwise_cons.1 h
   simp only [insCh]
   split
   · rename_i hlt
     refine List.pairwise_cons.2 ⟨fun d hd => ?_, h⟩
     rcases List.mem_cons.1 hd with rfl | hd
     · exact hlt
     · exact cmpP_ord.trans hlt (h1 d hd)
   · rename_i hge
     have hx : cmpP x.p c.p < 0 := by
      rcases Int.lt_trichotomy (cmpP x.p c.p) 0 with h' | h' | h'
      · exact h'
      · exact absurd (by simp [cmpP_ord.eq h']) hn
      · exact absurd (cmpP_ord.flop h') hge
     refine List.pairwise_cons.2 ⟨fun d hd => ?_, insCh_srt h2 (fun h => hn (by simp at h ⊢; exact .inr h))⟩
     rcases insCh_mem.1 hd with rfl | hd
     · exact hx
     · exact h1 d hd
theorem srtCh_mem {d : Ch} : ∀ {l : List Ch}, d ∈ srtCh l ↔ d ∈ l
 | [] => by simp [srtCh]
 | x :: r => by simp [srtCh, insCh_mem, srtCh_mem (l := r)]
theorem srtCh_srt : ∀ {l : List Ch}, (l.map Ch.p).Nodup → SrtC (srtCh l)
 | [], _ => List.Pairwise.nil
 | x :: r, h => by
   rw [List.map_cons, List.nodup_cons] at h
   refine insCh_srt (srtCh_srt h.2) fun hm => h.1 ?_
   obtain ⟨z, hz, e⟩ := List.mem_map.1 hm
   exact List.mem_map.2 ⟨z, srtCh_mem.1 hz, e⟩
theorem srtC_ext : ∀ {l l' : List Ch}, SrtC l → SrtC l' → (∀ x, x ∈ l ↔ x ∈ l') → l = l'
 | [], [], _, _, _ => rfl
 | [], b :: s, _, _, h => by have := (h b).2 (by simp); simp at this
 | a :: r, [], _, _, h => by have := (h a).1 (by simp); simp at this
 | a :: r, b :: s, h1, h2, h => by
   obtain ⟨a1, a2⟩ := List.pairwise_cons.1 h1
   obtain ⟨b1, b2⟩ := List.pairwise_cons.1 h2
   have irr : ∀ {x y : Ch}, cmpP x.p y.p < 0 → cmpP y.p x.p < 0 → False := fun {x y} hx hy => by
    have := cmpP_ord.trans hx hy
    rw [cmpP_ord.refl] at this; omega
   have hab : a = b := by
    rcases List.mem_cons.1 ((h a).1 (by simp)) with e | ha
    · exact e
    · rcases List.mem_cons.1 ((h b).2 (by simp)) with e | hb
      · exact e.symm
      · exact (irr (a1 b hb) (b1 a ha)).elim
   subst hab
   rw [srtC_ext a2 b2 fun p => ⟨fun hp => by
    rcases List.mem_cons.1 ((h p).1 (by simp [hp])) with e | hp'
    · subst e; exact (irr (a1 p hp) (a1 p hp)).elim
    · exact hp', fun hp => by
    rcases List.mem_cons.1 ((h p).2 (by simp [hp])) with e | hp'
    · subst e; exact (irr (b1 p hp) (b1 p hp)).elim
    · exact hp'⟩]
theorem srtC_of_perm {ls ls' : List Ch} (hn : (ls.map Ch.p).Nodup) (hp : ls'.Perm ls) (hs : ls'.Pairwise (fun a b => cmpP a.p b.p ≤ 0)) : ls' = srtCh ls := by
 have hn' : (ls'.map Ch.p).Nodup := (hp.map Ch.p).nodup_iff.2 hn
 have h1 : SrtC ls' := by
  have h2 : ls'.Pairwise (fun a b => a.p ≠ b.p) := List.pairwise_map.1 hn'
  refine (hs.and h2).imp ?_
  rintro a b ⟨h3, h4⟩
  rcases Int.lt_or_eq_of_le h3 with h | h
  · exact h
  · exact absurd (cmpP_ord.eq h) h4
 exact srtC_ext h1 (srtCh_srt hn) fun x => by rw [srtCh_mem]; exact hp.mem_iff
theorem mrgC_p (m : List Ch) (a : Ch) : (mrgC m a).p = a.p := by unfold mrgC; split <;> rfl
theorem remC_mem {l m : List Ch} {c : Ch} : c ∈ remC l m ↔ c ∈ m ∧ ∀ a ∈ l, a.p ≠ c.p := by
 simp only [remC, List.mem_filter, Bool.not_eq_true', List.any_eq_false, decide_eq_true_eq]
theorem aft_nodup {l m : List Ch} (hl : SrtC l) (hm : SrtC m) : ((aftO l m).map Ch.p).Nodup := by
 have h1 : ((l.map (mrgC m) ++ remC l m).map Ch.p).Nodup := by
  rw [List.map_append, List.map_map, show Ch.p ∘ mrgC m = Ch.p from funext fun a => mrgC_p m a, List.nodup_append]
  refine ⟨hl.nodup, SrtC.nodup (List.Pairwise.sublist List.filter_sublist hm), ?_⟩
  intro p hp q hq e
  subst e
  obtain ⟨a, ha, rfl⟩ := List.mem_map.1 hp
  obtain ⟨c, hc, e⟩ := List.mem_map.1 hq
  exact (remC_mem.1 hc).2 a ha e.symm
 exact List.Nodup.sublist (List.Sublist.map _ List.filter_sublist) h1
theorem ck_good {c : Ch} (h : ckOne none c = 0) : GoodP c.p ∧ ∀ k ∈ c.p, OkK k := by
 obtain ⟨_, h2, _, h4, _, _, h7, _⟩ := ckOne_zero h
 have h8 : (c.p.all fun k => k.h || decide (k.x = 0)) = true := by
  unfold rtC at h7
  split at h7
  · cases h7
  split at h7
  · cases h7
  split at h7
  · cases h7
  · rename_i h
    cases hq : (c.p.all fun k => k.h || decide (k.x = 0)) with
    | true => rfl
    | false => rw [hq] at h; exact absurd rfl h
 simp only [okNm, okNu, List.all_eq_true, Bool.not_eq_true'] at h2 h4
 rw [List.all_eq_true] at h8
 refine ⟨fun k hk => ?_, fun k hk => ?_⟩
 · have a := h2 k hk
   have b := h4 k hk
   have c := h8 k hk
   simp only [inB, Bool.and_eq_true, decide_eq_true_eq] at b
   refine ⟨fun x hx => ?_, b.1, fun h => by simpa [h] using c⟩
   simp only [badNm, Bool.or_eq_false_iff] at a
   have a1 := a.1.1
   simp only [List.any_eq_false] at a1
   have := a1 x hx
   simp only [Bool.or_eq_true, decide_eq_true_eq, not_or] at this
   simp only [smallB, inB, Bool.and_eq_true, decide_eq_true_eq]
   omega
 · have a := badNm_len (h2 k hk)
   have b := h4 k hk
   simp only [inB, Bool.and_eq_true, decide_eq_true_eq] at b
   exact ⟨by omega, b.1, b.2⟩
theorem spt_inj {l m : List Ch} (hl : ∀ c ∈ l, ckOne none c = 0) (hm : ∀ c ∈ m, ckOne none c = 0) {a b : Ch} (ha : a ∈ l) (hb : b ∈ m) (h : sptL a.p = sptL b.p) : a.p = b.p :=
 sptL_inj (ck_good (hl a ha)).1 (ck_good (hm b hb)).1 h
end Go.Proofs.LF
