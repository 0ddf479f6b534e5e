/- Parts of the proof of a law of layer 11 (file): LfGwA, LfW77, LfPre. The conditions stand in each theorem. -/
import Derived.BigQuiet
import Derived.Deep.AppendLies
import Derived.Deep.Cut
import Derived.Deep.CutBlock
import Derived.Deep.CutRange
import Derived.Deep.QuietTactic
import Derived.Deep.RegionHeld3
import Derived.Laws.ResultCell
import Derived.Outline
import Derived.Test.YtadkpjgpefcphaaGreatDoorProg
import Derived.WalkKit
import Derived.WalkLawsBesides
import Derived.WalkSpells
import Derived.Test.YtadkpjgpefcphaaGreatDoorPuan
import Derived.Test.YtadkpjgpefcphaaGreatDoorPuau
import Derived.Test.YtadkpjgpefcphaaGreatDoorPubj
import Derived.Test.YtadkpjgpefcphaaGreatDoorPubk
import Derived.Test.YtadkpjgpefcphaaGreatDoorPubo
import Derived.Test.YtadkpjgpefcphaaGreatDoorPubp
set_option linter.all false
set_option linter.unusedVariables false
set_option linter.unusedSimpArgs false
namespace Go.Proofs.LF
def rmK (k : Ky) : Fo → Fo
  | .nil => .nil
  | .cons n l s r => if kyOf n l = k then r else .cons n l s (rmK k r)
def rmF : List Ky → Fo → Fo
  | [], y => y
  | [k], y => rmK k y
  | k :: k' :: r, y => modK k (rmF (k' :: r)) y
theorem drP_mem {q : List Ky} {l : List Fl} {x : Fl} : x ∈ drP q l ↔ x ∈ l ∧ ¬ q <+: x.p := by
  rw [drP, List.mem_filter]
  refine and_congr_right fun _ => ?_
  rw [Bool.not_eq_true', Bool.and_eq_false_iff, decide_eq_false_iff_not, decide_eq_false_iff_not]
  constructor
  · rintro h hp
    rcases h with h | h
    · exact h hp.length_le
    · exact h (List.prefix_iff_eq_take.1 hp).symm
  · intro h
    right
    exact fun e => h (List.prefix_iff_eq_take.2 e.symm)
theorem rmK_mem {k : Ky} {u : List Ky} {d : Nat} : ∀ (y : Fo), OkG d y → ∀ x, x ∈ flsL u (rmK k y) ↔ x ∈ flsL u y ∧ ¬ (u ++ [k]) <+: x.p
  | .nil, _, x => by simp [rmK, flsL_nil]
  | .cons n l s r, ⟨_, _, h3, h4⟩, x => by
    simp only [rmK]
    by_cases hk : kyOf n l = k
    · rw [if_pos hk, fls_node u n l s r]
      constructor
      · intro h
        exact ⟨.inr h, fls_rest_pre (fun q hq => by rw [← hk]; exact byK_ne (h3 q hq)) h⟩
      · rintro ⟨h | h, h'⟩
        · exact absurd (hk ▸ fls_one_pre h) h'
        · exact h
    · rw [if_neg hk, fls_node, rmK_mem r h4 x, fls_node u n l s r]
      constructor
      · rintro (h | ⟨h, h'⟩)
        · refine ⟨.inl h, ?_⟩
          obtain ⟨j, hj, t, hp⟩ := fls_top _ _ x h
          simp only [tops, List.mem_cons, List.not_mem_nil, or_false] at hj
          rw [hp, pre_cons, hj]
          exact fun e => hk e.symm
        · exact ⟨.inr h, h'⟩
      · rintro ⟨h | h, h'⟩
        · exact .inl h
        · exact .inr ⟨h, h'⟩
theorem rmK_tops {k : Ky} : ∀ {y : Fo} {j : Ky}, j ∈ tops (rmK k y) → j ∈ tops y
  | .nil, _, h => h
  | .cons n l s r, j, h => by
    simp only [rmK] at h
    split at h
    · simp [tops, h]
    · rcases List.mem_cons.1 h with h | h
      · simp [tops, h]
      · simp [tops, rmK_tops h]
theorem rmK_okG {k : Ky} : ∀ {y : Fo} {d : Nat}, OkG d y → OkG d (rmK k y)
  | .nil, _, _ => trivial
  | .cons n l s r, d, ⟨h1, h2, h3, h4⟩ => by
    simp only [rmK]
    split
    · exact h4
    · exact ⟨h1, h2, fun j hj => h3 j (rmK_tops hj), rmK_okG h4⟩
theorem rmF_okG : ∀ (q : List Ky) {y : Fo} {d : Nat}, OkG d y → OkG d (rmF q y)
  | [], _, _, h => h
  | [k], _, _, h => rmK_okG h
  | k :: k' :: r, y, d, h => by
    simp only [rmF]
    exact modK_okG (fun s hs => rmF_okG (k' :: r) hs) h
theorem rmF_mem : ∀ (q : List Ky) (y : Fo) (u : List Ky) (d : Nat), OkG d y → q ≠ [] → Pl y q → ∀ x, x ∈ flsL u (rmF q y) ↔ x ∈ flsL u y ∧ ¬ (u ++ q) <+: x.p
  | [], _, _, _, _, h, _, _ => absurd rfl h
  | [k], y, u, d, hy, _, _, x => by
    simp only [rmF]
    exact rmK_mem y hy x
  | k :: k' :: r, y, u, d, hy, _, hp, x => by
    obtain ⟨n', l', s', hf, hp'⟩ := pl_cons hp
    have hs' := (fstK_okG hy hf).1
    simp only [rmF]
    have := modK_mem (k := k) (f := rmF (k' :: r)) (new := []) (q := u ++ k :: k' :: r) (u := u) y hy (fun n2 l2 s2 h2 x => by
      rw [hf] at h2
      simp only [Option.some.injEq, Prod.mk.injEq] at h2
      obtain ⟨rfl, rfl, rfl⟩ := h2
      have := rmF_mem (k' :: r) s' (u ++ [k]) (d + 1) hs' (by simp) hp' x
      simpa using this) ⟨k' :: r, by simp⟩ (fun e => by
      have := congrArg List.length e
      simp at this) (by rw [hf]; rfl) x
    simpa using this
theorem pl_of : ∀ (y : Fo) (u p : List Ky) (d : Nat), OkG d y → u ++ p ∈ evP u y → Pl y p
  | y, u, [], d, _, _ => .inl rfl
  | .nil, u, k :: p, d, _, h => by simp [evP, flsL_nil] at h
  | .cons n l s r, u, k :: p, d, ⟨h1, h2, h3, h4⟩, h => by
    obtain ⟨x, hx, hxp⟩ := List.mem_map.1 h
    by_cases hk : kyOf n l = k
    · right
      rw [atF, fstK, if_pos hk]
      dsimp only
      by_cases hp : p = []
      · rw [if_pos hp]; rfl
      · rw [if_neg hp]
        have : u ++ [k] ++ p ∈ evP (u ++ [k]) s := by
          rw [flsL_cons] at hx
          rcases List.mem_cons.1 hx with rfl | hx
          · exfalso
            simp only [hk] at hxp
            have := congrArg List.length hxp
            simp only [List.length_append, List.length_cons, List.length_nil] at this
            exact hp (List.eq_nil_of_length_eq_zero (by omega))
          · rcases List.mem_append.1 hx with hx | hx
            · rw [hk] at hx
              exact List.mem_map.2 ⟨x, hx, by rw [hxp]; simp⟩
            · exfalso
              have := fls_rest_pre (u := u) (k := k) (fun q hq => by rw [← hk]; exact byK_ne (h3 q hq)) hx
              rw [hxp] at this
              exact this ⟨p, by simp⟩
        exact (pl_of s (u ++ [k]) p (d + 1) h2 this).resolve_left hp
    · have : u ++ k :: p ∈ evP u r := by
        rcases (fls_node u n l s r x).1 hx with hx | hx
        · exfalso
          have := fls_one_pre hx
          rw [hxp, pre_cons] at this
          exact hk this
        · exact List.mem_map.2 ⟨x, hx, hxp⟩
      have hr := (pl_of r u (k :: p) d h4 this).resolve_left (by simp)
      right
      rw [atF] at hr ⊢
      rw [fstK, if_neg hk]
      exact hr
theorem drop_is {y : Fo} {q : List Ky} (hy : chkY y = 0) (hq : q ∈ evP [] y) : dropE y q = 0 ∧ dropY y q = rmF q y ∧ OkG 0 (rmF q y) ∧ flsL [] (rmF q y) = drP q (flsL [] y) := by
  have hok := chk_okG hy
  have hqn : q ≠ [] := by
    obtain ⟨x, hx, rfl⟩ := List.mem_map.1 hq
    exact flsL_ne x hx
  have hmem := rmF_mem q y [] 0 hok hqn (pl_of y [] q 0 hok (by simpa using hq))
  have hok2 := rmF_okG q hok
  have hE : dropE y q = 0 := by
    rw [dropE, if_neg (by simp [hy]), if_pos]
    rw [fnd_rfd (fls_srt hy)]
    exact rfd_iff.2 hq
  have hfl : flsL [] (rmF q y) = drP q (flsL [] y) := by
    refine srt_ext ((ordG_srt _ 0 none [] (okG_ord _ 0 none hok2 (fun q hq => by cases hq))).1) ((fls_srt hy).sublist List.filter_sublist) fun x => ?_
    rw [hmem x, drP_mem]
    simp
  refine ⟨hE, ?_, hok2, hfl⟩
  rw [dropY, if_pos hE, ← hfl, treF_flsL]
theorem cnt_drP {y : Fo} {q : List Ky} (hy : chkY y = 0) (hq : q ∈ evP [] y) : (rmF q y).cnt + 1 ≤ y.cnt := by
  obtain ⟨_, _, _, h4⟩ := drop_is hy hq
  rw [← flsL_length [] (rmF q y), ← flsL_length [] y, h4]
  obtain ⟨x, hx, rfl⟩ := List.mem_map.1 hq
  have : (drP x.p (flsL [] y)).length < (flsL [] y).length := by
    refine List.length_filter_lt_length_iff_exists.2 ⟨x, hx, ?_⟩
    simp
  omega
theorem rfd_mem {x : Fl} : ∀ {L : List Fl}, Srt L → x ∈ L → rfd L x.p = some x
  | [], _, h => by cases h
  | y :: L, hs, h => by
    obtain ⟨h1, h2⟩ := List.pairwise_cons.1 hs
    rw [rfd, List.find?_cons]
    rcases List.mem_cons.1 h with rfl | h
    · simp
    · have hne : ¬ y.p = x.p := (fun e => by have h2 := h1 x h; rw [e, cmpP_ord.refl] at h2; omega)
      simp only [hne, decide_false]
      exact rfd_mem h2 h
theorem okF_names : ∀ (y : Fo) (d : Nat) (u : List Ky), OkF d y → ∀ x ∈ flsL u y, ∃ v k, x.p = u ++ v ++ [k] ∧ k.n ∈ nmz ∧ v.length + d ≤ 3
  | .nil, _, _, _, x, hx => by simp [flsL_nil] at hx
  | .cons n l s r, d, u, ⟨h1, h2, h3, h4, h5, h6, h7⟩, x, hx => by
    rw [flsL_cons] at hx
    rcases List.mem_cons.1 hx with rfl | hx
    · exact ⟨[], kyOf n l, by simp, by rw [kyOf_n]; exact h2, by simp; omega⟩
    · rcases List.mem_append.1 hx with hx | hx
      · obtain ⟨v, k, h, hk, hv⟩ := okF_names s (d + 1) _ h5 x hx
        exact ⟨kyOf n l :: v, k, by rw [h]; simp, hk, by simp; omega⟩
      · exact okF_names r d u h7 x hx
theorem put_new {y : Fo} {p : List Ky} {n : List UInt8} {l : List Int} (hy : OkG 0 y) (hp : Pl y p) (hn : p ++ [kyOf n l] ∉ evP [] y) (hcl : Clo (flsL [] y)) : ∀ x, x ∈ flsL [] (putF n l .nil p y) ↔ x = ⟨p ++ [kyOf n l], l⟩ ∨ x ∈ flsL [] y := by
  intro x
  rw [putF_mem p y [] 0 hy hp x]
  simp only [List.nil_append, flsL_cons, flsL_nil, List.append_nil, List.mem_singleton]
  refine or_congr_right (and_iff_left_of_imp fun hx hpre => ?_)
  have key : ∀ (m : Nat) (x : Fl), x.p.length ≤ m → x ∈ flsL [] y → ∀ q, q ≠ [] → q <+: x.p → q ∈ evP [] y := by
    intro m
    induction m with
    | zero => intro x hl hx q hq hpre; exact absurd (List.eq_nil_of_length_eq_zero (by have := hpre.length_le; omega)) hq
    | succ m ih =>
      intro x hl hx q hq hpre
      by_cases he : q = x.p
      · rw [he]; exact List.mem_map.2 ⟨x, hx, rfl⟩
      · have hlt : q.length < x.p.length := by
          rcases Nat.lt_or_ge q.length x.p.length with h | h
          · exact h
          · exact absurd (hpre.eq_of_length_le h) he
        have hq' : q <+: x.p.dropLast := by
          rw [List.prefix_iff_eq_take] at hpre ⊢
          rw [List.dropLast_eq_take, List.take_take, Nat.min_eq_left (by omega)]
          exact hpre
        have hne : x.p.dropLast ≠ [] := fun e => by
          rw [e] at hq'
          exact hq (List.prefix_nil.1 hq')
        obtain ⟨z, hz, hzp⟩ := hcl x hx hne
        refine ih z (by rw [hzp, List.length_dropLast]; omega) hz q hq (by rw [hzp]; exact hq')
  exact hn (key _ x (Nat.le_refl _) hx _ (by simp) hpre)
theorem putR_len {x : Fl} : ∀ {l : List Fl}, (putR x l).length = l.length + 1
  | [] => rfl
  | z :: l => by
    rw [putR]
    split
    · simp
    · simp [putR_len (x := x) (l := l)]
theorem put_is {y : Fo} {p : List Ky} {n : List UInt8} {l : List Int} (hy : chkY y = 0) (hp : p ∈ evP [] y) (hn : p ++ [kyOf n l] ∉ evP [] y) (hd : OkG p.length (.cons n l .nil .nil)) :
    OkG 0 (putF n l .nil p y) ∧ (∀ x, x ∈ flsL [] (putF n l .nil p y) ↔ x = ⟨p ++ [kyOf n l], l⟩ ∨ x ∈ flsL [] y) ∧ (putF n l .nil p y).cnt = y.cnt + 1 ∧ putE y p n l .nil = if y.cnt + 1 ≤ 60 then 0 else 2 := by
  have hok := chk_okG hy
  have hpl := pl_of y [] p 0 hok (by simpa using hp)
  have hmem := put_new (n := n) (l := l) hok hpl hn clo_fls
  have hok2 := putF_okG (n := n) (l := l) (s := .nil) p y 0 hok (by simpa using hd)
  have hcnt : (putF n l .nil p y).cnt = y.cnt + 1 := by
    have hle := putF_cnt (n := n) (l := l) (s := .nil) p y
    simp only [Fo.cnt] at hle
    have hs := (ordG_srt _ 0 none [] (okG_ord _ 0 none hok2 (fun q hq => by cases hq))).1
    have he : flsL [] (putF n l .nil p y) = putR ⟨p ++ [kyOf n l], l⟩ (flsL [] y) := by
      refine srt_ext hs (putR_srt (fls_srt hy) hn) fun x => ?_
      rw [hmem x, putR_mem]
    have := congrArg List.length he
    rw [putR_len, flsL_length, flsL_length] at this
    omega
  refine ⟨hok2, hmem, hcnt, ?_⟩
  have hp0 : p ≠ [] := by
    obtain ⟨x, hx, rfl⟩ := List.mem_map.1 hp
    exact flsL_ne x hx
  have hat := hpl.resolve_left hp0
  rw [putE, if_neg (by simp [hy]), if_neg (by rintro ⟨h, _⟩; rw [Option.isNone_iff_eq_none] at h; rw [h] at hat; cases hat), if_neg (by simp [Fo.cnt]), okG_chk hok2, hcnt]
end Go.Proofs.LF
namespace Go.Proofs.LF
open Go.RowKit Go.Sort
set_option maxHeartbeats 4000000
set_option maxRecDepth 100000
attribute [local go_sem] bs_toList bs_size bs_get
def nsAt (y : Fo) (r : List Ky) : List Int := ((rfd (flsL [] y) r).map Fl.l).getD []
def isAt (y : Fo) (r : List Ky) : Bool := (rfd (flsL [] y) r).isSome
theorem idx_rfd (L : List Fl) (r : List Ky) {n : Nat} (hn : n = L.length) : (idxN (fun i => decide ((L.map Fl.p).getD i [] = r)) n = -1 ∧ rfd L r = none) ∨ ∃ (k : Nat) (hk : k < L.length), idxN (fun i => decide ((L.map Fl.p).getD i [] = r)) n = k ∧ rfd L r = some L[k] := by
  subst hn
  cases h : rfd L r with
  | none =>
    left
    refine ⟨idxN_none fun i hi => ?_, rfl⟩
    rw [rfd, List.find?_eq_none] at h
    have := h L[i] (List.getElem_mem hi)
    simpa [List.getD_eq_getElem?_getD, hi] using this
  | some x =>
    right
    rw [rfd, List.find?_eq_some_iff_getElem] at h
    obtain ⟨h1, i, hi, h2, h3⟩ := h
    refine ⟨i, hi, idxN_found (fun j hj => ?_) hi ?_, by rw [h2]⟩
    · have := h3 j hj
      simpa [List.getD_eq_getElem?_getD, show j < L.length by omega] using this
    · have := h1
      rw [← h2] at this
      simpa [List.getD_eq_getElem?_getD, hi] using this
theorem path_length_le {up : List Ky} {y : Fo} {p : List Ky} (h : p ∈ evP up y) : p.length ≤ up.length + y.cnt := by
  have key : ∀ (y : Fo) (up : List Ky), ∀ x ∈ flsL up y, x.p.length ≤ up.length + y.cnt := by
    intro y
    induction y with
    | nil => intro up x hx; cases hx
    | cons n l s r ihs ihr =>
      intro up x hx
      rw [flsL_cons, List.mem_cons, List.mem_append] at hx
      simp only [Fo.cnt]
      rcases hx with rfl | hx | hx
      · simp; omega
      · have := ihs _ x hx; simp at this; omega
      · have := ihr _ x hx; omega
  rw [evP, List.mem_map] at h
  obtain ⟨x, hx, rfl⟩ := h
  exact key y up x hx
theorem atY_any (y : Fo) (q : List Ky) (a aq : Option Addr) (c cq : Nat) (S T : Nat → Prop) (w : World) (hv : FSl S w (.slice a y.len c) y) (hq : Pth T w (.slice aq q.length cq) q) (hS : ∀ b, S b → b < w.heap.size) (hT : ∀ b, T b → b < w.heap.size) (hlen : y.len ≤ 1000) (hsm : y.Sm) (hcnt : y.cnt ≤ 900) (lq : q.length ≤ 1000) :
    Calls Tryz.prog 44 #[.slice a y.len c, .slice aq q.length cq] w fun e w' => ∃ a1 c1, e = .returned (.tuple #[.slice a1 (nsAt y q).length c1, .bool (isAt y q)]) ∧ Ints S w' (.slice a1 (nsAt y q).length c1) (nsAt y q) ∧ Below w.heap.size w w' := by
  have hnil : Pth (fun _ => False) (w.alloc (.cells #[.slice aq q.length cq] 65)) (.slice none ([] : List Ky).length 0) [] := ⟨rfl, none, 0, rfl, Nat.le_refl _, by simp [maxLen], fun _ => rfl, .inl rfl⟩
  have BA := (Below.refl w.heap.size w).alloc (Nat.le_refl _) (.cells #[.slice aq q.length cq] 65)
  have ALL := hid (all_all (y.cnt + 1) y [] a c none 0 S (fun _ => False) (w.alloc (.cells #[.slice aq q.length cq] 65)) (Nat.lt_succ_self _) (hv.agree (Agree.of_below BA hS)) hnil (fun b hb => by have := hS b hb; simp; omega) (fun _ h => h.elim) hlen hsm (by simp; omega))
  have hcell := hid (cells_get (heap_alloc_new w (.cells #[.slice aq q.length cq] 65)) (k := 0) (v := .slice aq q.length cq) rfl)
  have BA := hid BA
  have HQ := hid hq
  clear hq hnil hv
  go_enter Tryz.func44, Tryz.ntmps44
  go_wp2_with fail
  refine ALL.out.mono ?_
  rintro e w1 ⟨a1, c1, a2, c2, rfl, ⟨T1, cs, es, X⟩, hb1⟩
  have B1 := hid (BA.out.trans (hb1.mono (by simp)))
  have hz1 := hb1.size
  simp only [World.size_alloc] at hz1
  have hpl := evP_length [] y
  have hnl := evN_length [] y
  have hpas := X.pas
  have hc1 := below_cell hb1 (by simp) hcell.out
  have IDX := idxK_any (evP [] y) q a1 aq c1 cq w.heap.size (Rg w.heap.size w1.heap.size) T w1 (by rw [hpl]; exact hpas.wide fun b hb => ⟨by have := hb.1; simp at this; omega, hb.2⟩) (fun b hb => hb.2) (HQ.out.agree (Agree.of_below B1.out hT)) (fun b hb => by have := hT b hb; omega) (by omega) hc1 (by omega) (fun p hp => by have := path_length_le hp; simp at this; omega) lq
  rw [hpl] at IDX
  have hrf := idx_rfd (flsL [] y) q (n := y.cnt) (flsL_length [] y).symm
  obtain ⟨ix, hix⟩ : ∃ ix, idxN (fun i => decide ((evP [] y).getD i [] = q)) y.cnt = ix := ⟨_, rfl⟩
  rw [hix] at IDX
  have hrf' : (ix = -1 ∧ rfd (flsL [] y) q = none) ∨ ∃ (k : Nat) (hk : k < (flsL [] y).length), ix = k ∧ rfd (flsL [] y) q = some (flsL [] y)[k] := by rw [← hix]; exact hrf
  have HRF := hid hrf'
  clear hrf hrf' hix
  have IDX := hid IDX
  have X := hid X
  have HB1 := hid hb1
  clear hb1 hpas hc1
  go_wp2_with fail
  refine IDX.out.mono ?_
  rintro e w2 ⟨rfl, hb2⟩
  have B2 := hid (B1.out.trans (hb2.mono (by omega)))
  rcases HRF.out with ⟨h1, h2⟩ | ⟨k, hk, h1, h2⟩
  · subst h1
    have H2 := hid h2
    clear h2 HRF
    go_wp2_with fail
    have e1 : nsAt y q = [] := by rw [nsAt, H2.out]; rfl
    have e2 : isAt y q = false := by rw [isAt, H2.out]; rfl
    rw [e1, e2]
    exact bodyPost_ret (v := .tuple #[.slice none 0 0, .bool false]) (by simp [results, Tryz.results44, go_sem]) rfl ⟨none, 0, rfl, ⟨rfl, none, 0, rfl, Nat.le_refl _, by simp [maxLen], fun _ => rfl, .inl rfl⟩, B2.out⟩
  · subst h1
    have H2 := hid h2
    clear h2 HRF
    have e1 : nsAt y q = (flsL [] y)[k].l := by rw [nsAt, H2.out]; rfl
    have e2 : isAt y q = true := by rw [isAt, H2.out]; rfl
    obtain ⟨hx1, hx2, hx3, hx4, hx5, hx6⟩ := X.out
    have hkn : k < (evN [] y).length := by rw [hnl]; rwa [flsL_length] at hk
    have hls : LSl rdIs (fun b => S b ∨ Rg w.heap.size w1.heap.size b) w1 (.slice a2 y.cnt c2) (evN [] y) := ⟨es, (SlC.of_owns hx3).wide fun b hb => .inr ⟨by have := hb.1; simp at this; omega, hb.2⟩, hx4.wide fun b hb => .inl hb⟩
    obtain ⟨a3, c3, he3, hle3, hm3, hat3⟩ := hls.at
    rw [hnl] at he3
    cases he3
    obtain ⟨g, o, cv, rfl, hg, ⟨a4, c4, rfl, hI⟩, hcl⟩ := hat3 k hkn
    have hgl : g < w1.heap.size := by
      rcases hg with hg | hg
      · have := hS g hg; omega
      · exact hg.2
    have hnk : (evN [] y)[k] = (flsL [] y)[k].l := by simp [evN]
    rw [hnk] at hcl hI
    have hd0 : w2.cell? ⟨g, o + k, none⟩ = some (.slice a4 (flsL [] y)[k].l.length c4) := below_cell hb2 hgl (by have := hcl 0 _ rfl; simpa using this)
    have hI4 : Ints S w1 (.slice a4 (flsL [] y)[k].l.length c4) (flsL [] y)[k].l := by
      have hlc := hx4.drop (i := k)
      rw [List.drop_eq_getElem_cons hkn] at hlc
      obtain ⟨cc, ee, hee, ⟨a5, c5, rfl, h5⟩, _⟩ := hlc
      have := hcl 0 _ rfl
      have e0 : es[k]? = some (.slice a5 (evN [] y)[k].length c5) := by
        have := congrArg (fun l => l[0]?) hee
        simpa [List.getElem?_drop] using this
      have e1 : w1.cell? ⟨g, o + k, none⟩ = some (.slice a5 (evN [] y)[k].length c5) := by
        rw [hnl] at hx3
        obtain ⟨g', o', he', _, _, _, hcc⟩ := (SlC.of_owns hx3).cells (by rw [hnl] at hkn; omega)
        cases he'
        exact hcc k _ e0
      have e2 : w1.cell? ⟨g, o + k, none⟩ = some (.slice a4 (flsL [] y)[k].l.length c4) := by simpa using this
      rw [e2] at e1
      simp only [hnk] at e1 h5
      injection e1 with e1
      injection e1 with e1 _ e3
      rw [e1, e3]
      exact h5
    have HI := hid (hI4.agree (Agree.of_below hb2 fun b hb => by have := hS b hb; omega))
    obtain ⟨N, hN⟩ : ∃ N, (flsL [] y)[k].l = N := ⟨_, rfl⟩
    rw [hN] at hd0 HI e1
    have hk' : k < y.cnt := by rwa [flsL_length] at hk
    clear hcl hx1 hx2 hx3 hx4 hx5 hx6 hls hat3 hI hI4 hnk hkn IDX
    go_wp2_with fail
    rw [e1, e2]
    exact bodyPost_ret (v := .tuple #[.slice a4 N.length c4, .bool true]) (by simp [results, Tryz.results44, go_sem]) rfl ⟨a4, c4, rfl, HI.out, B2.out⟩
end Go.Proofs.LF
namespace Go.Proofs.LF
open Go.RowKit Go.Sort
theorem keys_take (p : List Ky) (b : Nat) (h : b ≤ p.length) : (p.flatMap Ky.cells).take (b * 3) = (p.take b).flatMap Ky.cells := by
  have h2 : p.flatMap Ky.cells = (p.take b).flatMap Ky.cells ++ (p.drop b).flatMap Ky.cells := by rw [← List.flatMap_append, List.take_append_drop]
  rw [h2, List.take_left' (by rw [len_keys, List.length_take, Nat.min_eq_left h])]
theorem Pth.pre {S : Nat → Prop} {w : World} {p : List Ky} {a : Option Addr} {c b : Nat} (hp : Pth S w (.slice a p.length c) p) (h : b ≤ p.length) : Pth S w (.slice a b c) (p.take b) := by
  have := SlC.pre (k := 3) (m := b) hp h
  unfold Pth
  rw [List.length_take, Nat.min_eq_left h, ← keys_take p b h]
  exact this
end Go.Proofs.LF
