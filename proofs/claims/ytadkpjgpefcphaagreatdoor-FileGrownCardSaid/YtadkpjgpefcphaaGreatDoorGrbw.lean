/- Parts of the proof of a law of layer 11 (file): LfGw, LfC84, LfW84. The conditions stand in each theorem. -/
import Derived.BigQuiet
import Derived.Deep.AppendLies
import Derived.Deep.Cut
import Derived.Deep.CutBlock
import Derived.Deep.CutRange
import Derived.Deep.QuietTactic
import Derived.Deep.RegionHeld3
import Derived.Laws.ResultCell
import Derived.Outline
import Derived.Test.YtadkpjgpefcphaaGreatDoorProg
import Derived.WalkKit
import Derived.WalkLawsBesides
import Derived.WalkSpells
import Derived.Test.YtadkpjgpefcphaaGreatDoorGran
import Derived.Test.YtadkpjgpefcphaaGreatDoorGrbm
import Derived.Test.YtadkpjgpefcphaaGreatDoorGrbn
import Derived.Test.YtadkpjgpefcphaaGreatDoorGrbt
import Derived.Test.YtadkpjgpefcphaaGreatDoorGrbu
import Derived.Test.YtadkpjgpefcphaaGreatDoorGrbv
set_option linter.all false
set_option linter.unusedVariables false
set_option linter.unusedSimpArgs false
namespace Go.Proofs.LF
def rmK (k : Ky) : Fo → Fo
  | .nil => .nil
  | .cons n l s r => if kyOf n l = k then r else .cons n l s (rmK k r)
def rmF : List Ky → Fo → Fo
  | [], y => y
  | [k], y => rmK k y
  | k :: k' :: r, y => modK k (rmF (k' :: r)) y
theorem drP_mem {q : List Ky} {l : List Fl} {x : Fl} : x ∈ drP q l ↔ x ∈ l ∧ ¬ q <+: x.p := by
  rw [drP, List.mem_filter]
  refine and_congr_right fun _ => ?_
  rw [Bool.not_eq_true', Bool.and_eq_false_iff, decide_eq_false_iff_not, decide_eq_false_iff_not]
  constructor
  · rintro h hp
    rcases h with h | h
    · exact h hp.length_le
    · exact h (List.prefix_iff_eq_take.1 hp).symm
  · intro h
    right
    exact fun e => h (List.prefix_iff_eq_take.2 e.symm)
theorem rmK_mem {k : Ky} {u : List Ky} {d : Nat} : ∀ (y : Fo), OkG d y → ∀ x, x ∈ flsL u (rmK k y) ↔ x ∈ flsL u y ∧ ¬ (u ++ [k]) <+: x.p
  | .nil, _, x => by simp [rmK, flsL_nil]
  | .cons n l s r, ⟨_, _, h3, h4⟩, x => by
    simp only [rmK]
    by_cases hk : kyOf n l = k
    · rw [if_pos hk, fls_node u n l s r]
      constructor
      · intro h
        exact ⟨.inr h, fls_rest_pre (fun q hq => by rw [← hk]; exact byK_ne (h3 q hq)) h⟩
      · rintro ⟨h | h, h'⟩
        · exact absurd (hk ▸ fls_one_pre h) h'
        · exact h
    · rw [if_neg hk, fls_node, rmK_mem r h4 x, fls_node u n l s r]
      constructor
      · rintro (h | ⟨h, h'⟩)
        · refine ⟨.inl h, ?_⟩
          obtain ⟨j, hj, t, hp⟩ := fls_top _ _ x h
          simp only [tops, List.mem_cons, List.not_mem_nil, or_false] at hj
          rw [hp, pre_cons, hj]
          exact fun e => hk e.symm
        · exact ⟨.inr h, h'⟩
      · rintro ⟨h | h, h'⟩
        · exact .inl h
        · exact .inr ⟨h, h'⟩
theorem rmK_tops {k : Ky} : ∀ {y : Fo} {j : Ky}, j ∈ tops (rmK k y) → j ∈ tops y
  | .nil, _, h => h
  | .cons n l s r, j, h => by
    simp only [rmK] at h
    split at h
    · simp [tops, h]
    · rcases List.mem_cons.1 h with h | h
      · simp [tops, h]
      · simp [tops, rmK_tops h]
theorem rmK_okG {k : Ky} : ∀ {y : Fo} {d : Nat}, OkG d y → OkG d (rmK k y)
  | .nil, _, _ => trivial
  | .cons n l s r, d, ⟨h1, h2, h3, h4⟩ => by
    simp only [rmK]
    split
    · exact h4
    · exact ⟨h1, h2, fun j hj => h3 j (rmK_tops hj), rmK_okG h4⟩
theorem rmF_okG : ∀ (q : List Ky) {y : Fo} {d : Nat}, OkG d y → OkG d (rmF q y)
  | [], _, _, h => h
  | [k], _, _, h => rmK_okG h
  | k :: k' :: r, y, d, h => by
    simp only [rmF]
    exact modK_okG (fun s hs => rmF_okG (k' :: r) hs) h
theorem rmF_mem : ∀ (q : List Ky) (y : Fo) (u : List Ky) (d : Nat), OkG d y → q ≠ [] → Pl y q → ∀ x, x ∈ flsL u (rmF q y) ↔ x ∈ flsL u y ∧ ¬ (u ++ q) <+: x.p
  | [], _, _, _, _, h, _, _ => absurd rfl h
  | [k], y, u, d, hy, _, _, x => by
    simp only [rmF]
    exact rmK_mem y hy x
  | k :: k' :: r, y, u, d, hy, _, hp, x => by
    obtain ⟨n', l', s', hf, hp'⟩ := pl_cons hp
    have hs' := (fstK_okG hy hf).1
    simp only [rmF]
    have := modK_mem (k := k) (f := rmF (k' :: r)) (new := []) (q := u ++ k :: k' :: r) (u := u) y hy (fun n2 l2 s2 h2 x => by
      rw [hf] at h2
      simp only [Option.some.injEq, Prod.mk.injEq] at h2
      obtain ⟨rfl, rfl, rfl⟩ := h2
      have := rmF_mem (k' :: r) s' (u ++ [k]) (d + 1) hs' (by simp) hp' x
      simpa using this) ⟨k' :: r, by simp⟩ (fun e => by
      have := congrArg List.length e
      simp at this) (by rw [hf]; rfl) x
    simpa using this
theorem pl_of : ∀ (y : Fo) (u p : List Ky) (d : Nat), OkG d y → u ++ p ∈ evP u y → Pl y p
  | y, u, [], d, _, _ => .inl rfl
  | .nil, u, k :: p, d, _, h => by simp [evP, flsL_nil] at h
  | .cons n l s r, u, k :: p, d, ⟨h1, h2, h3, h4⟩, h => by
    obtain ⟨x, hx, hxp⟩ := List.mem_map.1 h
    by_cases hk : kyOf n l = k
    · right
      rw [atF, fstK, if_pos hk]
      dsimp only
      by_cases hp : p = []
      · rw [if_pos hp]; rfl
      · rw [if_neg hp]
        have : u ++ [k] ++ p ∈ evP (u ++ [k]) s := by
          rw [flsL_cons] at hx
          rcases List.mem_cons.1 hx with rfl | hx
          · exfalso
            simp only [hk] at hxp
            have := congrArg List.length hxp
            simp only [List.length_append, List.length_cons, List.length_nil] at this
            exact hp (List.eq_nil_of_length_eq_zero (by omega))
          · rcases List.mem_append.1 hx with hx | hx
            · rw [hk] at hx
              exact List.mem_map.2 ⟨x, hx, by rw [hxp]; simp⟩
            · exfalso
              have := fls_rest_pre (u := u) (k := k) (fun q hq => by rw [← hk]; exact byK_ne (h3 q hq)) hx
              rw [hxp] at this
              exact this ⟨p, by simp⟩
        exact (pl_of s (u ++ [k]) p (d + 1) h2 this).resolve_left hp
    · have : u ++ k :: p ∈ evP u r := by
        rcases (fls_node u n l s r x).1 hx with hx | hx
        · exfalso
          have := fls_one_pre hx
          rw [hxp, pre_cons] at this
          exact hk this
        · exact List.mem_map.2 ⟨x, hx, hxp⟩
      have hr := (pl_of r u (k :: p) d h4 this).resolve_left (by simp)
      right
      rw [atF] at hr ⊢
      rw [fstK, if_neg hk]
      exact hr
theorem drop_is {y : Fo} {q : List Ky} (hy : chkY y = 0) (hq : q ∈ evP [] y) : dropE y q = 0 ∧ dropY y q = rmF q y ∧ OkG 0 (rmF q y) ∧ flsL [] (rmF q y) = drP q (flsL [] y) := by
  have hok := chk_okG hy
  have hqn : q ≠ [] := by
    obtain ⟨x, hx, rfl⟩ := List.mem_map.1 hq
    exact flsL_ne x hx
  have hmem := rmF_mem q y [] 0 hok hqn (pl_of y [] q 0 hok (by simpa using hq))
  have hok2 := rmF_okG q hok
  have hE : dropE y q = 0 := by
    rw [dropE, if_neg (by simp [hy]), if_pos]
    rw [fnd_rfd (fls_srt hy)]
    exact rfd_iff.2 hq
  have hfl : flsL [] (rmF q y) = drP q (flsL [] y) := by
    refine srt_ext ((ordG_srt _ 0 none [] (okG_ord _ 0 none hok2 (fun q hq => by cases hq))).1) ((fls_srt hy).sublist List.filter_sublist) fun x => ?_
    rw [hmem x, drP_mem]
    simp
  refine ⟨hE, ?_, hok2, hfl⟩
  rw [dropY, if_pos hE, ← hfl, treF_flsL]
theorem cnt_drP {y : Fo} {q : List Ky} (hy : chkY y = 0) (hq : q ∈ evP [] y) : (rmF q y).cnt + 1 ≤ y.cnt := by
  obtain ⟨_, _, _, h4⟩ := drop_is hy hq
  rw [← flsL_length [] (rmF q y), ← flsL_length [] y, h4]
  obtain ⟨x, hx, rfl⟩ := List.mem_map.1 hq
  have : (drP x.p (flsL [] y)).length < (flsL [] y).length := by
    refine List.length_filter_lt_length_iff_exists.2 ⟨x, hx, ?_⟩
    simp
  omega
theorem rfd_mem {x : Fl} : ∀ {L : List Fl}, Srt L → x ∈ L → rfd L x.p = some x
  | [], _, h => by cases h
  | y :: L, hs, h => by
    obtain ⟨h1, h2⟩ := List.pairwise_cons.1 hs
    rw [rfd, List.find?_cons]
    rcases List.mem_cons.1 h with rfl | h
    · simp
    · have hne : ¬ y.p = x.p := cmpP_ne (h1 x h)
      simp only [hne, decide_false]
      exact rfd_mem h2 h
theorem okF_names : ∀ (y : Fo) (d : Nat) (u : List Ky), OkF d y → ∀ x ∈ flsL u y, ∃ v k, x.p = u ++ v ++ [k] ∧ k.n ∈ nmz ∧ v.length + d ≤ 3
  | .nil, _, _, _, x, hx => by simp [flsL_nil] at hx
  | .cons n l s r, d, u, ⟨h1, h2, h3, h4, h5, h6, h7⟩, x, hx => by
    rw [flsL_cons] at hx
    rcases List.mem_cons.1 hx with rfl | hx
    · exact ⟨[], kyOf n l, by simp, by rw [kyOf_n]; exact h2, by simp; omega⟩
    · rcases List.mem_append.1 hx with hx | hx
      · obtain ⟨v, k, h, hk, hv⟩ := okF_names s (d + 1) _ h5 x hx
        exact ⟨kyOf n l :: v, k, by rw [h]; simp, hk, by simp; omega⟩
      · exact okF_names r d u h7 x hx
theorem put_new {y : Fo} {p : List Ky} {n : List UInt8} {l : List Int} (hy : OkG 0 y) (hp : Pl y p) (hn : p ++ [kyOf n l] ∉ evP [] y) (hcl : Clo (flsL [] y)) : ∀ x, x ∈ flsL [] (putF n l .nil p y) ↔ x = ⟨p ++ [kyOf n l], l⟩ ∨ x ∈ flsL [] y := by
  intro x
  rw [putF_mem p y [] 0 hy hp x]
  simp only [List.nil_append, flsL_cons, flsL_nil, List.append_nil, List.mem_singleton]
  refine or_congr_right (and_iff_left_of_imp fun hx hpre => ?_)
  have key : ∀ (m : Nat) (x : Fl), x.p.length ≤ m → x ∈ flsL [] y → ∀ q, q ≠ [] → q <+: x.p → q ∈ evP [] y := by
    intro m
    induction m with
    | zero => intro x hl hx q hq hpre; exact absurd (List.eq_nil_of_length_eq_zero (by have := hpre.length_le; omega)) hq
    | succ m ih =>
      intro x hl hx q hq hpre
      by_cases he : q = x.p
      · rw [he]; exact List.mem_map.2 ⟨x, hx, rfl⟩
      · have hlt : q.length < x.p.length := by
          rcases Nat.lt_or_ge q.length x.p.length with h | h
          · exact h
          · exact absurd (hpre.eq_of_length_le h) he
        have hq' : q <+: x.p.dropLast := by
          rw [List.prefix_iff_eq_take] at hpre ⊢
          rw [List.dropLast_eq_take, List.take_take, Nat.min_eq_left (by omega)]
          exact hpre
        have hne : x.p.dropLast ≠ [] := fun e => by
          rw [e] at hq'
          exact hq (List.prefix_nil.1 hq')
        obtain ⟨z, hz, hzp⟩ := hcl x hx hne
        refine ih z (by rw [hzp, List.length_dropLast]; omega) hz q hq (by rw [hzp]; exact hq')
  exact hn (key _ x (Nat.le_refl _) hx _ (by simp) hpre)
theorem putR_len {x : Fl} : ∀ {l : List Fl}, (putR x l).length = l.length + 1
  | [] => rfl
  | z :: l => by
    rw [putR]
    split
    · simp
    · simp [putR_len (x := x) (l := l)]
theorem put_is {y : Fo} {p : List Ky} {n : List UInt8} {l : List Int} (hy : chkY y = 0) (hp : p ∈ evP [] y) (hn : p ++ [kyOf n l] ∉ evP [] y) (hd : OkG p.length (.cons n l .nil .nil)) :
    OkG 0 (putF n l .nil p y) ∧ (∀ x, x ∈ flsL [] (putF n l .nil p y) ↔ x = ⟨p ++ [kyOf n l], l⟩ ∨ x ∈ flsL [] y) ∧ (putF n l .nil p y).cnt = y.cnt + 1 ∧ putE y p n l .nil = if y.cnt + 1 ≤ 60 then 0 else 2 := by
  have hok := chk_okG hy
  have hpl := pl_of y [] p 0 hok (by simpa using hp)
  have hmem := put_new (n := n) (l := l) hok hpl hn clo_fls
  have hok2 := putF_okG (n := n) (l := l) (s := .nil) p y 0 hok (by simpa using hd)
  have hcnt : (putF n l .nil p y).cnt = y.cnt + 1 := by
    have hle := putF_cnt (n := n) (l := l) (s := .nil) p y
    simp only [Fo.cnt] at hle
    have hs := (ordG_srt _ 0 none [] (okG_ord _ 0 none hok2 (fun q hq => by cases hq))).1
    have he : flsL [] (putF n l .nil p y) = putR ⟨p ++ [kyOf n l], l⟩ (flsL [] y) := by
      refine srt_ext hs (putR_srt (fls_srt hy) hn) fun x => ?_
      rw [hmem x, putR_mem]
    have := congrArg List.length he
    rw [putR_len, flsL_length, flsL_length] at this
    omega
  refine ⟨hok2, hmem, hcnt, ?_⟩
  have hp0 : p ≠ [] := by
    obtain ⟨x, hx, rfl⟩ := List.mem_map.1 hp
    exact flsL_ne x hx
  have hat := hpl.resolve_left hp0
  rw [putE, if_neg (by simp [hy]), if_neg (by rintro ⟨h, _⟩; rw [Option.isNone_iff_eq_none] at h; rw [h] at hat; cases hat), if_neg (by simp [Fo.cnt]), okG_chk hok2, hcnt]
theorem grown_join {y : Fo} {q p : List Ky} {n : List UInt8} {l : List Int} (hy : chkY y = 0) (hq : q ∈ evP [] y) (hp : p ∈ evP [] y) (hn : p ++ [kyOf n l] ∉ evP [] y) (hd : OkG p.length (.cons n l .nil .nil)) (hc : y.cnt + 1 ≤ 60) :
    (q <+: p → joE y (rmF q y) (putF n l .nil p y) = 0 ∧ joY y (rmF q y) (putF n l .nil p y) = rmF q y ∧ joP y (rmF q y) (putF n l .nil p y) = [p ++ [kyOf n l]]) ∧
    (¬ q <+: p → joE y (rmF q y) (putF n l .nil p y) = 0 ∧ joY y (rmF q y) (putF n l .nil p y) = putF n l .nil p (rmF q y) ∧ joP y (rmF q y) (putF n l .nil p y) = [] ∧ putE (rmF q y) p n l .nil = 0) := by
  obtain ⟨_, _, d3, d4⟩ := drop_is hy hq
  obtain ⟨m1, m2, m3, _⟩ := put_is hy hp hn hd
  have hcz := cnt_drP hy hq
  obtain ⟨Z, hZ⟩ : ∃ Z, rmF q y = Z := ⟨_, rfl⟩
  obtain ⟨M, hM⟩ : ∃ M, putF n l .nil p y = M := ⟨_, rfl⟩
  rw [hZ] at d3 d4 hcz ⊢
  rw [hM] at m1 m2 m3 ⊢
  have kz : chkY Z = 0 := by rw [okG_chk d3, if_pos (by omega)]
  have km : chkY M = 0 := by rw [okG_chk m1, if_pos (by omega)]
  obtain ⟨N, hN⟩ : ∃ N : Fl, (⟨p ++ [kyOf n l], l⟩ : Fl) = N := ⟨_, rfl⟩
  have hNp : N.p = p ++ [kyOf n l] := by rw [← hN]
  rw [hN] at m2
  rw [← hNp] at hn ⊢
  have sy := fls_srt hy
  have sz := fls_srt kz
  have sm := fls_srt km
  have hp0 : p ≠ [] := by
    obtain ⟨x, hx, rfl⟩ := List.mem_map.1 hp
    exact flsL_ne x hx
  have rfdOf : ∀ {L : List Fl}, Srt L → ∀ x ∈ L, rfd L x.p = some x := fun hs x hx => rfd_mem hs hx
  have rfdNo : ∀ {L : List Fl} {r : List Ky}, r ∉ L.map Fl.p → rfd L r = none := fun {L r} h => by
    cases hr : rfd L r with
    | none => rfl
    | some x => exact absurd (rfd_iff.1 (by rw [hr]; rfl)) h
  have ry : ∀ r, r ≠ N.p → rfd (flsL [] M) r = rfd (flsL [] y) r := fun r hr => by
    by_cases h : r ∈ (flsL [] y).map Fl.p
    · obtain ⟨x, hx, rfl⟩ := List.mem_map.1 h
      rw [rfdOf sm x ((m2 x).2 (.inr hx)), rfdOf sy x hx]
    · rw [rfdNo h, rfdNo]
      intro h'
      obtain ⟨x, hx, rfl⟩ := List.mem_map.1 h'
      rcases (m2 x).1 hx with rfl | hx
      · exact hr rfl
      · exact h (List.mem_map.2 ⟨x, hx, rfl⟩)
  have rN : rfd (flsL [] M) N.p = some N := rfdOf sm N ((m2 N).2 (.inl rfl))
  have zmem : ∀ x, x ∈ flsL [] Z ↔ x ∈ flsL [] y ∧ ¬ q <+: x.p := fun x => by rw [d4, drP_mem]
  have nz : N.p ∉ (flsL [] Z).map Fl.p := fun h => by
    obtain ⟨x, hx, he⟩ := List.mem_map.1 h
    exact hn (List.mem_map.2 ⟨x, ((zmem x).1 hx).1, he⟩)
  have eN : eqR (flsL [] y) (flsL [] Z) N.p = true := by
    unfold eqR; rw [rfdNo hn, rfdNo nz]
  have hcl : ∀ r, clB (flsL [] y) (flsL [] Z) (flsL [] M) r = false := fun r => by
    by_cases hr : r = N.p
    · rw [clB, hr, eN]; simp
    · have : eqR (flsL [] y) (flsL [] M) r = true := by
        unfold eqR; rw [ry r hr]; cases rfd (flsL [] y) r <;> simp
      rw [clB, this]; simp
  have hfr : ∀ r, r ≠ N.p → frR (flsL [] y) (flsL [] Z) (flsL [] M) r = rfd (flsL [] Z) r := fun r hr => by
    rw [frR, hcl r, if_neg (by simp)]
    split
    · rename_i h; rw [ry r hr]; exact rfd_same h
    · rfl
  have hfN : frR (flsL [] y) (flsL [] Z) (flsL [] M) N.p = some N := by
    rw [frR, hcl, if_neg (by simp), if_pos eN, rN]
  obtain ⟨J1, J2, J3, J4, J5, J6⟩ := join_spec hy kz km
  obtain ⟨J, hJ⟩ : ∃ J, joF y Z M = J := ⟨_, rfl⟩
  rw [hJ] at J1 J2 J3 J4 J5 J6
  have inY : ∀ r, r ∈ (flsL [] Z).map Fl.p → r ∈ evP [] y := fun r h => by
    obtain ⟨x, hx, rfl⟩ := List.mem_map.1 h
    exact List.mem_map.2 ⟨x, ((zmem x).1 hx).1, rfl⟩
  have clz : Clo (flsL [] Z) := clo_fls
  have cly : Clo (flsL [] y) := clo_fls
  have hJZ : ∀ (m : Nat) (r : List Ky), r.length ≤ m → r ≠ N.p → rfd J.1 r = rfd (flsL [] Z) r ∧ (r ∉ J.2) := by
    intro m
    induction m with
    | zero =>
      intro r hr hrN
      have hr0 : r = [] := List.eq_nil_of_length_eq_zero (by omega)
      have hno : ∀ (z : Fo), [] ∉ (flsL [] z).map Fl.p := fun z h => by
        obtain ⟨x, hx, he⟩ := List.mem_map.1 h
        exact flsL_ne x hx he
      subst hr0
      have := J6 [] (fun h => by rcases h with h | h | h <;> exact hno _ h)
      exact ⟨by rw [this.1, rfdNo (hno Z)], this.2⟩
    | succ m ih =>
      intro r hr hrN
      by_cases hin : r ∈ evP [] y ∨ r ∈ evP [] Z ∨ r ∈ evP [] M
      · obtain ⟨k1, k2⟩ := J5 r hin
        rw [kpR, hfr r hrN] at k1
        rw [nmR, hcl r, hfr r hrN] at k2
        cases hz : rfd (flsL [] Z) r with
        | none =>
          rw [hz] at k1 k2
          exact ⟨k1, fun h => by rcases k2.1 h with h | ⟨x, hx, _⟩ <;> simp at *⟩
        | some x =>
          rw [hz] at k1 k2
          have hxr := rfd_some hz
          have hab : ¬ (1 < r.length ∧ (rfd J.1 r.dropLast).isNone = true) := by
            rintro ⟨h1, h2⟩
            have hne : r.dropLast ≠ [] := fun e => by
              have := congrArg List.length e
              rw [List.length_dropLast] at this
              simp at this
              omega
            obtain ⟨z, hz1, hz2⟩ := clz x hxr.1 (by rw [hxr.2]; exact hne)
            rw [hxr.2] at hz2
            have hzN : r.dropLast ≠ N.p := fun e => nz (List.mem_map.2 ⟨z, hz1, hz2.trans e⟩)
            rw [(ih r.dropLast (by rw [List.length_dropLast]; omega) hzN).1] at h2
            have := rfd_iff.2 (List.mem_map.2 ⟨z, hz1, hz2⟩)
            rw [Option.isNone_iff_eq_none] at h2
            rw [h2] at this
            cases this
          simp only at k1
          rw [if_neg hab] at k1
          exact ⟨k1, fun h => by
            rcases k2.1 h with h | ⟨x', _, h⟩
            · simp at h
            · exact hab h⟩
      · have := J6 r hin
        exact ⟨by rw [this.1, rfdNo (fun h => hin (.inl (inY r h)))], this.2⟩
  have hpN : p ≠ N.p := fun e => by
    have := congrArg List.length e
    rw [hNp] at this
    simp at this
  have hdl : N.p.dropLast = p := by rw [hNp]; simp
  have hl1 : 1 < N.p.length := by
    have : p.length ≠ 0 := fun h => hp0 (List.eq_nil_of_length_eq_zero h)
    rw [hNp]; simp; omega
  have hJp := (hJZ p.length p (Nat.le_refl _) hpN).1
  have hinN : N.p ∈ evP [] y ∨ N.p ∈ evP [] Z ∨ N.p ∈ evP [] M := .inr (.inr (List.mem_map.2 ⟨N, (m2 N).2 (.inl rfl), rfl⟩))
  obtain ⟨n1, n2⟩ := J5 N.p hinN
  rw [kpR, hfN] at n1
  rw [nmR, hcl, hfN] at n2
  simp only [hdl, hJp] at n1
  have hpz : (rfd (flsL [] Z) p).isNone = true ↔ q <+: p := by
    rw [Option.isNone_iff_eq_none]
    constructor
    · intro h
      by_cases hpre : q <+: p
      · exact hpre
      · exfalso
        obtain ⟨x, hx, rfl⟩ := List.mem_map.1 hp
        rw [rfdOf sz x ((zmem x).2 ⟨hx, hpre⟩)] at h
        cases h
    · intro h
      refine rfdNo fun h' => ?_
      obtain ⟨x, hx, rfl⟩ := List.mem_map.1 h'
      exact ((zmem x).1 hx).2 h
  have n2' : N.p ∈ J.2 ↔ q <+: p := by
    rw [n2]
    constructor
    · rintro (h | ⟨x, hx, _, h⟩)
      · simp at h
      · rw [hdl, hJp] at h
        exact hpz.1 h
    · intro h
      exact .inr ⟨N, rfl, hl1, by rw [hdl, hJp]; exact hpz.2 h⟩
  have memJ : ∀ x, x ∈ J.1 ↔ rfd J.1 x.p = some x := fun x => ⟨rfdOf J1 x, fun h => (rfd_some h).1⟩
  have len60 : ∀ (W : Fo), J.1 = flsL [] W → W.cnt ≤ 60 → joE y Z M = 0 ∧ joY y Z M = W ∧ joP y Z M = J.2 := fun W hW hc => by
    have hE : joE y Z M = 0 := by
      rw [joE, if_neg (by simp [cpE, hy, kz, km]), hJ, hW, flsL_length, if_neg (by omega)]
    refine ⟨hE, ?_, ?_⟩
    · rw [joY, if_pos hE, hJ, hW, treF_flsL]
    · rw [joP, if_pos hE, hJ]
  constructor
  · intro hpre
    have hJ1 : J.1 = flsL [] Z := srt_ext J1 sz fun x => by
      by_cases hx : x.p = N.p
      · have h1 : rfd J.1 N.p = none := by rw [n1, if_pos ⟨hl1, hpz.2 hpre⟩]
        constructor
        · intro h
          have := (memJ x).1 h
          rw [hx, h1] at this
          cases this
        · intro h
          exact absurd (List.mem_map.2 ⟨x, h, hx⟩) nz
      · rw [memJ x, (hJZ x.p.length x.p (Nat.le_refl _) hx).1]
        exact ⟨fun h => (rfd_some h).1, rfdOf sz x⟩
    obtain ⟨a1, a2, a3⟩ := len60 Z hJ1 (by omega)
    refine ⟨a1, a2, a3.trans ?_⟩
    refine srtP_ext J4 (List.pairwise_singleton _ _) fun r => ?_
    rw [List.mem_singleton]
    by_cases hr : r = N.p
    · rw [hr]; simp [n2'.2 hpre]
    · simp [hr, (hJZ r.length r (Nat.le_refl _) hr).2]
  · intro hpre
    have hpz' : p ∈ evP [] Z := by
      obtain ⟨x, hx, rfl⟩ := List.mem_map.1 hp
      exact List.mem_map.2 ⟨x, (zmem x).2 ⟨hx, hpre⟩, rfl⟩
    obtain ⟨w1, w2, w3, w4⟩ := put_is (n := n) (l := l) kz hpz' (by rw [← hNp]; exact nz) hd
    rw [hN] at w2
    have kw : chkY (putF n l .nil p Z) = 0 := by rw [okG_chk w1, if_pos (by omega)]
    have hJ1 : J.1 = flsL [] (putF n l .nil p Z) := srt_ext J1 (fls_srt kw) fun x => by
      rw [w2 x]
      by_cases hx : x.p = N.p
      · have h1 : rfd J.1 N.p = some N := by rw [n1, if_neg (fun h => hpre (hpz.1 h.2))]
        rw [memJ x, hx, h1]
        constructor
        · intro h; left; exact (Option.some.inj h).symm
        · rintro (h | h)
          · rw [h]
          · exact absurd (List.mem_map.2 ⟨x, h, hx⟩) nz
      · rw [memJ x, (hJZ x.p.length x.p (Nat.le_refl _) hx).1]
        constructor
        · intro h; right; exact (rfd_some h).1
        · rintro (h | h)
          · exact absurd (by rw [h]) hx
          · exact rfdOf sz x h
    obtain ⟨a1, a2, a3⟩ := len60 _ hJ1 (by omega)
    refine ⟨a1, a2, a3.trans ?_, ?_⟩
    · refine srtP_ext J4 List.Pairwise.nil fun r => ?_
      by_cases hr : r = N.p
      · rw [hr]; simp [mt n2'.1 hpre]
      · simp [(hJZ r.length r (Nat.le_refl _) hr).2]
    · rw [w4, if_pos (by omega)]
end Go.Proofs.LF
namespace Go.Proofs.LF
open Go.RowKit Go.Sort
theorem paths_c (y : Fo) (a : Option Addr) (c : Nat) (W : World) (hy : In W (.slice a y.len c) y) (hb : Bd y) :
    Calls Tryz.prog 43 #[.slice a y.len c, .slice none 0 0] W fun e w' => ∃ a1 c1 a2 c2, e = .returned (.tuple #[.slice a1 y.cnt c1, .slice a2 y.cnt c2]) ∧ PaIn w' (.slice a1 y.cnt c1) (evP [] y) ∧ Below W.heap.size W w' :=
  (all_c y a c W hy hb).mono fun e w' ⟨a1, c1, a2, c2, cs, he, ⟨h0, h1, T, h2, h3⟩, hB⟩ => ⟨a1, c1, a2, c2, he, ⟨cs, by rw [← h0]; exact (SlC.of_owns h1).wide fun b hb => hb.2, h2.wide fun b hb => (h3 b hb).2.1⟩, hB⟩
theorem drop_c (y : Fo) (q : List Ky) (ay aq : Option Addr) (cy cq : Nat) (W : World) (hy : In W (.slice ay y.len cy) y) (hq : PtIn W (.slice aq q.length cq) q) (hb : Bd y) (lq : q.length ≤ 1000) {E : Int} {Z : Fo} (h : dropE y q = E ∧ dropY y q = Z) :
    Calls Tryz.prog 48 #[.slice ay y.len cy, .slice aq q.length cq] W fun e w' => ∃ a c, e = .returned (.tuple #[.slice a Z.len c, .int .i64 E]) ∧ In w' (.slice a Z.len c) Z ∧ Below W.heap.size W w' := by
  obtain ⟨rfl, rfl⟩ := h
  exact (Drop_any y q ay aq cy cq _ _ W hy (fun _ h => h) hq (fun _ h => h) hb.1 hb.2.1 hb.2.2 lq).mono fun e w' ⟨a, c, he, hF, hB⟩ => ⟨a, c, he, hF.wide fun b hb => hb.2, hB⟩
theorem put_c (y : Fo) (p : List Ky) (n : List UInt8) (l : List Int) (s : Fo) (ay ap an ab : Option Addr) (cy cp cn cb : Nat) (W : World) (hy : In W (.slice ay y.len cy) y) (hp : PtIn W (.slice ap p.length cp) p) (hI : IsIn W (.slice an l.length cn) l) (hF : In W (.slice ab s.len cb) s)
    (hb : Bd y) (lp : p.length ≤ 1000) (s1 : n.length ≤ 1000) (s2 : l.length ≤ 1000) (s3 : s.len ≤ 1000) (s4 : s.Sm) (s5 : s.cnt ≤ 800) {E : Int} {Z : Fo} (h : putE y p n l s = E ∧ putY y p n l s = Z) :
    Calls Tryz.prog 49 #[.slice ay y.len cy, .slice ap p.length cp, .agg #[.string (bs n), .slice an l.length cn, .slice ab s.len cb]] W fun e w' => ∃ a c, e = .returned (.tuple #[.slice a Z.len c, .int .i64 E]) ∧ In w' (.slice a Z.len c) Z ∧ Below W.heap.size W w' := by
  obtain ⟨rfl, rfl⟩ := h
  exact (Put_any y p n l s ay ap an ab cy cp cn cb _ _ _ W hy (fun _ h => h) hp (fun _ h => h) hI hF (fun _ h => h) hb.1 hb.2.1 hb.2.2 lp s1 s2 s3 s4 s5).mono fun e w' ⟨a, c, he, hF, hB⟩ => ⟨a, c, he, hF.fsl.wide fun b hb => hb.2, hB⟩
theorem equalP_c (y z : List (List Ky)) (ay az : Option Addr) (cy cz : Nat) (W : World) (hy : PaIn W (.slice ay y.length cy) y) (hz : PaIn W (.slice az z.length cz) z) (ly : y.length ≤ 1000) (lz : z.length ≤ 1000) (sy : ∀ p ∈ y, p.length ≤ 1000) (sz : ∀ p ∈ z, p.length ≤ 1000) {b : Bool} (h : decide (y = z) = b) :
    Calls Tryz.prog 52 #[.slice ay y.length cy, .slice az z.length cz] W fun e w' => e = .returned (.bool b) ∧ Below W.heap.size W w' := by
  subst h
  exact equalPaths_any y z ay az cy cz _ W hy hz (fun _ h => h) ly lz sy sz
theorem In.nil (W : World) (v : Value) (h : v = .slice none 0 0) : In W v .nil := by subst h; exact ⟨[], ⟨rfl, none, 0, rfl, Nat.le_refl _, by simp [maxLen], fun _ => rfl, .inl rfl⟩, rfl⟩
theorem IsIn.one {W : World} {b : Nat} {x : Int} {t : TypeId} (h : W.heap[b]? = some (.cells #[.int .i64 x] t (0, 0))) : IsIn W (.slice (some ⟨b, 0, none⟩) 1 1) [x] := by
  refine ⟨rfl, some ⟨b, 0, none⟩, 1, rfl, Nat.le_refl _, by simp [maxLen], (fun h => by cases h), .inr ⟨b, 0, rfl, (Array.getElem?_eq_some_iff.1 h).1, fun j u hj => ?_⟩⟩
  match j, hj with
  | 0, hj =>
    simp only [List.map_cons, List.map_nil, List.getElem?_cons_zero, Option.some.injEq] at hj
    subst hj
    exact cells_get h (k := 0) rfl
theorem PaIn.one {W : World} {b : Nat} {p : List Ky} {a : Option Addr} {c : Nat} {t : TypeId} (h : W.heap[b]? = some (.cells #[.slice a p.length c] t (0, 0))) (hp : PtIn W (.slice a p.length c) p) : PaIn W (.slice (some ⟨b, 0, none⟩) 1 1) [p] := by
  refine ⟨[.slice a p.length c], ⟨rfl, some ⟨b, 0, none⟩, 1, rfl, Nat.le_refl _, by simp [maxLen], (fun h => by cases h), .inr ⟨b, 0, rfl, (Array.getElem?_eq_some_iff.1 h).1, fun j u hj => ?_⟩⟩, LCs.single ⟨a, c, rfl, hp⟩⟩
  match j, hj with
  | 0, hj =>
    simp only [List.map_cons, List.map_nil, List.getElem?_cons_zero, Option.some.injEq] at hj
    subst hj
    exact cells_get h (k := 0) rfl
theorem PaIn.get {W : World} {v : Value} {ps : List (List Ky)} (h : PaIn W v ps) {k : Nat} (hk : k < ps.length) : ∃ g o c ap cp, v = .slice (some ⟨g, o, none⟩) ps.length c ∧ g < W.heap.size ∧ W.cell? ⟨g, o + k, none⟩ = some (.slice ap ps[k].length cp) ∧ PtIn W (.slice ap ps[k].length cp) ps[k] := by
  obtain ⟨a, c, rfl, _, _, hat⟩ := LSl.at h
  obtain ⟨g, o, cs, rfl, hg, ⟨ap, cp, rfl, hp⟩, hc⟩ := hat k hk
  have := hc 0 _ rfl
  rw [Nat.mul_one, Nat.add_zero] at this
  exact ⟨g, o, c, ap, cp, rfl, hg, this, hp⟩
theorem okG_sm : ∀ {y : Fo} {d : Nat}, OkG d y → y.cnt ≤ 1000 → y.Sm
  | .nil, _, _, _ => trivial
  | .cons n l s r, d, ⟨⟨_, h2, h3, _⟩, h5, _, h7⟩, hc => by
    simp only [Fo.cnt] at hc
    have := len_cnt s
    have hn : n.length ≤ 8 := by
      simp only [badNm, Bool.or_eq_false_iff, decide_eq_false_iff_not] at h2
      omega
    exact ⟨by omega, by omega, by omega, okG_sm h5 (by omega), okG_sm h7 (by omega)⟩
def nwN : List UInt8 := [110, 101, 119]
theorem grown_facts {y : Fo} {q p : List Ky} {ad : Int} (hy : chkY y = 0) (ho : OkF 1 y) (hq : q ∈ evP [] y) (hp : p ∈ evP [] y) (ha : 0 ≤ ad ∧ ad ≤ 255) : ∃ Z M E, (dropE y q = 0 ∧ dropY y q = Z) ∧ Bd Z ∧ (putE y p nwN [ad] .nil = E ∧ putY y p nwN [ad] .nil = M) ∧ (E = 0 ∨ E = 2 ∧ y.cnt = 60) ∧
    (E = 0 → Bd M ∧ ∃ Y P, (joE y Z M = 0 ∧ joY y Z M = Y ∧ joP y Z M = P) ∧ Bd Y ∧ (P.length ≤ 1000 ∧ ∀ r ∈ P, r.length ≤ 1000) ∧ (q <+: p → Y = Z ∧ P = [p ++ [kyOf nwN [ad]]]) ∧ (¬ q <+: p → P = [] ∧ putE Z p nwN [ad] .nil = 0 ∧ putY Z p nwN [ad] .nil = Y)) := by
  obtain ⟨x, hx, hxp⟩ := List.mem_map.1 hp
  obtain ⟨v, k, e1, e2, e3⟩ := okF_names y 1 [] ho x hx
  have hl3 : p.length ≤ 3 := by rw [← hxp, e1]; simp; omega
  have hn : p ++ [kyOf nwN [ad]] ∉ evP [] y := fun h => by
    obtain ⟨z, hz, hzp⟩ := List.mem_map.1 h
    obtain ⟨v', k', f1, f2, _⟩ := okF_names y 1 [] ho z hz
    rw [hzp, List.nil_append] at f1
    have f3 := List.append_inj_right' f1 rfl
    simp only [List.cons.injEq, and_true] at f3
    rw [← f3, kyOf_n] at f2
    exact absurd f2 (by decide)
  have hd : OkG p.length (.cons nwN [ad] .nil .nil) := ⟨⟨hl3, by decide, by simp, badNs_of (fun z hz => by simp only [List.mem_singleton] at hz; omega)⟩, trivial, (fun _ h => by cases h), trivial⟩
  obtain ⟨d1, d2, d3, _⟩ := drop_is hy hq
  have hcz := cnt_drP hy hq
  have hc60 := chk_cnt hy
  obtain ⟨m1, m2, m3, m4⟩ := put_is hy hp hn hd
  have kz : chkY (rmF q y) = 0 := by rw [okG_chk d3, if_pos (by omega)]
  have bd : ∀ {z : Fo}, chkY z = 0 → Bd z := fun {z} h => by
    have h1 := chk_cnt h
    have h2 := len_cnt z
    exact ⟨by omega, okG_sm (chk_okG h) (by omega), by omega⟩
  refine ⟨_, _, _, ⟨d1, d2⟩, bd kz, ⟨rfl, rfl⟩, ?_, fun h0 => ?_⟩
  · rw [m4]
    split
    · exact .inl rfl
    · exact .inr ⟨rfl, by omega⟩
  · have hc : y.cnt + 1 ≤ 60 := by
      rw [m4] at h0
      split at h0
      · assumption
      · cases h0
    have hM : putY y p nwN [ad] .nil = putF nwN [ad] .nil p y := by rw [putY, if_pos h0]
    have km : chkY (putF nwN [ad] .nil p y) = 0 := by rw [okG_chk m1, if_pos (by omega)]
    obtain ⟨g1, g2⟩ := grown_join hy hq hp hn hd hc
    rw [hM]
    refine ⟨bd km, _, _, ⟨?_, rfl, rfl⟩, ?_, ?_, fun h => ⟨(g1 h).2.1, (g1 h).2.2⟩, fun h => ⟨(g2 h).2.2.1, (g2 h).2.2.2, ?_⟩⟩
    · by_cases h : q <+: p
      · exact (g1 h).1
      · exact (g2 h).1
    · have hj : joE y (rmF q y) (putF nwN [ad] .nil p y) = 0 := by
        by_cases h : q <+: p
        · exact (g1 h).1
        · exact (g2 h).1
      exact joY_bd hy kz km ⟨hj, rfl, rfl⟩
    · exact joP_bd hy kz km ⟨rfl, rfl, rfl⟩
    · rw [putY, if_pos (g2 h).2.2.2]
      exact (g2 h).2.1.symm
theorem blP_iff {q p : List Ky} : q <+: p ↔ q.length ≤ p.length ∧ p.take q.length = q :=
  ⟨fun h => ⟨h.length_le, (List.prefix_iff_eq_take.1 h).symm⟩, fun h => List.prefix_iff_eq_take.2 h.2.symm⟩
theorem PtIn.snoc {W : World} {B c : Nat} {a : Option Addr} {p : List Ky} {k : Ky} (h : W.ownsRow B 71 3 (.slice a (p.length + 1) c) (p.length + 1) (p.flatMap Ky.cells ++ [.string (bs k.n), .bool k.h, .int .i64 k.x])) : PtIn W (.slice a (p ++ [k]).length c) (p ++ [k]) := by
  have h1 := SlC.of_owns h
  unfold PtIn Pth
  rw [List.length_append, List.flatMap_append]
  exact h1.wide fun b hb => hb.2
end Go.Proofs.LF
namespace Go.Proofs.LF
open Go.RowKit Go.Sort
set_option maxHeartbeats 4000000
set_option maxRecDepth 100000
attribute [local go_sem] bs_toList bs_size bs_get
theorem nw_bs : (⟨#[110, 101, 119]⟩ : ByteArray) = bs [110, 101, 119] := rfl
theorem FileGrown_any (l1 : List Int) (dr ad : Int) (i1 : Option Addr) (k1 : Nat) (w : World) (h1 : ByIn w (.slice i1 l1.length k1) l1) (hd : 0 ≤ dr ∧ dr ≤ 255) (ha : 0 ≤ ad ∧ ad ≤ 255) (ht : Pow w) :
    Calls Tryz.prog 7 #[.slice i1 l1.length k1, .int .u8 dr, .int .u8 ad] w fun e w' => e = .returned (.bool true) ∧ Below w.heap.size w w' := by
  have HT := hid ht
  have B1 := hid h1
  have BW := hid (Below.refl w.heap.size w)
  obtain ⟨hd0, hd1⟩ := hd
  obtain ⟨ha0, ha1⟩ := ha
  obtain ⟨i0, hi0, hz0, hz1, hz2⟩ := info_parts Tryz.info71'
  clear ht h1
  go_enter Tryz.func7, Tryz.ntmps7
  go_wp2_with fail
  refine (pile_c l1 i1 k1 w B1.out).mono ?_
  rintro e p1 ⟨rfl, hp⟩
  have HP := hid hp
  clear hp
  clear B1
  go_wp2_with fail
  refine (made1_c w p1 HP.out).mono ?_
  rintro e w1 ⟨y, ay, cy, rfl, hF, ho, hb⟩
  replace BW := hid (BW.out.trans (hb.mono BW.out.size))
  have Hy := hid hF
  have Oy := hid ho
  have ny := ho.2
  have BDy := hid (okF_bd (okF_down ho.1) (by omega))
  clear hF ho hb HP
  go_wp2_with fail
  refine (paths_c y ay cy w1 Hy.out BDy.out).mono ?_
  rintro e w2 ⟨a1, c1, a2, c2, rfl, hP, hb⟩
  replace Hy := hid (Hy.out.on hb)
  replace BW := hid (BW.out.trans (hb.mono BW.out.size))
  have HP := hid hP
  clear hP
  clear hb
  by_cases ky : y.cnt ≤ 60
  rotate_left
  · as_aux_lemma =>
      have e0 : ¬ (y.cnt : Int) = 0 := by omega
      have e0' : ¬ y.cnt = 0 := by omega
      go_wp2_with fail
      refine (checkE_c y ay cy w2 Hy.out BDy.out (okF_many2 (okF_down Oy.out.1) ky)).mono ?_
      rintro e x1_ ⟨rfl, hb⟩
      replace Hy := hid (Hy.out.on hb)
      replace HP := hid (HP.out.on hb)
      replace BW := hid (BW.out.trans (hb.mono BW.out.size))
      clear hb
      go_wp2_with fail
      refine (few_c y ay cy x1_ Hy.out (okF_down Oy.out.1) (by omega) (q := true) (by simp; omega)).mono ?_
      rintro e x2_ ⟨rfl, hb⟩
      replace Hy := hid (Hy.out.on hb)
      replace HP := hid (HP.out.on hb)
      replace BW := hid (BW.out.trans (hb.mono BW.out.size))
      clear hb
      go_wp2_with fail
      refine (awake_any x2_ (HT.out.below BW.out)).mono ?_
      rintro e z_ ⟨rfl, hb⟩
      replace Hy := hid (Hy.out.on hb)
      replace HP := hid (HP.out.on hb)
      replace BW := hid (BW.out.trans (hb.mono BW.out.size))
      clear hb
      go_wp2_with fail
      go_ret
      exact ⟨rfl, BW.out⟩
  have cky := okF_few (okF_down Oy.out.1) ky
  have CKy := hid cky
  clear cky
  go_wp2_with fail
  refine (checkE_c y ay cy w2 Hy.out BDy.out CKy.out).mono ?_
  rintro e w3 ⟨rfl, hb⟩
  replace Hy := hid (Hy.out.on hb)
  replace HP := hid (HP.out.on hb)
  replace BW := hid (BW.out.trans (hb.mono BW.out.size))
  clear hb
  by_cases e0 : y.cnt = 0
  · as_aux_lemma =>
      have e0' : (y.cnt : Int) = 0 := by omega
      go_wp2_with fail
      refine (awake_any w3 (HT.out.below BW.out)).mono ?_
      rintro e z_ ⟨rfl, hb⟩
      replace Hy := hid (Hy.out.on hb)
      replace HP := hid (HP.out.on hb)
      replace BW := hid (BW.out.trans (hb.mono BW.out.size))
      clear hb
      go_wp2_with fail
      go_ret
      exact ⟨rfl, BW.out⟩
  have hmr : ∀ z : Int, 0 ≤ z → ∃ k : Nat, k < y.cnt ∧ Int.tmod z y.cnt = k := fun z hz => ⟨z.toNat % y.cnt, Nat.mod_lt _ (by omega), by rw [Int.tmod_eq_emod_of_nonneg hz, Int.natCast_emod, Int.toNat_of_nonneg hz]⟩
  obtain ⟨kd, hkd, ed⟩ := hmr dr hd0
  obtain ⟨ka, hka, ea⟩ := hmr ad ha0
  have e0' : ¬ (y.cnt : Int) = 0 := by omega
  have hpl : (evP [] y).length = y.cnt := evP_length [] y
  have hps := HP.out
  obtain ⟨g1, o1, c1', ap1, cp1, ee, hg1, hc1, hp1⟩ := hps.get (k := kd) (by omega)
  obtain ⟨g2, o2, c2', ap2, cp2, ee', hg2, hc2, hp2⟩ := hps.get (k := ka) (by omega)
  rw [hpl] at ee ee'
  have ee1 : a1 = some ⟨g1, o1, none⟩ := by cases ee; rfl
  subst ee1
  have ee2 : g2 = g1 ∧ o2 = o1 := by cases ee'; exact ⟨rfl, rfl⟩
  obtain ⟨rfl, rfl⟩ := ee2
  have hq1 : (evP [] y)[kd] ∈ evP [] y := List.getElem_mem _
  have hq2 : (evP [] y)[ka] ∈ evP [] y := List.getElem_mem _
  obtain ⟨q, hq⟩ : ∃ q, (evP [] y)[kd] = q := ⟨_, rfl⟩
  obtain ⟨p, hp⟩ : ∃ p, (evP [] y)[ka] = p := ⟨_, rfl⟩
  rw [hq] at hc1 hp1 hq1
  rw [hp] at hc2 hp2 hq2
  have HQ := hid hp1
  have HPA := hid hp2
  have MQ := hid hq1
  have MP := hid hq2
  have lq : q.length ≤ 1000 := by have := path_length_le hq1; simp at this; omega
  have lp : p.length ≤ 1000 := by have := path_length_le hq2; simp at this; omega
  have hcc1 : w3.cell? ⟨g2, o2 + kd, none⟩ = some (.slice ap1 q.length cp1) := hc1
  have hcc2 : w3.cell? ⟨g2, o2 + ka, none⟩ = some (.slice ap2 p.length cp2) := hc2
  have hS0 : w3.cell? ⟨g2, o2 + kd, none⟩ = some (.slice ap1 q.length cp1) ∧ w3.cell? ⟨g2, o2 + ka, none⟩ = some (.slice ap2 p.length cp2) := ⟨hcc1, hcc2⟩
  have HS0 := hid hS0
  clear hmr ee ee' hps hc1 hc2 hp1 hp2 hq1 hq2 hq hp hS0 hcc1 hcc2 hpl
  go_upto_region 5 with fail
  have wd : IntKind.i64.wrap dr = dr := by rw [IntKind.wrap_i64]; omega
  have wa : IntKind.i64.wrap ad = ad := by rw [IntKind.wrap_i64]; omega
  have hkd' : (kd : Int) < (y.cnt : Int) := by omega
  have hka' : (ka : Int) < (y.cnt : Int) := by omega
  refine (wpIn_wide (n := 9)).1 ?_
  refine region_held (fun w' : World => w'.cell? ⟨g2, o2 + kd, none⟩ = some (.slice ap1 q.length cp1) ∧ w'.cell? ⟨g2, o2 + ka, none⟩ = some (.slice ap2 p.length cp2)) (by kernel_rfl) ?_
  have hS0 := HS0.out
  refine AnyH_takeD (fun _ => trivial) (by kernel_rfl) 0 48 (.slice (some ⟨g2, o2, none⟩) y.cnt c1) rfl rfl (by kernel_rfl) (by kernel_rfl) (by kernel_rfl) (fun _ _ _ h => h) (.inl ⟨by kernel_rfl, fun w' hs => ?_⟩) hS0 ?_
  · go_simp
  refine AnyH_takeD (fun _ => trivial) (by kernel_rfl) 1 49 (.int .u8 dr) rfl rfl (by kernel_rfl) (by kernel_rfl) (by kernel_rfl) (fun _ _ _ h => h) (.inl ⟨by kernel_rfl, fun w' hs => ?_⟩) hS0 ?_
  · go_simp
  refine AnyH_takeD (fun _ => trivial) (by kernel_rfl) 2 50 (.int .i64 dr) rfl rfl (by kernel_rfl) (by kernel_rfl) (by kernel_rfl) (fun _ _ _ h => h) (.inl ⟨by kernel_rfl, fun w' hs => ?_⟩) hS0 ?_
  · go_simp
  refine AnyH_takeD (fun _ => trivial) (by kernel_rfl) 3 51 (.slice (some ⟨g2, o2, none⟩) y.cnt c1) rfl rfl (by kernel_rfl) (by kernel_rfl) (by kernel_rfl) (fun _ _ _ h => h) (.inl ⟨by kernel_rfl, fun w' hs => ?_⟩) hS0 ?_
  · go_simp
  refine AnyH_takeD (fun _ => trivial) (by kernel_rfl) 4 52 (.int .i64 y.cnt) rfl rfl (by kernel_rfl) (by kernel_rfl) (by kernel_rfl) (fun _ _ _ h => h) (.inl ⟨by kernel_rfl, fun w' hs => ?_⟩) hS0 ?_
  · go_simp
  refine AnyH_takeD (fun _ => trivial) (by kernel_rfl) 5 53 (.int .i64 kd) rfl rfl (by kernel_rfl) (by kernel_rfl) (by kernel_rfl) (fun _ _ _ h => h) (.inl ⟨by kernel_rfl, fun w' hs => ?_⟩) hS0 ?_
  · go_simp
  refine AnyH_takeD (fun _ => trivial) (by kernel_rfl) 6 54 (.pointer (some ⟨g2, o2 + kd, none⟩)) rfl rfl (by kernel_rfl) (by kernel_rfl) (by kernel_rfl) (fun _ _ _ h => h) (.inl ⟨by kernel_rfl, fun w' hs => ?_⟩) hS0 ?_
  · go_simp
  refine AnyH_takeD (fun _ => trivial) (by kernel_rfl) 7 55 (.slice ap1 q.length cp1) rfl rfl (by kernel_rfl) (by kernel_rfl) (by kernel_rfl) (fun _ _ _ h => h) (.inl ⟨by kernel_rfl, fun w' hs => ?_⟩) hS0 ?_
  · obtain ⟨q0, q1⟩ := hs
    go_simp
  refine AnyH_takeD (fun _ => trivial) (by kernel_rfl) 8 56 (.slice (some ⟨g2, o2, none⟩) y.cnt c1) rfl rfl (by kernel_rfl) (by kernel_rfl) (by kernel_rfl) (fun _ _ _ h => h) (.inl ⟨by kernel_rfl, fun w' hs => ?_⟩) hS0 ?_
  · go_simp
  refine AnyH_takeD (fun _ => trivial) (by kernel_rfl) 9 57 (.int .u8 ad) rfl rfl (by kernel_rfl) (by kernel_rfl) (by kernel_rfl) (fun _ _ _ h => h) (.inl ⟨by kernel_rfl, fun w' hs => ?_⟩) hS0 ?_
  · go_simp
  refine AnyH_takeD (fun _ => trivial) (by kernel_rfl) 10 58 (.int .i64 ad) rfl rfl (by kernel_rfl) (by kernel_rfl) (by kernel_rfl) (fun _ _ _ h => h) (.inl ⟨by kernel_rfl, fun w' hs => ?_⟩) hS0 ?_
  · go_simp
  refine AnyH_takeD (fun _ => trivial) (by kernel_rfl) 11 59 (.slice (some ⟨g2, o2, none⟩) y.cnt c1) rfl rfl (by kernel_rfl) (by kernel_rfl) (by kernel_rfl) (fun _ _ _ h => h) (.inl ⟨by kernel_rfl, fun w' hs => ?_⟩) hS0 ?_
  · go_simp
  refine AnyH_takeD (fun _ => trivial) (by kernel_rfl) 12 60 (.int .i64 y.cnt) rfl rfl (by kernel_rfl) (by kernel_rfl) (by kernel_rfl) (fun _ _ _ h => h) (.inl ⟨by kernel_rfl, fun w' hs => ?_⟩) hS0 ?_
  · go_simp
  refine AnyH_takeD (fun _ => trivial) (by kernel_rfl) 13 61 (.int .i64 ka) rfl rfl (by kernel_rfl) (by kernel_rfl) (by kernel_rfl) (fun _ _ _ h => h) (.inl ⟨by kernel_rfl, fun w' hs => ?_⟩) hS0 ?_
  · go_simp
  refine AnyH_takeD (fun _ => trivial) (by kernel_rfl) 14 62 (.pointer (some ⟨g2, o2 + ka, none⟩)) rfl rfl (by kernel_rfl) (by kernel_rfl) (by kernel_rfl) (fun _ _ _ h => h) (.inl ⟨by kernel_rfl, fun w' hs => ?_⟩) hS0 ?_
  · go_simp
  refine AnyH_takeD (fun _ => trivial) (by kernel_rfl) 15 63 (.slice ap2 p.length cp2) rfl rfl (by kernel_rfl) (by kernel_rfl) (by kernel_rfl) (fun _ _ _ h => h) (.inl ⟨by kernel_rfl, fun w' hs => ?_⟩) hS0 ?_
  · obtain ⟨q0, q1⟩ := hs
    go_simp
  refine AnyH_takeD (fun _ => trivial) (by kernel_rfl) 16 10 (.slice ap1 q.length cp1) rfl rfl (by kernel_rfl) (by kernel_rfl) (by kernel_rfl) (fun _ _ _ h => h) (.inl ⟨by kernel_rfl, fun w' hs => ?_⟩) hS0 ?_
  · go_simp
  refine AnyH_takeD (fun _ => trivial) (by kernel_rfl) 17 11 (.slice ap2 p.length cp2) rfl rfl (by kernel_rfl) (by kernel_rfl) (by kernel_rfl) (fun _ _ _ h => h) (.inl ⟨by kernel_rfl, fun w' hs => ?_⟩) hS0 ?_
  · go_simp
  refine AnyH_done (by kernel_rfl) ?_
  go_simp
  clear hS0
  have hb := (Below.refl w3.heap.size w3).drew
  obtain ⟨w4, hw4⟩ : ∃ w', w3.drew = w' := ⟨_, rfl⟩
  rw [hw4] at hb ⊢
  clear hw4 HS0
  replace Hy := hid (Hy.out.on hb)
  replace HP := hid (HP.out.on hb)
  replace HQ := hid (HQ.out.on hb)
  replace HPA := hid (HPA.out.on hb)
  replace BW := hid (BW.out.trans (hb.mono BW.out.size))
  clear hb
  obtain ⟨Z, M, E, f1, f2, f3, f4, f5⟩ := grown_facts CKy.out Oy.out.1 MQ.out MP.out ⟨ha0, ha1⟩
  have F1 := hid f1
  have BDZ := hid f2
  have F3 := hid f3
  have F5 := hid f5
  clear f1 f2 f3 f5
  go_wp2_with fail
  refine (drop_c y q ay ap1 cy cp1 w4 Hy.out HQ.out BDy.out lq F1.out).mono ?_
  rintro e w5 ⟨aZ, cZ, rfl, hF, hb⟩
  replace Hy := hid (Hy.out.on hb)
  replace HP := hid (HP.out.on hb)
  replace HQ := hid (HQ.out.on hb)
  replace HPA := hid (HPA.out.on hb)
  replace BW := hid (BW.out.trans (hb.mono BW.out.size))
  have HZ := hid hF
  clear hF F1
  clear hb
  go_wp2_with fail
  have hb := (Below.refl w5.heap.size w5).alloc (Nat.le_refl _) (.cells #[.int .i64 ad] 3)
  have hblk := heap_alloc_new w5 (.cells #[.int .i64 ad] 3)
  obtain ⟨w6, hwn⟩ : ∃ w', w5.alloc (.cells #[.int .i64 ad] 3) = w' := ⟨_, rfl⟩
  rw [hwn] at hb hblk ⊢
  have N1 := hid (IsIn.one hblk)
  clear hwn hblk
  replace Hy := hid (Hy.out.on hb)
  replace HP := hid (HP.out.on hb)
  replace HQ := hid (HQ.out.on hb)
  replace HPA := hid (HPA.out.on hb)
  replace HZ := hid (HZ.out.on hb)
  replace BW := hid (BW.out.trans (hb.mono BW.out.size))
  clear hb
  refine (put_c y p nwN [ad] .nil ay ap2 (some ⟨w5.heap.size, 0, none⟩) Option.none cy cp2 1 0 w6 Hy.out HPA.out N1.out (In.nil _ _ rfl) BDy.out lp (by decide) (by simp) (by decide) trivial (by decide) F3.out).mono ?_
  rintro e w7 ⟨aM, cM, rfl, hF, hb⟩
  clear N1
  replace Hy := hid (Hy.out.on hb)
  replace HP := hid (HP.out.on hb)
  replace HQ := hid (HQ.out.on hb)
  replace HPA := hid (HPA.out.on hb)
  replace HZ := hid (HZ.out.on hb)
  replace BW := hid (BW.out.trans (hb.mono BW.out.size))
  have HM := hid hF
  clear hF hb F3
  rcases f4 with rfl | ⟨rfl, e60⟩
  rotate_left
  · as_aux_lemma =>
      have e60' : (y.cnt : Int) = 60 := by omega
      go_wp2_with fail
      refine (awake_any w7 (HT.out.below BW.out)).mono ?_
      rintro e z_ ⟨rfl, hb⟩
      replace Hy := hid (Hy.out.on hb)
      replace HP := hid (HP.out.on hb)
      replace HQ := hid (HQ.out.on hb)
      replace HPA := hid (HPA.out.on hb)
      replace HZ := hid (HZ.out.on hb)
      replace HM := hid (HM.out.on hb)
      replace BW := hid (BW.out.trans (hb.mono BW.out.size))
      clear hb
      go_wp2_with fail
      go_ret
      exact ⟨rfl, BW.out⟩
  obtain ⟨bM, Y, P, g1, g2, g3, g4, g5⟩ := F5.out rfl
  have BDM := hid bM
  have G1 := hid g1
  have BDY := hid g2
  have G3 := hid g3
  have G4 := hid g4
  have G5 := hid g5
  clear bM g1 g2 g3 g4 g5 F5
  go_wp2_with fail
  refine (join_c y Z M ay aZ aM cy cZ cM w7 Hy.out HZ.out HM.out BDy.out BDZ.out BDM.out (HT.out.below BW.out) G1.out).mono ?_
  rintro e w8 ⟨aj, cj, an, cn, rfl, hJ, hN, hb⟩
  replace Hy := hid (Hy.out.on hb)
  replace HP := hid (HP.out.on hb)
  replace HQ := hid (HQ.out.on hb)
  replace HPA := hid (HPA.out.on hb)
  replace HZ := hid (HZ.out.on hb)
  replace HM := hid (HM.out.on hb)
  replace BW := hid (BW.out.trans (hb.mono BW.out.size))
  have HJ := hid hJ
  have HN := hid hN
  clear hJ hN G1
  clear hb
  clear HM
  go_wp2_with fail
  refine (dupK_own p ap2 cp2 (fun b => b < w8.heap.size) w8 HPA.out (fun _ h => h) lp).mono ?_
  rintro e wd1 ⟨ad1, cd1, rfl, hown, hbd⟩
  have OWN := hid hown
  have HBD := hid hbd
  clear hown hbd
  go_wp2_with fail
  have hb1 := (Below.refl wd1.heap.size wd1).alloc (Nat.le_refl _) (.cells #[.int .i64 ad] 3)
  have hblk := heap_alloc_new wd1 (.cells #[.int .i64 ad] 3)
  obtain ⟨wd2, hwn⟩ : ∃ w', wd1.alloc (.cells #[.int .i64 ad] 3) = w' := ⟨_, rfl⟩
  rw [hwn] at hb1 hblk ⊢
  have N2 := hid (IsIn.one hblk)
  have HB1 := hid hb1
  clear hwn hblk hb1
  refine (kOf_any nwN [ad] (some ⟨wd1.heap.size, 0, none⟩) 1 (fun b => b < wd2.heap.size) wd2 N2.out (fun _ h => h)).mono ?_
  rintro e wd3 ⟨rfl, hb2⟩
  have HB2 := hid hb2
  clear hb2 N2
  obtain ⟨kn, hkn⟩ : ∃ kn, kyOf nwN [ad] = kn := ⟨_, rfl⟩
  rw [hkn] at G4 ⊢
  have hb3 := (Below.refl wd3.heap.size wd3).alloc (Nat.le_refl _) (.cells #[.string (bs kn.n), .bool kn.h, .int .i64 kn.x] 71)
  have hblk := heap_alloc_new wd3 (.cells #[.string (bs kn.n), .bool kn.h, .int .i64 kn.x] 71)
  have HB4 := hid (HB1.out.trans ((HB2.out.trans (hb3.mono HB2.out.size)).mono HB1.out.size))
  have z1 := HBD.out.size
  have z4 := HB4.out.size
  have OW4 := hid (owns_below OWN.out HB4.out (Nat.le_refl _))
  have CC := hid (fun (j : Nat) (u : Value) (hj : [Value.string (bs kn.n), .bool kn.h, .int .i64 kn.x][j]? = some u) => show (wd3.alloc (.cells #[.string (bs kn.n), .bool kn.h, .int .i64 kn.x] 71)).cell? ((⟨wd3.heap.size, 0, none⟩ : Addr).add j) = some u from by
    match j, hj with
    | 0, hj => simp only [List.getElem?_cons_zero, Option.some.injEq] at hj; subst hj; exact cells_get hblk (k := 0) rfl
    | 1, hj => simp only [List.getElem?_cons_succ, List.getElem?_cons_zero, Option.some.injEq] at hj; subst hj; exact cells_get hblk (k := 1) rfl
    | 2, hj => simp only [List.getElem?_cons_succ, List.getElem?_cons_zero, Option.some.injEq] at hj; subst hj; exact cells_get hblk (k := 2) rfl
    | j + 3, hj => cases hj)
  clear hblk hb3 HB1 HB2 OWN
  go_upto_region 14 with (at_builtin; refine wpList_append_ao _ rfl _ _ _ rfl w8.heap.size 71 i0 _ 3 32 Tryz.underlying65 hi0 hz0 hz1 hz2 rfl (by omega) _ p.length _ rfl OW4.out (some ⟨wd3.heap.size, 0, none⟩) 1 1 [.string (bs kn.n), .bool kn.h, .int .i64 kn.x] rfl rfl (fun h => by cases h) (fun a hA j u hj => by cases hA; exact CC.out j u hj) (by simp [Value.oneCell']) (by unfold maxLen; omega) (by omega) (by omega) ?_; intro a5 c5 w9 hown5 hgrow5 hat5)
  have hb := (HBD.out.trans (HB4.out.mono z1)).grown hgrow5 (by omega) (fun b hb => (OW4.out.lt b hb).1)
  have HR := hid (PtIn.snoc (k := kn) hown5)
  have hrl : (p ++ [kn]).length = p.length + 1 := by simp
  obtain ⟨R, hR⟩ : ∃ R, p ++ [kn] = R := ⟨_, rfl⟩
  rw [hR] at HR hrl G4
  rw [← hrl]
  have lr : R.length ≤ 1000 := by rw [hrl]; have := path_length_le MP.out; simp at this; omega
  have HRR := hid hR
  clear hown5 hgrow5 hat5 CC OW4 HB4 HBD z1 z4 hR hkn
  replace Hy := hid (Hy.out.on hb)
  replace HP := hid (HP.out.on hb)
  replace HQ := hid (HQ.out.on hb)
  replace HPA := hid (HPA.out.on hb)
  replace HZ := hid (HZ.out.on hb)
  replace HJ := hid (HJ.out.on hb)
  replace HN := hid (HN.out.on hb)
  replace BW := hid (BW.out.trans (hb.mono BW.out.size))
  clear hb
  by_cases hbl : q <+: p
  · as_aux_lemma =>
      obtain ⟨hle, htk⟩ := blP_iff.1 hbl
      have hle' : (q.length : Int) ≤ (p.length : Int) := by omega
      have HTK := hid htk
      obtain ⟨rfl, rfl⟩ := G4.out hbl
      clear htk hbl G5 G4
      have hpc := (SlC.caps HPA.out)
      have hlc : (q.length : Int) ≤ (cp2 : Int) := by omega
      have iq0 : (0 : Int) ≤ (q.length : Int) := by omega
      have EQC := hid (eqKeys_any (p.take q.length) q ap2 ap1 cp2 cp1 (fun b => b < w9.heap.size) w9 (by
        have this := HPA.out.pre hle
        rw [show (p.take q.length).length = q.length by rw [List.length_take]; omega]
        exact this) HQ.out (by rw [List.length_take]; omega) (by omega))
      rw [show (p.take q.length).length = q.length by rw [List.length_take]; omega, decide_eq_true HTK.out] at EQC
      clear hpc
      go_wp2_with fail
      refine (EQC.out).mono ?_
      rintro e u1 ⟨rfl, hb⟩
      replace Hy := hid (Hy.out.on hb)
      replace HP := hid (HP.out.on hb)
      replace HQ := hid (HQ.out.on hb)
      replace HPA := hid (HPA.out.on hb)
      replace HZ := hid (HZ.out.on hb)
      replace HJ := hid (HJ.out.on hb)
      replace HN := hid (HN.out.on hb)
      replace HR := hid (HR.out.on hb)
      replace BW := hid (BW.out.trans (hb.mono BW.out.size))
      clear EQC
      clear hb
      go_wp2_with fail
      have hb := (Below.refl u1.heap.size u1).alloc (Nat.le_refl _) (.cells #[.slice a5 (p.length + 1) c5] 65)
      have hblk := heap_alloc_new u1 (.cells #[.slice a5 (p.length + 1) c5] 65)
      obtain ⟨u2, hwn⟩ : ∃ w', u1.alloc (.cells #[.slice a5 (p.length + 1) c5] 65) = w' := ⟨_, rfl⟩
      rw [hwn] at hb hblk ⊢
      replace Hy := hid (Hy.out.on hb)
      replace HP := hid (HP.out.on hb)
      replace HQ := hid (HQ.out.on hb)
      replace HPA := hid (HPA.out.on hb)
      replace HZ := hid (HZ.out.on hb)
      replace HJ := hid (HJ.out.on hb)
      replace HN := hid (HN.out.on hb)
      replace HR := hid (HR.out.on hb)
      replace BW := hid (BW.out.trans (hb.mono BW.out.size))
      have hblk' : u2.heap[u1.heap.size]? = some (.cells #[.slice a5 R.length c5] 65 (0, 0)) := by rw [hrl]; exact hblk
      have P2 := hid (PaIn.one hblk' HR.out)
      clear hwn hblk hblk' hb
      refine (equalP_c [R] [R] an (some ⟨u1.heap.size, 0, none⟩) cn 1 u2 HN.out P2.out (by simp) (by simp) (by simpa using lr) (by simpa using lr) (b := true) (by simp)).mono ?_
      rintro e u3 ⟨rfl, hb⟩
      clear P2
      replace Hy := hid (Hy.out.on hb)
      replace HP := hid (HP.out.on hb)
      replace HQ := hid (HQ.out.on hb)
      replace HPA := hid (HPA.out.on hb)
      replace HZ := hid (HZ.out.on hb)
      replace HJ := hid (HJ.out.on hb)
      replace HN := hid (HN.out.on hb)
      replace HR := hid (HR.out.on hb)
      replace BW := hid (BW.out.trans (hb.mono BW.out.size))
      clear hb
      go_wp2_with fail
      refine (eqY_c Y aj aZ cj cZ u3 HJ.out HZ.out BDZ.out).mono ?_
      rintro e u4 ⟨rfl, hb⟩
      replace Hy := hid (Hy.out.on hb)
      replace HP := hid (HP.out.on hb)
      replace HQ := hid (HQ.out.on hb)
      replace HPA := hid (HPA.out.on hb)
      replace HZ := hid (HZ.out.on hb)
      replace HJ := hid (HJ.out.on hb)
      replace HN := hid (HN.out.on hb)
      replace HR := hid (HR.out.on hb)
      replace BW := hid (BW.out.trans (hb.mono BW.out.size))
      clear hb
      go_wp2_with fail
      refine (awake_any u4 (HT.out.below BW.out)).mono ?_
      rintro e z_ ⟨rfl, hb⟩
      replace Hy := hid (Hy.out.on hb)
      replace HP := hid (HP.out.on hb)
      replace HQ := hid (HQ.out.on hb)
      replace HPA := hid (HPA.out.on hb)
      replace HZ := hid (HZ.out.on hb)
      replace HJ := hid (HJ.out.on hb)
      replace HN := hid (HN.out.on hb)
      replace HR := hid (HR.out.on hb)
      replace BW := hid (BW.out.trans (hb.mono BW.out.size))
      clear hb
      go_wp2_with fail
      go_ret
      exact ⟨rfl, BW.out⟩
  obtain ⟨rfl, k1, k2⟩ := G5.out hbl
  have KP := hid (And.intro k1 k2)
  clear k1 k2 G5 G4
  by_cases hle : q.length ≤ p.length
  · as_aux_lemma =>
      have hle' : (q.length : Int) ≤ (p.length : Int) := by omega
      have htk : ¬ p.take q.length = q := fun h => hbl (blP_iff.2 ⟨hle, h⟩)
      have HTK := hid htk
      clear htk hbl
      have hpc := (SlC.caps HPA.out)
      have hlc : (q.length : Int) ≤ (cp2 : Int) := by omega
      have iq0 : (0 : Int) ≤ (q.length : Int) := by omega
      have EQC := hid (eqKeys_any (p.take q.length) q ap2 ap1 cp2 cp1 (fun b => b < w9.heap.size) w9 (by
        have this := HPA.out.pre hle
        rw [show (p.take q.length).length = q.length by rw [List.length_take]; omega]
        exact this) HQ.out (by rw [List.length_take]; omega) (by omega))
      rw [show (p.take q.length).length = q.length by rw [List.length_take]; omega, decide_eq_false HTK.out] at EQC
      clear hpc
      go_wp2_with fail
      refine (EQC.out).mono ?_
      rintro e u1 ⟨rfl, hb⟩
      replace Hy := hid (Hy.out.on hb)
      replace HP := hid (HP.out.on hb)
      replace HQ := hid (HQ.out.on hb)
      replace HPA := hid (HPA.out.on hb)
      replace HZ := hid (HZ.out.on hb)
      replace HJ := hid (HJ.out.on hb)
      replace HN := hid (HN.out.on hb)
      replace HR := hid (HR.out.on hb)
      replace BW := hid (BW.out.trans (hb.mono BW.out.size))
      clear EQC
      clear hb
      go_wp2_with fail
      have hb := (Below.refl u1.heap.size u1).alloc (Nat.le_refl _) (.cells #[.int .i64 ad] 3)
      have hblk := heap_alloc_new u1 (.cells #[.int .i64 ad] 3)
      obtain ⟨v6, hwn⟩ : ∃ w', u1.alloc (.cells #[.int .i64 ad] 3) = w' := ⟨_, rfl⟩
      rw [hwn] at hb hblk ⊢
      have N3 := hid (IsIn.one hblk)
      clear hwn hblk
      replace Hy := hid (Hy.out.on hb)
      replace HP := hid (HP.out.on hb)
      replace HQ := hid (HQ.out.on hb)
      replace HPA := hid (HPA.out.on hb)
      replace HZ := hid (HZ.out.on hb)
      replace HJ := hid (HJ.out.on hb)
      replace HN := hid (HN.out.on hb)
      replace HR := hid (HR.out.on hb)
      replace BW := hid (BW.out.trans (hb.mono BW.out.size))
      clear hb
      refine (put_c Z p nwN [ad] .nil aZ ap2 (some ⟨u1.heap.size, 0, none⟩) Option.none cZ cp2 1 0 v6 HZ.out HPA.out N3.out (In.nil _ _ rfl) BDZ.out lp (by decide) (by simp) (by decide) trivial (by decide) KP.out).mono ?_
      rintro e v7 ⟨aW, cW, rfl, hF, hb⟩
      clear N3
      replace Hy := hid (Hy.out.on hb)
      replace HP := hid (HP.out.on hb)
      replace HQ := hid (HQ.out.on hb)
      replace HPA := hid (HPA.out.on hb)
      replace HZ := hid (HZ.out.on hb)
      replace HJ := hid (HJ.out.on hb)
      replace HN := hid (HN.out.on hb)
      replace HR := hid (HR.out.on hb)
      replace BW := hid (BW.out.trans (hb.mono BW.out.size))
      have HW := hid hF
      clear hF hb KP
      go_wp2_with fail
      refine (eqY_c Y aj aW cj cW v7 HJ.out HW.out BDY.out).mono ?_
      rintro e v8 ⟨rfl, hb⟩
      replace Hy := hid (Hy.out.on hb)
      replace HP := hid (HP.out.on hb)
      replace HQ := hid (HQ.out.on hb)
      replace HPA := hid (HPA.out.on hb)
      replace HZ := hid (HZ.out.on hb)
      replace HJ := hid (HJ.out.on hb)
      replace HN := hid (HN.out.on hb)
      replace HR := hid (HR.out.on hb)
      replace BW := hid (BW.out.trans (hb.mono BW.out.size))
      clear hb
      go_wp2_with fail
      refine (awake_any v8 (HT.out.below BW.out)).mono ?_
      rintro e z_ ⟨rfl, hb⟩
      replace Hy := hid (Hy.out.on hb)
      replace HP := hid (HP.out.on hb)
      replace HQ := hid (HQ.out.on hb)
      replace HPA := hid (HPA.out.on hb)
      replace HZ := hid (HZ.out.on hb)
      replace HJ := hid (HJ.out.on hb)
      replace HN := hid (HN.out.on hb)
      replace HR := hid (HR.out.on hb)
      replace BW := hid (BW.out.trans (hb.mono BW.out.size))
      clear hb
      go_wp2_with fail
      go_ret
      exact ⟨rfl, BW.out⟩
  · as_aux_lemma =>
      have hle' : ¬ (q.length : Int) ≤ (p.length : Int) := by omega
      clear hbl
      go_wp2_with fail
      have hb := (Below.refl w9.heap.size w9).alloc (Nat.le_refl _) (.cells #[.int .i64 ad] 3)
      have hblk := heap_alloc_new w9 (.cells #[.int .i64 ad] 3)
      obtain ⟨v6, hwn⟩ : ∃ w', w9.alloc (.cells #[.int .i64 ad] 3) = w' := ⟨_, rfl⟩
      rw [hwn] at hb hblk ⊢
      have N3 := hid (IsIn.one hblk)
      clear hwn hblk
      replace Hy := hid (Hy.out.on hb)
      replace HP := hid (HP.out.on hb)
      replace HQ := hid (HQ.out.on hb)
      replace HPA := hid (HPA.out.on hb)
      replace HZ := hid (HZ.out.on hb)
      replace HJ := hid (HJ.out.on hb)
      replace HN := hid (HN.out.on hb)
      replace HR := hid (HR.out.on hb)
      replace BW := hid (BW.out.trans (hb.mono BW.out.size))
      clear hb
      refine (put_c Z p nwN [ad] .nil aZ ap2 (some ⟨w9.heap.size, 0, none⟩) Option.none cZ cp2 1 0 v6 HZ.out HPA.out N3.out (In.nil _ _ rfl) BDZ.out lp (by decide) (by simp) (by decide) trivial (by decide) KP.out).mono ?_
      rintro e v7 ⟨aW, cW, rfl, hF, hb⟩
      clear N3
      replace Hy := hid (Hy.out.on hb)
      replace HP := hid (HP.out.on hb)
      replace HQ := hid (HQ.out.on hb)
      replace HPA := hid (HPA.out.on hb)
      replace HZ := hid (HZ.out.on hb)
      replace HJ := hid (HJ.out.on hb)
      replace HN := hid (HN.out.on hb)
      replace HR := hid (HR.out.on hb)
      replace BW := hid (BW.out.trans (hb.mono BW.out.size))
      have HW := hid hF
      clear hF hb KP
      go_wp2_with fail
      refine (eqY_c Y aj aW cj cW v7 HJ.out HW.out BDY.out).mono ?_
      rintro e v8 ⟨rfl, hb⟩
      replace Hy := hid (Hy.out.on hb)
      replace HP := hid (HP.out.on hb)
      replace HQ := hid (HQ.out.on hb)
      replace HPA := hid (HPA.out.on hb)
      replace HZ := hid (HZ.out.on hb)
      replace HJ := hid (HJ.out.on hb)
      replace HN := hid (HN.out.on hb)
      replace HR := hid (HR.out.on hb)
      replace BW := hid (BW.out.trans (hb.mono BW.out.size))
      clear hb
      go_wp2_with fail
      refine (awake_any v8 (HT.out.below BW.out)).mono ?_
      rintro e z_ ⟨rfl, hb⟩
      replace Hy := hid (Hy.out.on hb)
      replace HP := hid (HP.out.on hb)
      replace HQ := hid (HQ.out.on hb)
      replace HPA := hid (HPA.out.on hb)
      replace HZ := hid (HZ.out.on hb)
      replace HJ := hid (HJ.out.on hb)
      replace HN := hid (HN.out.on hb)
      replace HR := hid (HR.out.on hb)
      replace BW := hid (BW.out.trans (hb.mono BW.out.size))
      clear hb
      go_wp2_with fail
      go_ret
      exact ⟨rfl, BW.out⟩
end Go.Proofs.LF
