/- Parts of the proof of a law of layer 11 (file): LfPut. The conditions stand in each theorem. -/
import Derived.Test.YtadkpjgpefcphaaGreatDoorProg
import Derived.Test.YtadkpjgpefcphaaGreatDoorYraf
import Derived.Test.YtadkpjgpefcphaaGreatDoorYrbb
import Derived.Test.YtadkpjgpefcphaaGreatDoorYrbi
set_option linter.all false
set_option linter.unusedVariables false
set_option linter.unusedSimpArgs false
namespace Go.Proofs.LF
def putN (n : List UInt8) (l : List Int) (s : Fo) (y : Fo) : Fo :=
  if fndN y (kyOf n l) < y.len ∧ byK (keyD y (fndN y (kyOf n l))) (kyOf n l) = 0 then y.setN (fndN y (kyOf n l)) n l s else y.insN (fndN y (kyOf n l)) n l s
def modK (k : Ky) (f : Fo → Fo) : Fo → Fo
  | .nil => .nil
  | .cons n l s r => if kyOf n l = k then .cons n l (f s) r else .cons n l s (modK k f r)
def putF (n : List UInt8) (l : List Int) (s : Fo) : List Ky → Fo → Fo
  | [], y => putN n l s y
  | k :: r, y => modK k (putF n l s r) y
theorem modK_at {k : Ky} {f : Fo → Fo} : ∀ {i : Nat} {y s r : Fo} {n : List UInt8} {l : List Int}, y.drop i = .cons n l s r → kyOf n l = k → (∀ j, j < i → keyAt y j ≠ some k) → modK k f y = y.setN i n l (f s)
  | 0, .cons n' l' s' r', s, r, n, l, h, hk, _ => by
    simp only [Fo.drop, Fo.cons.injEq] at h
    obtain ⟨rfl, rfl, rfl, rfl⟩ := h
    simp [modK, hk, Fo.setN, Fo.take, Fo.app, Fo.drop]
  | i + 1, .cons n' l' s' r', s, r, n, l, h, hk, hb => by
    have h0 := hb 0 (by omega)
    simp only [keyAt, Fo.drop, ne_eq, Option.some.injEq] at h0
    have := modK_at (k := k) (f := f) (i := i) (y := r') h hk (fun j hj => hb (j + 1) (by omega))
    simp only [modK, h0, if_false, this, Fo.setN, Fo.take, Fo.app, Fo.drop]
  | 0, .nil, _, _, _, _, h, _, _ => by cases h
  | _ + 1, .nil, _, _, _, _, h, _, _ => by cases h
theorem Fo.Sm.app : ∀ {y z : Fo}, y.Sm → z.Sm → (y.app z).Sm
  | .nil, _, _, h => h
  | .cons _ _ _ _, _, ⟨h1, h2, h3, h4, h5⟩, h => ⟨h1, h2, h3, h4, h5.app h⟩
theorem Fo.Sm.take : ∀ {i : Nat} {y : Fo}, y.Sm → (y.take i).Sm
  | 0, _, _ => trivial
  | _ + 1, .nil, _ => trivial
  | i + 1, .cons _ _ _ _, ⟨h1, h2, h3, h4, h5⟩ => ⟨h1, h2, h3, h4, Fo.Sm.take (i := i) h5⟩
theorem Fo.cnt_app : ∀ (y z : Fo), (y.app z).cnt = y.cnt + z.cnt
  | .nil, z => by simp [Fo.app, Fo.cnt]
  | .cons n l s r, z => by simp only [Fo.app, Fo.cnt, Fo.cnt_app r z]; omega
theorem Fo.len_le_cnt : ∀ (y : Fo), y.len ≤ y.cnt
  | .nil => Nat.le_refl _
  | .cons n l s r => by have := Fo.len_le_cnt r; simp only [Fo.len, Fo.cnt]; omega
theorem Fo.cnt_take_drop (i : Nat) (y : Fo) : (y.take i).cnt + (y.drop i).cnt = y.cnt := by
  rw [← Fo.cnt_app, Fo.take_drop]
theorem Fo.cnt_drop_succ {i : Nat} {y : Fo} : (y.drop (i + 1)).cnt ≤ (y.drop i).cnt := by
  have h : ∀ (i : Nat) (y : Fo), (y.drop (i + 1)).cnt ≤ (y.drop i).cnt := by
    intro i
    induction i with
    | zero => intro y; cases y with
      | nil => simp [Fo.drop]
      | cons n l s r => simp only [Fo.drop, Fo.cnt]; omega
    | succ i ih => intro y; cases y with
      | nil => simp [Fo.drop]
      | cons n l s r => exact ih r
  exact h i y
def Fo.Nm : Fo → Prop
  | .nil => True
  | .cons n l s r => n.length ≤ 1000 ∧ l.length ≤ 1000 ∧ s.Nm ∧ r.Nm
theorem Fo.Sm.nm : ∀ {y : Fo}, y.Sm → y.Nm
  | .nil, _ => trivial
  | .cons _ _ _ _, ⟨h1, h2, _, h4, h5⟩ => ⟨h1, h2, h4.nm, h5.nm⟩
theorem Fo.Nm.sm : ∀ {y : Fo}, y.Nm → y.cnt ≤ 1000 → y.Sm
  | .nil, _, _ => trivial
  | .cons n l s r, ⟨h1, h2, h4, h5⟩, hc => by
    simp only [Fo.cnt] at hc
    have := Fo.len_le_cnt s
    exact ⟨h1, h2, by omega, h4.sm (by omega), h5.sm (by omega)⟩
theorem Fo.Nm.app : ∀ {y z : Fo}, y.Nm → z.Nm → (y.app z).Nm
  | .nil, _, _, h => h
  | .cons _ _ _ _, _, ⟨h1, h2, h4, h5⟩, h => ⟨h1, h2, h4, h5.app h⟩
theorem Fo.Nm.take : ∀ {i : Nat} {y : Fo}, y.Nm → (y.take i).Nm
  | 0, _, _ => trivial
  | _ + 1, .nil, _ => trivial
  | i + 1, .cons _ _ _ _, ⟨h1, h2, h4, h5⟩ => ⟨h1, h2, h4, Fo.Nm.take (i := i) h5⟩
theorem Fo.Nm.drop : ∀ {i : Nat} {y : Fo}, y.Nm → (y.drop i).Nm
  | 0, _, h => h
  | _ + 1, .nil, h => h
  | i + 1, .cons _ _ _ r, ⟨_, _, _, h⟩ => Fo.Nm.drop (i := i) (y := r) h
theorem putN_nm {n : List UInt8} {l : List Int} {s y : Fo} (hy : y.Nm) (h1 : n.length ≤ 1000) (h2 : l.length ≤ 1000) (h4 : s.Nm) : (putN n l s y).Nm := by
  unfold putN
  split
  · exact hy.take.app ⟨h1, h2, h4, hy.drop⟩
  · exact hy.take.app ⟨h1, h2, h4, hy.drop⟩
theorem putN_cnt {n : List UInt8} {l : List Int} {s y : Fo} : (putN n l s y).cnt ≤ y.cnt + 1 + s.cnt := by
  unfold putN
  split
  · have h1 := Fo.cnt_take_drop (fndN y (kyOf n l)) y
    have h2 := Fo.cnt_drop_succ (i := fndN y (kyOf n l)) (y := y)
    simp only [Fo.setN, Fo.cnt_app, Fo.cnt]; omega
  · have h1 := Fo.cnt_take_drop (fndN y (kyOf n l)) y
    simp only [Fo.insN, Fo.cnt_app, Fo.cnt]; omega
theorem modK_cnt {k : Ky} {f : Fo → Fo} {m : Nat} (hf : ∀ s, (f s).cnt ≤ s.cnt + m) : ∀ (y : Fo), (modK k f y).cnt ≤ y.cnt + m
  | .nil => by simp [modK, Fo.cnt]
  | .cons n l s r => by
    simp only [modK]
    split
    · have := hf s; simp only [Fo.cnt]; omega
    · have := modK_cnt (k := k) hf r; simp only [Fo.cnt]; omega
theorem putF_cnt {n : List UInt8} {l : List Int} {s : Fo} : ∀ (p : List Ky) (y : Fo), (putF n l s p y).cnt ≤ y.cnt + (1 + s.cnt)
  | [], y => by have := putN_cnt (n := n) (l := l) (s := s) (y := y); simp only [putF]; omega
  | k :: r, y => by simp only [putF]; exact modK_cnt (fun z => putF_cnt r z) y
theorem modK_nm {k : Ky} {f : Fo → Fo} (hf : ∀ s, s.Nm → (f s).Nm) : ∀ (y : Fo), y.Nm → (modK k f y).Nm
  | .nil, _ => trivial
  | .cons n l s r, ⟨h1, h2, h4, h5⟩ => by
    simp only [modK]
    split
    · exact ⟨h1, h2, hf s h4, h5⟩
    · exact ⟨h1, h2, h4, modK_nm hf r h5⟩
theorem putF_nm {n : List UInt8} {l : List Int} {s : Fo} (h1 : n.length ≤ 1000) (h2 : l.length ≤ 1000) (h4 : s.Nm) : ∀ (p : List Ky) (y : Fo), y.Nm → (putF n l s p y).Nm
  | [], _, hy => putN_nm hy h1 h2 h4
  | _ :: r, y, hy => modK_nm (fun z hz => putF_nm h1 h2 h4 r z hz) y hy
def putE (y : Fo) (p : List Ky) (n : List UInt8) (l : List Int) (s : Fo) : Int :=
  if chkY y ≠ 0 then chkY y else if (atF y p).isNone ∧ p ≠ [] then 1 else if 60 < 1 + s.cnt then 2 else chkY (putF n l s p y)
def putY (y : Fo) (p : List Ky) (n : List UInt8) (l : List Int) (s : Fo) : Fo := if putE y p n l s = 0 then putF n l s p y else .nil
end Go.Proofs.LF
