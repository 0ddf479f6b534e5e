/- Parts of the proof of a law of layer 11 (file): LfW48, LfJp, LfRt. The conditions stand in each theorem. -/
import Derived.BigQuiet
import Derived.Deep.AppendLies
import Derived.Deep.Cut
import Derived.Deep.CutBlock
import Derived.Deep.CutRange
import Derived.Deep.QuietTactic
import Derived.Deep.RegionHeld3
import Derived.Laws.ResultCell
import Derived.Outline
import Derived.Test.YtadkpjgpefcphaaGreatDoorProg
import Derived.WalkKit
import Derived.WalkLawsBesides
import Derived.WalkSpells
import Derived.Test.YtadkpjgpefcphaaGreatDoorToae
import Derived.Test.YtadkpjgpefcphaaGreatDoorToav
import Derived.Test.YtadkpjgpefcphaaGreatDoorToaw
import Derived.Test.YtadkpjgpefcphaaGreatDoorTobd
import Derived.Test.YtadkpjgpefcphaaGreatDoorTobi
import Derived.Test.YtadkpjgpefcphaaGreatDoorTobk
import Derived.Test.YtadkpjgpefcphaaGreatDoorTobl
set_option linter.all false
set_option linter.unusedVariables false
set_option linter.unusedSimpArgs false
namespace Go.Proofs.LF
open Go.RowKit Go.Sort
set_option maxHeartbeats 4000000
set_option maxRecDepth 100000
attribute [local go_sem] bs_toList bs_size bs_get
def bedN : List UInt8 := [98, 101, 100]
def rakedN : List UInt8 := [114, 97, 107, 101, 100]
def soldN : List UInt8 := [115, 111, 108, 100]
def oneY (n : Int) : Fo := .cons bedN [3] (.cons rakedN [5, n] .nil .nil) (.cons soldN [] .nil .nil)
theorem FCs.alloc {S : Nat → Prop} {w : World} {y : Fo} {cs : List Value} (h : FCs S w y cs) (hS : ∀ b, S b → b < w.heap.size) (o : Obj) : FCs S (w.alloc o) y cs := h.agree (fun b hb => heap_alloc_old _ _ (hS b hb))
theorem slc_block {S : Nat → Prop} {w : World} {b k n : Nat} {vs : Array Value} {t : TypeId} {fr : Nat × Nat} (hb : w.heap[b]? = some (.cells vs t fr)) (hS : S b) (hl : vs.size = n * k) (hn : n ≤ maxLen) : SlC S w k (.slice (some ⟨b, 0, none⟩) n n) n vs.toList := by
  refine ⟨by simpa using hl, _, n, rfl, Nat.le_refl _, hn, (fun h => by cases h), .inr ⟨b, 0, rfl, hS, fun j u hj => ?_⟩⟩
  simp only [World.cell?, hb, Nat.zero_add]
  simpa using hj
theorem One_any (n : Int) (w : World) :
    Calls Tryz.prog 80 #[.int .i64 n] w fun e w' => ∃ g, e = .returned (.slice (some ⟨g, 0, none⟩) 2 2) ∧ FSl (Rg w.heap.size w'.heap.size) w' (.slice (some ⟨g, 0, none⟩) 2 2) (oneY n) ∧ Below w.heap.size w w' := by
  go_enter Tryz.func80, Tryz.ntmps80
  go_wp2_with fail
  refine bodyPost_ret (v := .slice (some ⟨w.heap.size + 1 + 1 + 1, 0, none⟩) 2 2) (by simp [results, Tryz.results80, go_sem]) rfl ?_
  refine ⟨w.heap.size + 1 + 1 + 1, rfl, ?_, ?_⟩
  · have key : ∀ (N : Nat) (W : World) (A B C D : Obj), A = .cells #[.int .i64 3] 3 → B = .cells #[.int .i64 5, .int .i64 n] 3 → C = .cells #[.string ⟨#[114, 97, 107, 101, 100]⟩, .slice (some ⟨N + 1, 0, none⟩) 2 2, .slice none 0 0] 85 →
        D = .cells #[.string ⟨#[98, 101, 100]⟩, .slice (some ⟨N, 0, none⟩) 1 1, .slice (some ⟨N + 1 + 1, 0, none⟩) 1 1, .string ⟨#[115, 111, 108, 100]⟩, .slice none 0 0, .slice none 0 0] 85 → N = w.heap.size → W = (((w.alloc A).alloc B).alloc C).alloc D → FSl (Rg w.heap.size W.heap.size) W (.slice (some ⟨N + 1 + 1 + 1, 0, none⟩) 2 2) (oneY n) := by
      rintro N W A B C D hA hB hC hD hN hW
      have hz : W.heap.size = N + 4 := by rw [hW, hN]; simp
      have a0 : W.heap[N]? = some A := by
        rw [hW, hN]
        exact (heap_alloc_old _ _ (by simp; omega)).trans ((heap_alloc_old _ _ (by simp; omega)).trans ((heap_alloc_old _ _ (by simp)).trans (heap_alloc_new w A)))
      have a1 : W.heap[N + 1]? = some B := by
        have h := heap_alloc_new (w.alloc A) B
        simp only [World.size_alloc] at h
        rw [hW, hN]
        exact (heap_alloc_old _ _ (by simp)).trans ((heap_alloc_old _ _ (by simp)).trans h)
      have a2 : W.heap[N + 1 + 1]? = some C := by
        have h := heap_alloc_new ((w.alloc A).alloc B) C
        simp only [World.size_alloc] at h
        rw [hW, hN]
        exact (heap_alloc_old _ _ (by simp)).trans h
      have a3 : W.heap[N + 1 + 1 + 1]? = some D := by
        have h := heap_alloc_new (((w.alloc A).alloc B).alloc C) D
        simp only [World.size_alloc] at h
        rw [hW, hN]
        exact h
      have hS : ∀ k, k < 4 → Rg w.heap.size W.heap.size (N + k) := fun k hk => ⟨by omega, by omega⟩
      rw [hA] at a0
      rw [hB] at a1
      rw [hC] at a2
      rw [hD] at a3
      have i0 : Ints (Rg w.heap.size W.heap.size) W (.slice (some ⟨N, 0, none⟩) 1 1) [3] := slc_block (vs := #[.int .i64 3]) a0 (hS 0 (by omega)) rfl (by simp [maxLen])
      have i1 : Ints (Rg w.heap.size W.heap.size) W (.slice (some ⟨N + 1, 0, none⟩) 2 2) [5, n] := slc_block (vs := #[.int .i64 5, .int .i64 n]) a1 (hS 1 (by omega)) rfl (by simp [maxLen])
      have nilI : ∀ S, Ints S W (.slice none 0 0) [] := fun S => ⟨rfl, none, 0, rfl, Nat.le_refl _, by simp [maxLen], fun _ => rfl, .inl rfl⟩
      have nilF : ∀ S, ∃ ds, SlC S W 3 (.slice none 0 0) Fo.nil.len ds ∧ FCs S W .nil ds := fun S => ⟨[], ⟨rfl, none, 0, rfl, Nat.le_refl _, by simp [maxLen], fun _ => rfl, .inl rfl⟩, rfl⟩
      have s2 := slc_block (k := 3) (n := 1) (S := Rg w.heap.size W.heap.size) a2 (hS 2 (by omega)) rfl (by simp [maxLen])
      have s3 := slc_block (k := 3) (n := 2) (S := Rg w.heap.size W.heap.size) a3 (hS 3 (by omega)) rfl (by simp [maxLen])
      exact ⟨_, s3, _, _, _, rfl, i0, ⟨_, s2, _, _, _, rfl, i1, nilF _, rfl⟩, _, _, _, rfl, nilI _, nilF _, rfl⟩
    exact key w.heap.size _ _ _ _ _ rfl rfl rfl rfl rfl rfl
  · exact ((((Below.refl _ _).alloc (Nat.le_refl _) _).alloc (by simp) _).alloc (by simp; omega) _).alloc (by simp; omega) _
theorem K_any (s : ByteArray) (x : Int) (g c : Nat) (w : World) (hx : w.cell? ⟨g, 0, none⟩ = some (.int .i64 x)) (hg : g < w.heap.size) (hc : 1 ≤ c) :
    Calls Tryz.prog 51 #[.string s, .slice (some ⟨g, 0, none⟩) 1 c] w fun e w' => e = .returned (.agg #[.string s, .bool true, .int .i64 x]) ∧ Below w.heap.size w w' := by
  have hx' : (w.alloc (.cells #[.string ByteArray.empty, .bool false, .int .i64 0] 71)).cell? ⟨g, 0, none⟩ = some (.int .i64 x) := below_cell ((Below.refl w.heap.size _).alloc (Nat.le_refl _) _) hg hx
  go_enter Tryz.func51, Tryz.ntmps51
  go_wp2_with fail
  exact bodyPost_ret (v := .agg #[.string s, .bool true, .int .i64 x]) (by simp [results, Tryz.results51, go_sem]) rfl ⟨rfl, ((Below.refl _ _).alloc (Nat.le_refl _) _)⟩
theorem ky_beq (a b : Ky) : decide (a = b) = (a.n == b.n && (a.h == b.h && a.x == b.x)) := by
  obtain ⟨an, ah, ax⟩ := a
  obtain ⟨bn, bh, bx⟩ := b
  by_cases h1 : an = bn <;> by_cases h2 : ah = bh <;> by_cases h3 : ax = bx <;> simp [h1, h2, h3]
theorem eqKeys_any (p q : List Ky) (ap aq : Option Addr) (cp cq : Nat) (S : Nat → Prop) (w : World) (hp : Pth S w (.slice ap p.length cp) p) (hq : Pth S w (.slice aq q.length cq) q) (lp : p.length ≤ 100000) (lq : q.length ≤ 100000) :
    Calls Tryz.prog 42 #[.slice ap p.length cp, .slice aq q.length cq] w fun e w' => e = .returned (.bool (decide (p = q))) ∧ Below w.heap.size w w' := by
  by_cases hne : p.length = q.length
  · have hne' : ((p.length : Int) != (q.length : Int)) = false := by simp; omega
    have HN := hid hne
    clear hne
    go_enter Tryz.func42, Tryz.ntmps42
    go_wp2_with fail
    go_loopw [13] (fun i wr => ∃ (k d : Nat), k ≤ p.length ∧ i = .int .i64 k ∧ wr = w.drewN d ∧ Hid (p.take k = q.take k)) (fun i _ => p.length - (intOf i).toNat)
    case atStart => exact ⟨0, 0, by omega, rfl, rfl, by simp [Hid]⟩
    case round =>
      obtain ⟨k, d, hk, rfl, rfl, H2⟩ := hrel
      by_cases hlt : k < p.length
      · obtain ⟨g, o, rfl, _, _, _, hcell⟩ := SlC.cells hp (by omega)
        obtain ⟨g', o', rfl, _, _, _, hcell'⟩ := SlC.cells hq (by have := HN.out; omega)
        have hlt' : k < q.length := by have := HN.out; omega
        obtain ⟨k0, k1, k2⟩ := key_cells hlt
        obtain ⟨k0', k1', k2'⟩ := key_cells hlt'
        have c0 := hcell _ _ k0
        have c1 := hcell _ _ k1
        have c2 := hcell _ _ k2
        have d0 := hcell' _ _ k0'
        have d1 := hcell' _ _ k1'
        have d2 := hcell' _ _ k2'
        rw [← Nat.add_assoc] at c1 c2 d1 d2
        have htp : p.take (k + 1) = p.take k ++ [p[k]] := List.take_succ_eq_append_getElem hlt
        have htq : q.take (k + 1) = q.take k ++ [q[k]] := List.take_succ_eq_append_getElem hlt'
        obtain ⟨a, ha⟩ : ∃ a, p[k] = a := ⟨_, rfl⟩
        obtain ⟨b, hb⟩ : ∃ b, q[k] = b := ⟨_, rfl⟩
        have HA := hid ha
        have HB := hid hb
        rw [ha] at c0 c1 c2 htp
        rw [hb] at d0 d1 d2 htq
        have HTP := hid htp
        have HTQ := hid htq
        clear hcell hcell' k0 k1 k2 k0' k1' k2' htp htq ha hb
        have i1 : (0 : Int) ≤ (k : Int) := by omega
        have i2 : (k : Int) < (p.length : Int) := by omega
        have i3 : (k : Int) < (q.length : Int) := by omega
        by_cases he : a = b
        · subst he
          go_wp2_with fail
          go_quiet (fail)
          go_wp2_with fail
          go_roundw
          case rel => exact ⟨k + 1, _, by omega, by go_num, rfl, by rw [Hid, HTP.out, HTQ.out, H2.out]⟩
          case measure => simp [intOf]; omega
        · have hdec : (a.n == b.n && (a.h == b.h && a.x == b.x)) = false := by rw [← ky_beq]; simp [he]
          have HE := hid he
          have HDEC := hid hdec
          clear he hdec
          cases hn : (a.n == b.n) <;> cases hh : (a.h == b.h) <;> cases hx : (a.x == b.x)
          all_goals first
            | (exfalso; have := HDEC.out; rw [hn, hh, hx] at this; cases this; done)
            | (go_wp2_with fail
               go_quiet (fail)
               go_wp2_with fail
               go_ret
               refine ⟨ret_bool ?_, below_drewN (below_drewN (Below.refl _ _) _) _⟩
               symm
               rw [decide_eq_false_iff_not]
               rintro rfl
               exact HE.out (HA.out.symm.trans HB.out))
      · go_wp2_with fail
        go_ret
        obtain rfl : k = p.length := by omega
        refine ⟨ret_bool ?_, below_drewN (Below.refl _ _) _⟩
        symm
        have := H2.out
        rw [List.take_length, HN.out, List.take_length] at this
        exact decide_eq_true this
  · have hne' : ((p.length : Int) != (q.length : Int)) = true := by simp; omega
    have HN := hid hne
    clear hne
    go_enter Tryz.func42, Tryz.ntmps42
    go_wp2_with fail
    go_ret
    refine ⟨ret_bool ?_, Below.refl _ _⟩
    symm
    rw [decide_eq_false_iff_not]
    rintro rfl
    exact HN.out rfl
end Go.Proofs.LF
namespace Go.Proofs.LF
theorem treF_smc : ∀ (m d : Nat) (l : List Fl), l.length ≤ m → l.length ≤ 1000 → (∀ x ∈ l, (∀ k ∈ x.p, k.n.length ≤ 1000) ∧ x.l.length ≤ 1000) → (treF d l).1.Sm ∧ (treF d l).1.len ≤ l.length
  | _, d, [], _, _, _ => by rw [treF_nil]; exact ⟨trivial, Nat.zero_le _⟩
  | 0, _, _ :: _, h, _, _ => by simp at h
  | m + 1, d, x :: l, h, h2, h3 => by
    by_cases hx : x.p.length = d + 1
    · rw [treF_yes hx]
      simp only [List.length_cons] at h h2
      obtain ⟨a1, a2⟩ := treF_smc m (d + 1) l (by omega) (by omega) fun y hy => h3 y (by simp [hy])
      obtain ⟨b1, b2⟩ := treF_smc m d (l.drop (treF (d + 1) l).2) (by rw [List.length_drop]; omega) (by rw [List.length_drop]; omega) fun y hy => h3 y (by simp [List.mem_of_mem_drop hy])
      have h4 := h3 x (by simp)
      rw [List.length_drop] at b2
      refine ⟨⟨h4.1 _ (List.getElem_mem _), h4.2, by omega, a1, b1⟩, ?_⟩
      simp only [Fo.len, List.length_cons]
      omega
    · rw [treF_no hx]; exact ⟨trivial, Nat.zero_le _⟩
theorem jnR_len {o a b : List Fl} : ∀ (ps : List (List Ky)) (kept : List Fl) (named : List (List Ky)), (jnR o a b ps kept named).2.length ≤ named.length + ps.length ∧ (∀ p ∈ (jnR o a b ps kept named).2, p ∈ named ∨ p ∈ ps)
  | [], kept, named => ⟨by simp [jnR], fun p hp => .inl hp⟩
  | p :: ps, kept, named => by
    rw [jnR]
    split
    · obtain ⟨h1, h2⟩ := jnR_len (o := o) (a := a) (b := b) ps kept (if clB o a b p then named ++ [p] else named)
      refine ⟨?_, fun q hq => ?_⟩
      · split at h1 <;> simp at h1 ⊢ <;> split <;> simp_all <;> omega
      · rcases h2 q hq with h | h
        · split at h
          · rcases List.mem_append.1 h with h | h
            · exact .inl h
            · exact .inr (by simp at h; simp [h])
          · exact .inl h
        · exact .inr (by simp [h])
    · split
      · obtain ⟨h1, h2⟩ := jnR_len (o := o) (a := a) (b := b) ps kept (named ++ [p])
        refine ⟨by simp at h1 ⊢; omega, fun q hq => ?_⟩
        rcases h2 q hq with h | h
        · rcases List.mem_append.1 h with h | h
          · exact .inl h
          · exact .inr (by simp at h; simp [h])
        · exact .inr (by simp [h])
      · rename_i x _ _
        obtain ⟨h1, h2⟩ := jnR_len (o := o) (a := a) (b := b) ps (kept ++ [x]) (if clB o a b p then named ++ [p] else named)
        refine ⟨?_, fun q hq => ?_⟩
        · split at h1 <;> simp at h1 ⊢ <;> split <;> simp_all <;> omega
        · rcases h2 q hq with h | h
          · split at h
            · rcases List.mem_append.1 h with h | h
              · exact .inl h
              · exact .inr (by simp at h; simp [h])
            · exact .inl h
          · exact .inr (by simp [h])
theorem pths3_len {o a b : List Fl} (h1 : o.length ≤ 60) (h2 : a.length ≤ 60) (h3 : b.length ≤ 60) : (pthsF [o, a, b]).length ≤ 180 := by
  have := pths_len (ls := [o, a, b])
  simp at this; omega
theorem join_bd {x y z : Fo} (kx : chkY x = 0) (ky : chkY y = 0) (kz : chkY z = 0) : (joY x y z).Sm ∧ (joY x y z).len ≤ 1000 ∧ (joP x y z).length ≤ 1000 ∧ (∀ p ∈ joP x y z, p.length ≤ 1000) := by
  have hcp : cpE [x, y, z] = 0 := by simp [cpE, kx, ky, kz]
  obtain ⟨ox, px, lx⟩ := fls_ok kx
  obtain ⟨oy, py, ly⟩ := fls_ok ky
  obtain ⟨oz, pz, lz⟩ := fls_ok kz
  have hg : ∀ l ∈ [flsL [] x, flsL [] y, flsL [] z], ∀ q ∈ l, GoodP q.p ∧ q.p ≠ [] := fun l hl q hq => by
    simp only [List.mem_cons, List.not_mem_nil, or_false] at hl
    rcases hl with rfl | rfl | rfl
    · exact ⟨fls_good kx q hq, flsL_ne q hq⟩
    · exact ⟨fls_good ky q hq, flsL_ne q hq⟩
    · exact ⟨fls_good kz q hq, flsL_ne q hq⟩
  obtain ⟨j1, j2, j3, j4⟩ := join_eq (fls_srt kx) (fls_srt ky) (fls_srt kz) hg
  have hjo : joF x y z = ((lsF [] [] (jnF (flsL [] x) (flsL [] y) (flsL [] z) [] [] (pthsF [flsL [] x, flsL [] y, flsL [] z])).1).1, srtP (cnF (jnF (flsL [] x) (flsL [] y) (flsL [] z) [] [] (pthsF [flsL [] x, flsL [] y, flsL [] z])).2 (lsF [] [] (jnF (flsL [] x) (flsL [] y) (flsL [] z) [] [] (pthsF [flsL [] x, flsL [] y, flsL [] z])).1).2)) := rfl
  rw [← hjo] at j1
  have hJ1 : (lsF [] [] (jnF (flsL [] x) (flsL [] y) (flsL [] z) [] [] (pthsF [flsL [] x, flsL [] y, flsL [] z])).1).1 = (joF x y z).1 := by rw [hjo]
  rw [hJ1] at j2 j3 j4
  have hE : joE x y z = if 60 < (joF x y z).1.length then 2 else 0 := by rw [joE, if_neg (by simp [hcp])]
  have hY : joY x y z = if joE x y z = 0 then (treF 0 (joF x y z).1).1 else .nil := rfl
  have hP : joP x y z = if joE x y z = 0 then (joF x y z).2 else [] := rfl
  rw [hY, hP, hE]
  have hjl := jnR_len (o := flsL [] x) (a := flsL [] y) (b := flsL [] z) (pthsF [flsL [] x, flsL [] y, flsL [] z]) [] []
  rw [j1] at hjl
  have hpl := pths3_len lx ly lz
  have hpm : ∀ p ∈ pthsF [flsL [] x, flsL [] y, flsL [] z], p.length ≤ 1000 := fun p hp => by
    obtain ⟨u, hu, rfl⟩ := pths_mem hp
    simp only [List.flatten_cons, List.flatten_nil, List.append_nil, List.mem_append] at hu
    rcases hu with hu | hu | hu
    · exact (px u hu).1
    · exact (py u hu).1
    · exact (pz u hu).1
  have hsm : ∀ q ∈ (joF x y z).1, (∀ k ∈ q.p, k.n.length ≤ 1000) ∧ q.l.length ≤ 1000 := fun q hq => by
    rcases j4 q hq with h | h | h
    · exact ⟨(ox q h).2.2, (ox q h).2.1⟩
    · exact ⟨(oy q h).2.2, (oy q h).2.1⟩
    · exact ⟨(oz q h).2.2, (oz q h).2.1⟩
  by_cases h60 : 60 < (joF x y z).1.length
  · rw [if_pos h60, if_neg (by decide), if_neg (by decide)]
    exact ⟨trivial, Nat.zero_le _, Nat.zero_le _, fun p hp => by cases hp⟩
  · rw [if_neg h60, if_pos rfl, if_pos rfl]
    obtain ⟨t1, t2⟩ := treF_smc (joF x y z).1.length 0 (joF x y z).1 (Nat.le_refl _) (by omega) hsm
    refine ⟨t1, by omega, ?_, ?_⟩
    · have := hjl.1; simp at this; omega
    · intro p hp
      rcases hjl.2 p hp with h | h
      · cases h
      · exact hpm p h
end Go.Proofs.LF
namespace Go.Proofs.LF
theorem runN_app {p : UInt8 → Bool} : ∀ {a b : List UInt8} {m : Nat}, (∀ c ∈ a, p c = true) → a.length ≤ m → (a.length = m ∨ ∀ c, b.head? = some c → p c = false) → runN p m (a ++ b) = a.length
  | [], b, 0, _, _, _ => by simp [runN]
  | [], [], m + 1, _, _, _ => by simp [runN]
  | [], c :: b, m + 1, _, _, h => by
    have h := h.resolve_left (by simp) c rfl
    simp [runN, h]
  | c :: a, b, 0, _, h, _ => by simp at h
  | c :: a, b, m + 1, h1, h2, h3 => by
    have hc := h1 c (by simp)
    simp only [List.length_cons] at h2 h3
    simp only [List.cons_append, runN, hc, if_true, List.length_cons]
    rw [runN_app (fun d hd => h1 d (by simp [hd])) (by omega) (h3.imp (fun h => by omega) id)]
theorem dec_head : ∀ (m u : Nat), u < m → 0 < u → ∃ c r, Lib.decDigits u = c :: r ∧ c ≠ 48
  | 0, _, h, _ => by omega
  | m + 1, u, h, h0 => by
    rw [Lib.decDigits]
    by_cases hu : u < 10
    · rw [dif_pos hu]
      refine ⟨_, [], rfl, fun e => ?_⟩
      have := congrArg UInt8.toNat e
      rw [UInt8.toNat_ofNat'] at this
      simp at this
      omega
    · rw [dif_neg hu]
      obtain ⟨c, r, h1, h2⟩ := dec_head m (u / 10) (by omega) (by omega)
      rw [h1]
      exact ⟨c, _, rfl, h2⟩
theorem itoa_rd {x : Int} (h0 : 0 ≤ x) (h1 : x ≤ 9999) (T : List UInt8) (hT : ∀ c, T.head? = some c → digitB c = false) : runN digitB (mostD (Lib.itoa x ++ T)) (Lib.itoa x ++ T) = (Lib.itoa x).length ∧ (Lib.itoa x).length ≠ 0 ∧ (decN (Lib.itoa x) : Int) = x := by
  have hx : Lib.itoa x = Lib.decDigits x.toNat := by unfold Lib.itoa; rw [if_neg (by omega)]
  obtain ⟨d1, d2⟩ := decN_dec (x.toNat + 1) x.toNat (by omega)
  have hl := itoa_len h0 h1
  rw [hx] at hl ⊢
  by_cases hz : x.toNat = 0
  · rw [hz] at d1 d2 hl ⊢
    have e : Lib.decDigits 0 = [48] := by rw [Lib.decDigits]; rfl
    rw [e] at d1 d2 ⊢
    refine ⟨?_, by simp, by rw [d1]; omega⟩
    rw [show mostD ([48] ++ T) = 1 by simp [mostD]]
    exact runN_app (a := [48]) d2 (by simp) (.inl rfl)
  · obtain ⟨c, r, e, hc⟩ := dec_head (x.toNat + 1) x.toNat (by omega) (by omega)
    refine ⟨?_, by rw [e]; simp, by rw [d1]; omega⟩
    have hm : mostD (Lib.decDigits x.toNat ++ T) = 4 := by
      rw [mostD, if_neg (by rw [e]; simpa using hc)]
    rw [hm]
    exact runN_app d2 hl (.inr hT)
theorem rdNums_txt {rest : List UInt8} : ∀ (l : List Int) (m : Nat), (∀ x ∈ l, 0 ≤ x ∧ x ≤ 9999) → l.length ≤ m → rdNums m ((l.map fun i => 32 :: Lib.itoa i).flatten ++ 10 :: rest) = (l, (l.map fun i => 32 :: Lib.itoa i).flatten.length, true)
  | [], 0, _, _ => by simp [rdNums]
  | [], m + 1, _, _ => by simp [rdNums, runN, blankB]
  | x :: l, 0, _, h => by simp at h
  | x :: l, m + 1, h, hl => by
    have hx := h x (by simp)
    have ih := rdNums_txt (rest := rest) l m (fun z hz => h z (by simp [hz])) (by simpa using hl)
    simp only [List.map_cons, List.flatten_cons, List.append_assoc, List.cons_append]
    obtain ⟨T, hT⟩ : ∃ T, (l.map fun i => 32 :: Lib.itoa i).flatten ++ 10 :: rest = T := ⟨_, rfl⟩
    rw [hT] at ih ⊢
    have hTd : ∀ c, T.head? = some c → digitB c = false := by
      intro c hc
      rw [← hT] at hc
      cases l with
      | nil => simp at hc; subst hc; decide
      | cons z l => simp at hc; subst hc; decide
    obtain ⟨i1, i2, i3⟩ := itoa_rd hx.1 hx.2 T hTd
    have hb : runN blankB 1 (32 :: (Lib.itoa x ++ T)) ≠ 0 := by simp [runN, blankB]
    rw [rdNums]
    simp only [List.drop_succ_cons, List.drop_zero]
    rw [if_neg hb, i1, if_neg i2, List.take_left, List.drop_left, ih, i3]
    simp only [List.length_cons, List.length_append, Prod.mk.injEq, and_true, true_and]
    omega
theorem badNm_small {n : List UInt8} (h : badNm n = false) : ∀ c ∈ n, smallB c = true := by
  intro c hc
  simp only [badNm, Bool.or_eq_false_iff, List.any_eq_false, Bool.or_eq_true, decide_eq_true_eq, not_or] at h
  have := h.1.1 c hc
  simp only [smallB, inB, Bool.and_eq_true, decide_eq_true_eq]
  omega
theorem rdLine_txt {x : NdD} (hx : OkN x) {dp : Nat} (hd : x.up.length ≤ dp) (rest : List UInt8) : rdLine dp (lineB x ++ rest) = (x.up.length, x.n, x.l, (lineB x).length - 1, true) := by
  obtain ⟨h1, h2, h3⟩ := hx
  have hl := badNm_len h1
  have hs := badNm_small h1
  have hn := badNs_mem h3
  have e : lineB x ++ rest = List.replicate x.up.length 32 ++ (x.n ++ ((x.l.map fun i => 32 :: Lib.itoa i).flatten ++ 10 :: rest)) := by
    simp [lineB, join_words]
  have hlen : (lineB x).length - 1 = x.up.length + x.n.length + (x.l.map fun i => 32 :: Lib.itoa i).flatten.length := by
    simp [lineB, join_words]; omega
  obtain ⟨T, hT⟩ : ∃ T, (x.l.map fun i => 32 :: Lib.itoa i).flatten ++ 10 :: rest = T := ⟨_, rfl⟩
  have hnb : ∀ c, (x.n ++ T).head? = some c → blankB c = false := by
    intro c hc
    cases hxn : x.n with
    | nil => rw [hxn] at hl; simp at hl
    | cons a r =>
      rw [hxn] at hc
      simp at hc
      subst hc
      have := hs a (by rw [hxn]; simp)
      simp only [smallB, inB, Bool.and_eq_true, decide_eq_true_eq] at this
      simp only [blankB, beq_eq_false_iff_ne]
      rintro rfl
      simp at this
  have hTs : ∀ c, T.head? = some c → smallB c = false := by
    intro c hc
    rw [← hT] at hc
    cases hxl : x.l with
    | nil => rw [hxl] at hc; simp at hc; subst hc; decide
    | cons z l => rw [hxl] at hc; simp at hc; subst hc; decide
  have a1 : runN blankB dp (List.replicate x.up.length 32 ++ (x.n ++ T)) = x.up.length := by
    have := runN_app (p := blankB) (a := List.replicate x.up.length 32) (b := x.n ++ T) (m := dp) (fun c hc => by rw [List.eq_of_mem_replicate hc]; decide) (by simpa using hd) (.inr hnb)
    simpa using this
  have a2 : runN smallB 8 (x.n ++ T) = x.n.length := runN_app hs hl.2 (.inr hTs)
  have a3 := rdNums_txt (rest := rest) x.l 4 hn h2
  rw [hT] at a3
  rw [e, hT, rdLine, hlen]
  dsimp only
  have hdr : (List.replicate x.up.length (32 : UInt8) ++ (x.n ++ T)).drop x.up.length = x.n ++ T := by
    rw [List.drop_left' (by simp)]
  rw [a1, hdr, a2, if_neg (by omega), List.take_left, List.drop_left, a3]
  have : ((x.n ++ T).drop (x.n.length + (x.l.map fun i => 32 :: Lib.itoa i).flatten.length)).head? = some 10 := by
    rw [← List.drop_drop, List.drop_left, ← hT, List.drop_left]; rfl
  dsimp only
  rw [this]
  simp
def Chn : List Ky → List NdD → Prop
  | _, [] => True
  | prev, x :: xs => (x.up = prev.take x.up.length ∧ x.up.length ≤ prev.length ∧ x.up.length ≤ 3 ∧ OkN x) ∧ Chn (x.up ++ [kyOf x.n x.l]) xs
theorem chn_nodes : ∀ (y : Fo) (up prev : List Ky) (rest : List NdD), OkG up.length y → prev.take up.length = up → up.length ≤ prev.length → (∀ prev', prev'.take up.length = up → up.length ≤ prev'.length → Chn prev' rest) → Chn prev (nodesL up y ++ rest)
  | .nil, up, prev, rest, _, h1, h2, h => by simpa [nodesL] using h prev h1 h2
  | .cons n l s r, up, prev, rest, ⟨⟨g1, g2, g3, g4⟩, g5, _, g7⟩, h1, h2, h => by
    simp only [nodesL, List.cons_append, List.append_assoc]
    refine ⟨⟨h1.symm, h2, g1, g2, g3, g4⟩, ?_⟩
    refine chn_nodes s (up ++ [kyOf n l]) _ _ (by simpa using g5) (List.take_of_length_le (Nat.le_refl _)) (Nat.le_refl _) fun prev' p1 p2 => ?_
    have q1 : prev'.take up.length = up := by
      have := congrArg (List.take up.length) p1
      rw [List.take_take, List.length_append, List.length_singleton, Nat.min_eq_left (by omega), List.take_left] at this
      exact this
    exact chn_nodes r up prev' rest g7 q1 (by simp at p2; omega) h
def flD (x : NdD) : Fl := ⟨x.up ++ [kyOf x.n x.l], x.l⟩
theorem prs_nodes (t : List UInt8) : ∀ (xs : List NdD) (f i ln : Nat) (prev ks : List Ky) (fs : List Fl), t.drop i = txtL xs → xs.length < f → ln + xs.length ≤ 60 → Chn prev xs → ks.length = 4 → prev.length ≤ 4 → ks.take prev.length = prev → Srt (fs ++ xs.map flD) →
    prsG t f i ln (min prev.length 3) ks fs = (fs ++ xs.map flD, 0, 0, 0)
  | [], f + 1, i, ln, prev, ks, fs, h, _, _, _, _, _, _, _ => by
    have : ¬ i < t.length := fun hi => by
      have := congrArg List.length h
      rw [List.length_drop] at this
      simp [txtL] at this
      omega
    rw [prsG, if_neg this]
    simp
  | [], 0, _, _, _, _, _, _, h, _, _, _, _, _, _ => by omega
  | x :: xs, 0, _, _, _, _, _, _, h, _, _, _, _, _, _ => by omega
  | x :: xs, f + 1, i, ln, prev, ks, fs, h, hf, hln, ⟨⟨c1, c2, c3, c4⟩, c5⟩, hk, hp4, hkp, hs => by
    have htx : txtL (x :: xs) = lineB x ++ txtL xs := by simp [txtL]
    have hlp : 0 < (lineB x).length := by simp [lineB]; omega
    have hi : i < t.length := by
      have := congrArg List.length h
      rw [List.length_drop, htx, List.length_append] at this
      omega
    simp only [List.length_cons] at hf hln
    rw [prsG, if_pos hi, if_neg (by omega), h, htx, rdLine_txt c4 (by omega)]
    dsimp only
    rw [if_neg (by simp)]
    have hkd : ks.take x.up.length = x.up := by
      have := congrArg (List.take x.up.length) hkp
      rw [List.take_take, Nat.min_eq_left c2, ← c1] at this
      exact this
    have hks : (ks.set x.up.length (kyOf x.n x.l)).take (x.up.length + 1) = x.up ++ [kyOf x.n x.l] := by
      rw [List.take_succ_eq_append_getElem (by simp; omega), List.take_set_of_le (Nat.le_refl _), hkd]
      simp
    rw [hks]
    have hany : (fs.any fun z => decide (0 ≤ cmpP z.p (x.up ++ [kyOf x.n x.l]))) = false := by
      rw [List.any_eq_false]
      intro z hz
      have := (List.pairwise_append.1 hs).2.2 z hz (flD x) (by simp)
      simp only [flD] at this
      simp only [decide_eq_true_eq]
      omega
    rw [hany, if_neg (by simp)]
    have e1 : i + ((lineB x).length - 1) + 1 = i + (lineB x).length := by omega
    have e2 : min (x.up.length + 1) 3 = min (x.up ++ [kyOf x.n x.l]).length 3 := by simp
    have hd : t.drop (i + (lineB x).length) = txtL xs := by rw [← List.drop_drop, h, htx, List.drop_left]
    rw [e1, e2]
    have := prs_nodes t xs f (i + (lineB x).length) (ln + 1) (x.up ++ [kyOf x.n x.l]) (ks.set x.up.length (kyOf x.n x.l)) (fs ++ [flD x]) hd (by omega) (by omega) c5 (by simpa using hk) (by simp; omega) (by rw [List.length_append, List.length_singleton]; exact hks) (by simpa using hs)
    rw [show (⟨x.up ++ [kyOf x.n x.l], x.l⟩ : Fl) = flD x from rfl, this]
    simp
theorem fls_flD (y : Fo) : flsL [] y = (nodesL [] y).map flD := rfl
theorem prs_txt {y : Fo} (h : chkY y = 0) : prs (txtL (nodesL [] y)) = (flsL [] y, 0, 0, 0) := by
  have hlen : (nodesL [] y).length ≤ 60 := by rw [nodesL_length]; exact chk_cnt h
  have := prs_nodes (txtL (nodesL [] y)) (nodesL [] y) 62 0 0 [] [ky0, ky0, ky0, ky0] [] rfl (by omega) (by omega) (by
    have := chn_nodes y [] [] [] (chk_okG h) rfl (Nat.le_refl _) (fun _ _ _ => trivial)
    simpa using this) rfl (by simp) rfl (by rw [List.nil_append, ← fls_flD]; exact fls_srt h)
  rw [prs]
  simpa [fls_flD] using this
end Go.Proofs.LF
