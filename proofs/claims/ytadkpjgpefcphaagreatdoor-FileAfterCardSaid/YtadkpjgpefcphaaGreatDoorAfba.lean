/- Parts of the proof of a law of layer 11 (file): LfW48, LfAfR, LfVal, LfW75, LfW49, LfW94, LfW78. The conditions stand in each theorem. -/
import Derived.Test.YtadkpjgpefcphaaGreatDoorProg
import Derived.Test.YtadkpjgpefcphaaGreatDoorAfad
import Derived.Test.YtadkpjgpefcphaaGreatDoorAfae
import Derived.Test.YtadkpjgpefcphaaGreatDoorAfal
import Derived.Test.YtadkpjgpefcphaaGreatDoorAfap
import Derived.Test.YtadkpjgpefcphaaGreatDoorAfas
import Derived.Test.YtadkpjgpefcphaaGreatDoorAfat
import Derived.Test.YtadkpjgpefcphaaGreatDoorAfax
import Derived.Test.YtadkpjgpefcphaaGreatDoorAfay
import Derived.Test.YtadkpjgpefcphaaGreatDoorAfaz
set_option linter.all false
set_option linter.unusedVariables false
set_option linter.unusedSimpArgs false
namespace Go.Proofs.LF
open Go.RowKit Go.Sort
set_option maxHeartbeats 4000000
set_option maxRecDepth 100000
attribute [local go_sem] bs_toList bs_size bs_get
def bedN : List UInt8 := [98, 101, 100]
def rakedN : List UInt8 := [114, 97, 107, 101, 100]
def soldN : List UInt8 := [115, 111, 108, 100]
def oneY (n : Int) : Fo := .cons bedN [3] (.cons rakedN [5, n] .nil .nil) (.cons soldN [] .nil .nil)
theorem FCs.alloc {S : Nat → Prop} {w : World} {y : Fo} {cs : List Value} (h : FCs S w y cs) (hS : ∀ b, S b → b < w.heap.size) (o : Obj) : FCs S (w.alloc o) y cs := h.agree (fun b hb => heap_alloc_old _ _ (hS b hb))
theorem slc_block {S : Nat → Prop} {w : World} {b k n : Nat} {vs : Array Value} {t : TypeId} {fr : Nat × Nat} (hb : w.heap[b]? = some (.cells vs t fr)) (hS : S b) (hl : vs.size = n * k) (hn : n ≤ maxLen) : SlC S w k (.slice (some ⟨b, 0, none⟩) n n) n vs.toList := by
 refine ⟨by simpa using hl, _, n, rfl, nl_ _, hn, (fun h => by cases h), .inr ⟨b, 0, rfl, hS, fun j u hj => ?_⟩⟩
 simp only [World.cell?, hb, Nat.zero_add]
 simpa using hj
theorem One_any (n : Int) (w : World) :
 Calls Tryz.prog 80 #[.int .i64 n] w fun e w' => ∃ g, e = .returned (.slice (some ⟨g, 0, none⟩) 2 2) ∧ FSl (Rg w.heap.size w'.heap.size) w' (.slice (some ⟨g, 0, none⟩) 2 2) (oneY n) ∧ Below w.heap.size w w' := by
 go_enter Tryz.func80, Tryz.ntmps80
 go_wp2_with fail
 refine bodyPost_ret (v := .slice (some ⟨w.heap.size + 1 + 1 + 1, 0, none⟩) 2 2) (by simp [results, Tryz.results80, go_sem]) rfl ?_
 refine ⟨w.heap.size + 1 + 1 + 1, rfl, ?_, ?_⟩
 · have key : ∀ (N : Nat) (W : World) (A B C D : Obj), A = .cells #[.int .i64 3] 3 → B = .cells #[.int .i64 5, .int .i64 n] 3 → C = .cells #[.string ⟨#[114, 97, 107, 101, 100]⟩, .slice (some ⟨N + 1, 0, none⟩) 2 2, .slice none 0 0] 85 →
    D = .cells #[.string ⟨#[98, 101, 100]⟩, .slice (some ⟨N, 0, none⟩) 1 1, .slice (some ⟨N + 1 + 1, 0, none⟩) 1 1, .string ⟨#[115, 111, 108, 100]⟩, .slice none 0 0, .slice none 0 0] 85 → N = w.heap.size → W = (((w.alloc A).alloc B).alloc C).alloc D → FSl (Rg w.heap.size W.heap.size) W (.slice (some ⟨N + 1 + 1 + 1, 0, none⟩) 2 2) (oneY n) := by
    rintro N W A B C D hA hB hC hD hN hW
    have hz : W.heap.size = N + 4 := by rw [hW, hN]; simp
    have a0 : W.heap[N]? = some A := by
     rw [hW, hN]
     exact (heap_alloc_old _ _ (by simp; omega)).trans ((heap_alloc_old _ _ (by simp; omega)).trans ((heap_alloc_old _ _ (by simp)).trans (heap_alloc_new w A)))
    have a1 : W.heap[N + 1]? = some B := by
     have h := heap_alloc_new (w.alloc A) B
     simp only [World.size_alloc] at h
     rw [hW, hN]
     exact (heap_alloc_old _ _ (by simp)).trans ((heap_alloc_old _ _ (by simp)).trans h)
    have a2 : W.heap[N + 1 + 1]? = some C := by
     have h := heap_alloc_new ((w.alloc A).alloc B) C
     simp only [World.size_alloc] at h
     rw [hW, hN]
     exact (heap_alloc_old _ _ (by simp)).trans h
    have a3 : W.heap[N + 1 + 1 + 1]? = some D := by
     have h := heap_alloc_new (((w.alloc A).alloc B).alloc C) D
     simp only [World.size_alloc] at h
     rw [hW, hN]
     exact h
    have hS : ∀ k, k < 4 → Rg w.heap.size W.heap.size (N + k) := fun k hk => ⟨by omega, by omega⟩
    rw [hA] at a0
    rw [hB] at a1
    rw [hC] at a2
    rw [hD] at a3
    have i0 : Ints (Rg w.heap.size W.heap.size) W (.slice (some ⟨N, 0, none⟩) 1 1) [3] := slc_block (vs := #[.int .i64 3]) a0 (hS 0 (by omega)) rfl (by simp [maxLen])
    have i1 : Ints (Rg w.heap.size W.heap.size) W (.slice (some ⟨N + 1, 0, none⟩) 2 2) [5, n] := slc_block (vs := #[.int .i64 5, .int .i64 n]) a1 (hS 1 (by omega)) rfl (by simp [maxLen])
    have nilI : ∀ S, Ints S W (.slice none 0 0) [] := fun S => ⟨rfl, none, 0, rfl, nl_ _, by simp [maxLen], fun _ => rfl, .inl rfl⟩
    have nilF : ∀ S, ∃ ds, SlC S W 3 (.slice none 0 0) Fo.nil.len ds ∧ FCs S W .nil ds := fun S => ⟨[], ⟨rfl, none, 0, rfl, nl_ _, by simp [maxLen], fun _ => rfl, .inl rfl⟩, rfl⟩
    have s2 := slc_block (k := 3) (n := 1) (S := Rg w.heap.size W.heap.size) a2 (hS 2 (by omega)) rfl (by simp [maxLen])
    have s3 := slc_block (k := 3) (n := 2) (S := Rg w.heap.size W.heap.size) a3 (hS 3 (by omega)) rfl (by simp [maxLen])
    exact ⟨_, s3, _, _, _, rfl, i0, ⟨_, s2, _, _, _, rfl, i1, nilF _, rfl⟩, _, _, _, rfl, nilI _, nilF _, rfl⟩
   exact key w.heap.size _ _ _ _ _ rfl rfl rfl rfl rfl rfl
 · exact ((((Below.refl _ _).alloc (nl_ _) _).alloc (by simp) _).alloc (by simp; omega) _).alloc (by simp; omega) _
theorem K_any (s : ByteArray) (x : Int) (g c : Nat) (w : World) (hx : w.cell? ⟨g, 0, none⟩ = some (.int .i64 x)) (hg : g < w.heap.size) (hc : 1 ≤ c) :
 Calls Tryz.prog 51 #[.string s, .slice (some ⟨g, 0, none⟩) 1 c] w fun e w' => e = .returned (.agg #[.string s, .bool true, .int .i64 x]) ∧ Below w.heap.size w w' := by
 have hx' : (w.alloc (.cells #[.string ByteArray.empty, .bool false, .int .i64 0] 71)).cell? ⟨g, 0, none⟩ = some (.int .i64 x) := bc_ ((Below.refl w.heap.size _).alloc (nl_ _) _) hg hx
 go_enter Tryz.func51, Tryz.ntmps51
 go_wp2_with fail
 exact bodyPost_ret (v := .agg #[.string s, .bool true, .int .i64 x]) (by simp [results, Tryz.results51, go_sem]) rfl ⟨rfl, ((Below.refl _ _).alloc (nl_ _) _)⟩
theorem ky_beq (a b : Ky) : decide (a = b) = (a.n == b.n && (a.h == b.h && a.x == b.x)) := by
 obtain ⟨an, ah, ax⟩ := a
 obtain ⟨bn, bh, bx⟩ := b
 by_cases h1 : an = bn <;> by_cases h2 : ah = bh <;> by_cases h3 : ax = bx <;> simp [h1, h2, h3]
theorem eqKeys_any (p q : List Ky) (ap aq : Option Addr) (cp cq : Nat) (S : Nat → Prop) (w : World) (hp : Pth S w (.slice ap p.length cp) p) (hq : Pth S w (.slice aq q.length cq) q) (lp : p.length ≤ 100000) (lq : q.length ≤ 100000) :
 Calls Tryz.prog 42 #[.slice ap p.length cp, .slice aq q.length cq] w fun e w' => e = .returned (.bool (decide (p = q))) ∧ Below w.heap.size w w' := by
 by_cases hne : p.length = q.length
 · have hne' : ((p.length : Int) != (q.length : Int)) = false := by simp; omega
   have HN := hid hne
   clear hne
   go_enter Tryz.func42, Tryz.ntmps42
   go_wp2_with fail
   go_loopw [13] (fun i wr => ∃ (k d : Nat), k ≤ p.length ∧ i = .int .i64 k ∧ wr = w.drewN d ∧ Hid (p.take k = q.take k)) (fun i _ => p.length - (intOf i).toNat)
   case atStart => exact ⟨0, 0, by omega, rfl, rfl, by simp [Hid]⟩
   case round =>
    obtain ⟨k, d, hk, rfl, rfl, H2⟩ := hrel
    by_cases hlt : k < p.length
    · obtain ⟨g, o, rfl, _, _, _, hcell⟩ := SlC.cells hp (by omega)
      obtain ⟨g', o', rfl, _, _, _, hcell'⟩ := SlC.cells hq (by have := HN.out; omega)
      have hlt' : k < q.length := by have := HN.out; omega
      obtain ⟨k0, k1, k2⟩ := key_cells hlt
      obtain ⟨k0', k1', k2'⟩ := key_cells hlt'
      have c0 := hcell _ _ k0
      have c1 := hcell _ _ k1
      have c2 := hcell _ _ k2
      have d0 := hcell' _ _ k0'
      have d1 := hcell' _ _ k1'
      have d2 := hcell' _ _ k2'
      rw [← Nat.add_assoc] at c1 c2 d1 d2
      have htp : p.take (k + 1) = p.take k ++ [p[k]] := List.take_succ_eq_append_getElem hlt
      have htq : q.take (k + 1) = q.take k ++ [q[k]] := List.take_succ_eq_append_getElem hlt'
      obtain ⟨a, ha⟩ : ∃ a, p[k] = a := ⟨_, rfl⟩
      obtain ⟨b, hb⟩ : ∃ b, q[k] = b := ⟨_, rfl⟩
      have HA := hid ha
      have HB := hid hb
      rw [ha] at c0 c1 c2 htp
      rw [hb] at d0 d1 d2 htq
      have HTP := hid htp
      have HTQ := hid htq
      clear hcell hcell' k0 k1 k2 k0' k1' k2' htp htq ha hb
      have i1 : (0 : Int) ≤ (k : Int) := by omega
      have i2 : (k : Int) < (p.length : Int) := by omega
      have i3 : (k : Int) < (q.length : Int) := by omega
      by_cases he : a = b
      · subst he
        go_wp2_with fail
        go_quiet (fail)
        go_wp2_with fail
        go_roundw
        case rel => exact ⟨k + 1, _, by omega, by go_num, rfl, by rw [Hid, HTP.out, HTQ.out, H2.out]⟩
        case measure => simp [intOf]; omega
      · have hdec : (a.n == b.n && (a.h == b.h && a.x == b.x)) = false := by rw [← ky_beq]; simp [he]
        have HE := hid he
        have HDEC := hid hdec
        clear he hdec
        cases hn : (a.n == b.n) <;> cases hh : (a.h == b.h) <;> cases hx : (a.x == b.x)
        all_goals first
         | (exfalso; have := HDEC.out; rw [hn, hh, hx] at this; cases this; done)
         | (go_wp2_with fail
            go_quiet (fail)
            go_wp2_with fail
            go_ret
            refine ⟨ret_bool ?_, below_drewN (below_drewN (Below.refl _ _) _) _⟩
            symm
            rw [decide_eq_false_iff_not]
            rintro rfl
            exact HE.out (HA.out.symm.trans HB.out))
    · go_wp2_with fail
      go_ret
      obtain rfl : k = p.length := by omega
      refine ⟨ret_bool ?_, below_drewN (Below.refl _ _) _⟩
      symm
      have := H2.out
      rw [List.take_length, HN.out, List.take_length] at this
      exact decide_eq_true this
 · have hne' : ((p.length : Int) != (q.length : Int)) = true := by simp; omega
   have HN := hid hne
   clear hne
   go_enter Tryz.func42, Tryz.ntmps42
   go_wp2_with fail
   go_ret
   refine ⟨ret_bool ?_, Below.refl _ _⟩
   symm
   rw [decide_eq_false_iff_not]
   rintro rfl
   exact HN.out rfl
end Go.Proofs.LF
namespace Go.Proofs.LF
def clsC (a b : Ch) : Bool := !((a.has == b.had) && decide (a.new = b.old))
def bthC (a b : Ch) : Ch := ⟨a.p, a.had, b.has, a.old, b.new⟩
def amr : List Ch → List Ch → Option (List Ch)
 | [], m => some m
 | a :: l, [] => some (a :: l)
 | a :: l, b :: m =>
   if cmpP a.p b.p < 0 then (amr l (b :: m)).map (a :: ·)
   else if cmpP b.p a.p < 0 then (amr (a :: l) m).map (b :: ·)
   else if clsC a b then none
   else if nopC (bthC a b) then amr l m
   else (amr l m).map (bthC a b :: ·)
termination_by l m => l.length + m.length
theorem fdC_cons {b : Ch} {m : List Ch} {p : List Ky} : fdC (b :: m) p = if b.p = p then some b else fdC m p := by
 unfold fdC
 rw [List.find?_cons]
 by_cases h : b.p = p <;> simp [h]
theorem fdC_ne {m : List Ch} {p : List Ky} (h : ∀ c ∈ m, c.p ≠ p) : fdC m p = none := by
 unfold fdC
 rw [List.find?_eq_none]
 intro c hc
 simpa using h c hc
theorem lt_ne {p q : List Ky} (h : cmpP p q < 0) : p ≠ q := fun e => by rw [e, cmpP_ord.refl] at h; omega
theorem claC_fd {m m' : List Ch} {a : Ch} (h : fdC m a.p = fdC m' a.p) : claC m a = claC m' a := by unfold claC; rw [h]
theorem mrgC_fd {m m' : List Ch} {a : Ch} (h : fdC m a.p = fdC m' a.p) : mrgC m a = mrgC m' a := by unfold mrgC; rw [h]
theorem any_fd {l m m' : List Ch} (h : ∀ a ∈ l, fdC m a.p = fdC m' a.p) : l.any (claC m) = l.any (claC m') := by
 induction l with
 | nil => rfl
 | cons a l ih =>
   rw [List.any_cons, List.any_cons, claC_fd (h a (by simp)), ih fun x hx => h x (by simp [hx])]
theorem amr_none : ∀ (l m : List Ch), SrtC l → SrtC m → (amr l m = none ↔ l.any (claC m) = true)
 | [], m, _, _ => by simp [amr]
 | a :: l, [], _, _ => by
   have : ∀ x : Ch, claC [] x = false := fun x => rfl
   simp [amr, this]
 | a :: l, b :: m, hl, hm => by
   obtain ⟨l1, l2⟩ := List.pairwise_cons.1 hl
   obtain ⟨m1, m2⟩ := List.pairwise_cons.1 hm
   rw [amr]
   by_cases h1 : cmpP a.p b.p < 0
   · rw [if_pos h1, Option.map_eq_none_iff, amr_none l (b :: m) l2 hm, List.any_cons]
     have : claC (b :: m) a = false := by
      unfold claC
      rw [fdC_ne fun c hc => ?_]
      rcases List.mem_cons.1 hc with rfl | hc
      · exact (lt_ne h1).symm
      · exact (lt_ne (cmpP_ord.trans h1 (m1 c hc))).symm
     rw [this, Bool.false_or]
   rw [if_neg h1]
   by_cases h2 : cmpP b.p a.p < 0
   · rw [if_pos h2, Option.map_eq_none_iff, amr_none (a :: l) m hl m2]
     rw [any_fd (m := b :: m) (m' := m) fun x hx => ?_]
     rw [fdC_cons, if_neg]
     rcases List.mem_cons.1 hx with rfl | hx
     · exact lt_ne h2
     · exact lt_ne (cmpP_ord.trans h2 (l1 x hx))
   rw [if_neg h2]
   have he : b.p = a.p := by
    rcases Int.lt_trichotomy (cmpP a.p b.p) 0 with h' | h' | h'
    · exact absurd h' h1
    · exact (cmpP_ord.eq h').symm
    · exact absurd (cmpP_ord.flop h') h2
   have hca : claC (b :: m) a = clsC a b := by
    unfold claC
    rw [fdC_cons, if_pos he]; rfl
   have hrest : l.any (claC (b :: m)) = l.any (claC m) := any_fd fun x hx => by
    rw [fdC_cons, if_neg]
    rw [he]; exact lt_ne (l1 x hx)
   rw [List.any_cons, hca, hrest]
   cases hc : clsC a b with
   | true => simp
   | false =>
     rw [Bool.false_or, if_neg (by simp)]
     by_cases hn : nopC (bthC a b) = true
     · rw [if_pos hn, amr_none l m l2 m2]
     · rw [if_neg hn, Option.map_eq_none_iff, amr_none l m l2 m2]
termination_by l m => l.length + m.length
theorem aftO_mem {l m : List Ch} {x : Ch} : x ∈ aftO l m ↔ ((∃ a ∈ l, mrgC m a = x) ∨ x ∈ remC l m) ∧ nopC x = false := by
 simp only [aftO, List.mem_filter, List.mem_append, List.mem_map, Bool.not_eq_true']
theorem amr_some : ∀ (l m r : List Ch), SrtC l → SrtC m → (∀ c ∈ l, nopC c = false) → (∀ c ∈ m, nopC c = false) → amr l m = some r →
 SrtC r ∧ (∀ x, x ∈ r ↔ x ∈ aftO l m) ∧ (∀ x ∈ r, ∃ y, y ∈ l ++ m ∧ x.p = y.p)
 | [], m, r, _, hm, _, nm, h => by
   rw [amr] at h
   obtain rfl : m = r := by simpa using h
   refine ⟨hm, fun x => ?_, fun x hx => ⟨x, by simpa using hx, rfl⟩⟩
   rw [aftO_mem, remC_mem]
   constructor
   · exact fun hx => ⟨.inr ⟨hx, by simp⟩, nm x hx⟩
   · rintro ⟨⟨a, ha, _⟩ | ⟨hx, _⟩, _⟩
     · cases ha
     · exact hx
 | a :: l, [], r, hl, _, nl, _, h => by
   rw [amr] at h
   obtain rfl : a :: l = r := by simpa using h
   refine ⟨hl, fun x => ?_, fun x hx => ⟨x, by simpa using hx, rfl⟩⟩
   have hm : ∀ y : Ch, mrgC [] y = y := fun y => rfl
   rw [aftO_mem, remC_mem]
   constructor
   · exact fun hx => ⟨.inl ⟨x, hx, hm x⟩, nl x hx⟩
   · rintro ⟨⟨y, hy, e⟩ | ⟨hx, _⟩, _⟩
     · rw [hm] at e; subst e; exact hy
     · cases hx
 | a :: l, b :: m, r, hl, hm, nl, nm, h => by
   obtain ⟨l1, l2⟩ := List.pairwise_cons.1 hl
   obtain ⟨m1, m2⟩ := List.pairwise_cons.1 hm
   rw [amr] at h
   by_cases h1 : cmpP a.p b.p < 0
   · rw [if_pos h1, Option.map_eq_some_iff] at h
     obtain ⟨r', hr, rfl⟩ := h
     obtain ⟨i1, i2, i3⟩ := amr_some l (b :: m) r' l2 hm (fun c hc => nl c (by simp [hc])) nm hr
     have hfa : fdC (b :: m) a.p = none := fdC_ne fun c hc => by
      rcases List.mem_cons.1 hc with rfl | hc
      · exact (lt_ne h1).symm
      · exact (lt_ne (cmpP_ord.trans h1 (m1 c hc))).symm
     have hma : mrgC (b :: m) a = a := by unfold mrgC; rw [hfa]
     have hlt : ∀ y, y ∈ l ++ b :: m → cmpP a.p y.p < 0 := fun y hy => by
      rcases List.mem_append.1 hy with hy | hy
      · exact l1 y hy
      · rcases List.mem_cons.1 hy with rfl | hy
        · exact h1
        · exact cmpP_ord.trans h1 (m1 y hy)
     refine ⟨List.pairwise_cons.2 ⟨fun x hx => ?_, i1⟩, fun x => ?_, fun x hx => ?_⟩
     · obtain ⟨y, hy, e⟩ := i3 x hx
       rw [e]; exact hlt y hy
     · rw [List.mem_cons, i2 x, aftO_mem, aftO_mem, remC_mem, remC_mem]
       constructor
       · rintro (rfl | ⟨⟨y, hy, e⟩ | ⟨hx, hn⟩, hno⟩)
         · exact ⟨.inl ⟨x, by simp, hma⟩, nl x (by simp)⟩
         · exact ⟨.inl ⟨y, by simp [hy], e⟩, hno⟩
         · refine ⟨.inr ⟨hx, fun y hy => ?_⟩, hno⟩
           rcases List.mem_cons.1 hy with rfl | hy
           · exact lt_ne (hlt x (by simp only [List.mem_append]; exact .inr hx))
           · exact hn y hy
       · rintro ⟨⟨y, hy, e⟩ | ⟨hx, hn⟩, hno⟩
         · rcases List.mem_cons.1 hy with rfl | hy
           · rw [hma] at e; exact .inl e.symm
           · exact .inr ⟨.inl ⟨y, hy, e⟩, hno⟩
         · exact .inr ⟨.inr ⟨hx, fun y hy => hn y (by simp [hy])⟩, hno⟩
     · rcases List.mem_cons.1 hx with rfl | hx
       · exact ⟨x, by simp, rfl⟩
       · obtain ⟨y, hy, e⟩ := i3 x hx
         exact ⟨y, by simp at hy ⊢; exact .inr hy, e⟩
   rw [if_neg h1] at h
   by_cases h2 : cmpP b.p a.p < 0
   · rw [if_pos h2, Option.map_eq_some_iff] at h
     obtain ⟨r', hr, rfl⟩ := h
     obtain ⟨i1, i2, i3⟩ := amr_some (a :: l) m r' hl m2 nl (fun c hc => nm c (by simp [hc])) hr
     have hlt : ∀ y, y ∈ (a :: l) ++ m → cmpP b.p y.p < 0 := fun y hy => by
      rcases List.mem_append.1 hy with hy | hy
      · rcases List.mem_cons.1 hy with rfl | hy
        · exact h2
        · exact cmpP_ord.trans h2 (l1 y hy)
      · exact m1 y hy
     have hmy : ∀ y ∈ a :: l, mrgC (b :: m) y = mrgC m y := fun y hy => mrgC_fd (by
      rw [fdC_cons, if_neg (lt_ne (hlt y (by rw [List.mem_append]; exact .inl hy)))])
     refine ⟨List.pairwise_cons.2 ⟨fun x hx => ?_, i1⟩, fun x => ?_, fun x hx => ?_⟩
     · obtain ⟨y, hy, e⟩ := i3 x hx
       rw [e]; exact hlt y hy
     · rw [List.mem_cons, i2 x, aftO_mem, aftO_mem, remC_mem, remC_mem]
       constructor
       · rintro (rfl | ⟨⟨y, hy, e⟩ | ⟨hx, hn⟩, hno⟩)
         · exact ⟨.inr ⟨by simp, fun y hy => (lt_ne (hlt y (by rw [List.mem_append]; exact .inl hy))).symm⟩, nm x (by simp)⟩
         · exact ⟨.inl ⟨y, hy, by rw [hmy y hy]; exact e⟩, hno⟩
         · exact ⟨.inr ⟨by simp [hx], hn⟩, hno⟩
       · rintro ⟨⟨y, hy, e⟩ | ⟨hx, hn⟩, hno⟩
         · exact .inr ⟨.inl ⟨y, hy, by rw [← hmy y hy]; exact e⟩, hno⟩
         · rcases List.mem_cons.1 hx with rfl | hx
           · exact .inl rfl
           · exact .inr ⟨.inr ⟨hx, hn⟩, hno⟩
     · rcases List.mem_cons.1 hx with rfl | hx
       · exact ⟨x, by simp, rfl⟩
       · obtain ⟨y, hy, e⟩ := i3 x hx
         refine ⟨y, ?_, e⟩
         rw [List.mem_append] at hy ⊢
         rcases hy with hy | hy
         · exact .inl hy
         · exact .inr (by simp [hy])
   rw [if_neg h2] at h
   have he : b.p = a.p := by
    rcases Int.lt_trichotomy (cmpP a.p b.p) 0 with h' | h' | h'
    · exact absurd h' h1
    · exact (cmpP_ord.eq h').symm
    · exact absurd (cmpP_ord.flop h') h2
   cases hc : clsC a b with
   | true => rw [if_pos hc] at h; cases h
   | false =>
     rw [if_neg (by rw [hc]; simp)] at h
     have hma : mrgC (b :: m) a = bthC a b := by unfold mrgC; rw [fdC_cons, if_pos he]; rfl
     have hlt : ∀ y, y ∈ l ++ m → cmpP a.p y.p < 0 := fun y hy => by
      rcases List.mem_append.1 hy with hy | hy
      · exact l1 y hy
      · rw [← he]; exact m1 y hy
     have hmy : ∀ y ∈ l, mrgC (b :: m) y = mrgC m y := fun y hy => mrgC_fd (by
      rw [fdC_cons, if_neg (by rw [he]; exact lt_ne (l1 y hy))])
     have key : ∀ r', amr l m = some r' → SrtC r' ∧ (∀ x, x ∈ aftO (a :: l) (b :: m) ↔ (x = bthC a b ∧ nopC (bthC a b) = false) ∨ x ∈ r') ∧ (∀ x ∈ r', ∃ y, y ∈ l ++ m ∧ x.p = y.p) := fun r' hr => by
      obtain ⟨i1, i2, i3⟩ := amr_some l m r' l2 m2 (fun c hc => nl c (by simp [hc])) (fun c hc => nm c (by simp [hc])) hr
      refine ⟨i1, fun x => ?_, i3⟩
      rw [i2 x, aftO_mem, aftO_mem, remC_mem, remC_mem]
      constructor
      · rintro ⟨⟨y, hy, e⟩ | ⟨hx, hn⟩, hno⟩
        · rcases List.mem_cons.1 hy with rfl | hy
          · rw [hma] at e; subst e; exact .inl ⟨rfl, hno⟩
          · exact .inr ⟨.inl ⟨y, hy, by rw [← hmy y hy]; exact e⟩, hno⟩
        · rcases List.mem_cons.1 hx with rfl | hx
          · exact absurd he.symm (hn a (by simp))
          · exact .inr ⟨.inr ⟨hx, fun y hy => hn y (by simp [hy])⟩, hno⟩
      · rintro (⟨rfl, hno⟩ | ⟨⟨y, hy, e⟩ | ⟨hx, hn⟩, hno⟩)
        · exact ⟨.inl ⟨a, by simp, hma⟩, hno⟩
        · exact ⟨.inl ⟨y, by simp [hy], by rw [hmy y hy]; exact e⟩, hno⟩
        · refine ⟨.inr ⟨by simp [hx], fun y hy => ?_⟩, hno⟩
          rcases List.mem_cons.1 hy with rfl | hy
          · exact lt_ne (hlt x (by rw [List.mem_append]; exact .inr hx))
          · exact hn y hy
     by_cases hn : nopC (bthC a b) = true
     · rw [if_pos hn] at h
       obtain ⟨k1, k2, k3⟩ := key r h
       refine ⟨k1, fun x => ?_, fun x hx => ?_⟩
       · rw [k2 x, hn]; simp
       · obtain ⟨y, hy, e⟩ := k3 x hx
         refine ⟨y, ?_, e⟩
         rw [List.mem_append] at hy ⊢
         rcases hy with hy | hy
         · exact .inl (by simp [hy])
         · exact .inr (by simp [hy])
     · rw [if_neg hn, Option.map_eq_some_iff] at h
       obtain ⟨r', hr, rfl⟩ := h
       obtain ⟨k1, k2, k3⟩ := key r' hr
       have hn' : nopC (bthC a b) = false := by simpa using hn
       refine ⟨List.pairwise_cons.2 ⟨fun x hx => ?_, k1⟩, fun x => ?_, fun x hx => ?_⟩
       · obtain ⟨y, hy, e⟩ := k3 x hx
         rw [e]; exact hlt y hy
       · rw [k2 x, hn', List.mem_cons]; simp
       · rcases List.mem_cons.1 hx with rfl | hx
         · exact ⟨a, by simp, rfl⟩
         · obtain ⟨y, hy, e⟩ := k3 x hx
           refine ⟨y, ?_, e⟩
           rw [List.mem_append] at hy ⊢
           rcases hy with hy | hy
           · exact .inl (by simp [hy])
           · exact .inr (by simp [hy])
termination_by l m => l.length + m.length
theorem insCh_len {c : Ch} : ∀ {l : List Ch}, (insCh c l).length = l.length + 1
 | [] => rfl
 | x :: r => by
   simp only [insCh]
   split
   · rfl
   · simp only [List.length_cons, insCh_len (l := r)]
theorem srtCh_len : ∀ {l : List Ch}, (srtCh l).length = l.length
 | [] => rfl
 | x :: r => by simp only [srtCh, insCh_len, List.length_cons, srtCh_len (l := r)]
theorem rt_nop {c : Ch} (h : ckOne none c = 0) : nopC c = false := by
 obtain ⟨_, _, _, _, _, _, h7, _⟩ := ckOne_zero h
 unfold rtC at h7
 split at h7
 · cases h7
 rename_i hw
 split at h7
 · cases h7
 split at h7
 · cases h7
 unfold nopC
 cases h1 : c.had <;> cases h2 : c.has <;> simp_all
theorem aft_ref {l m : List Ch} (hl : ckC l = 0) (hm : ckC m = 0) :
 match amr l m with
 | none => aftE l m = 7
 | some r => if 120 < r.length then aftE l m = 2 else aftE l m = 0 ∧ aftL l m = r := by
 obtain ⟨l1, l2, l3⟩ := ckC_zero hl
 obtain ⟨m1, m2, m3⟩ := ckC_zero hm
 have hn := amr_none l m l3 m3
 cases hr : amr l m with
 | none =>
   have := hn.1 hr
   simp only [aftE, hl, hm, this]; rfl
 | some r =>
   have hany : l.any (claC m) = false := by
    cases h : l.any (claC m) with
    | false => rfl
    | true => rw [hn.2 h] at hr; cases hr
   obtain ⟨k1, k2, _⟩ := amr_some l m r l3 m3 (fun c hc => rt_nop (l2 c hc)) (fun c hc => rt_nop (m2 c hc)) hr
   have he : r = srtCh (aftO l m) := srtC_ext k1 (srtCh_srt (aft_nodup l3 m3)) fun x => by rw [srtCh_mem]; exact k2 x
   have hlen : r.length = (aftO l m).length := by rw [he, srtCh_len]
   have hE : aftE l m = if 120 < r.length then 2 else 0 := by
    simp only [aftE, hl, hm, hany, hlen]; rfl
   by_cases hbig : 120 < r.length
   · simp only [hbig, if_true] at hE ⊢
     exact hE
   · rw [if_neg hbig] at hE
     simp only [hbig, if_false]
     exact ⟨hE, by rw [aftL, if_pos hE, he]⟩
end Go.Proofs.LF
namespace Go.Proofs.LF
def txt1 : List UInt8 := [98, 101, 100, 32, 51, 10, 32, 114, 97, 107, 101, 100, 32, 53, 32, 55, 10, 115, 111, 108, 100, 10]
def txt2 : List UInt8 := [98, 101, 100, 32, 51, 10, 32, 32, 114, 97, 107, 101, 100, 32, 53, 10]
def bed3 : Ky := ⟨bedN, true, 3⟩
def raked5 : Ky := ⟨rakedN, true, 5⟩
def raked6 : Ky := ⟨rakedN, true, 6⟩
def oneB (n : Int) : Fo := .cons bedN [3] (.cons rakedN [5, n] .nil .nil) .nil
def oneS : Fo := .cons soldN [] .nil .nil
def oneM : Fo := .cons bedN [3] (.cons rakedN [5, 7] .nil (.cons rakedN [6] .nil .nil)) (.cons soldN [] .nil .nil)
def difV : List Ch := [⟨[bed3, raked5], true, true, [5, 7], [5, 8]⟩, ⟨[⟨soldN, false, 0⟩], true, false, [], []⟩]
theorem val_chk : chkY (oneY 7) = 0 := by decide +kernel
theorem val_txt : txtL (nodesL [] (oneY 7)) = txt1 := by decide +kernel
theorem val_prs1 : (prs txt1).2 = (0, 0, 0) ∧ prsY txt1 = oneY 7 := by decide +kernel
theorem val_prs2 : (prs txt2).2 = (1, 1, 11) ∧ prsY txt2 = .nil := by decide +kernel
theorem val_dif : difE (oneY 7) (oneB 8) = 0 ∧ difL (oneY 7) (oneB 8) = difV := by decide +kernel
theorem val_get : getE (oneY 7) [bed3, raked5] = 0 ∧ getN (oneY 7) [bed3, raked5] = (rakedN, [5, 7], .nil) := by decide +kernel
theorem val_put : putE (oneY 7) [bed3] rakedN [6] .nil = 0 ∧ putY (oneY 7) [bed3] rakedN [6] .nil = oneM := by decide +kernel
theorem val_join : joE (oneY 7) oneS oneM = 0 ∧ joY (oneY 7) oneS oneM = oneS ∧ joP (oneY 7) oneS oneM = [[bed3, raked6]] := by decide +kernel
end Go.Proofs.LF
namespace Go.Proofs.LF
open Go.RowKit Go.Sort
set_option maxHeartbeats 4000000
set_option maxRecDepth 100000
attribute [local go_sem] bs_toList bs_size bs_get
theorem dupK_own (l : List Ky) (an : Option Addr) (cn : Nat) (S : Nat → Prop) (w : World) (hl : Pth S w (.slice an l.length cn) l) (hS : ∀ b, S b → b < w.heap.size) (hlen : l.length ≤ 1000) :
 Calls Tryz.prog 50 #[.slice an l.length cn] w fun e w' => ∃ a c, e = .returned (.slice a l.length c) ∧ w'.ownsRow w.heap.size 71 3 (.slice a l.length c) l.length (l.flatMap Ky.cells) ∧ Below w.heap.size w w' := by
 obtain ⟨i0, hi0, hz0, hz1, hz2⟩ := info_parts Tryz.info71'
 have hcap := SlC.caps hl
 have hl0 := len_keys l
 go_enter Tryz.func50, Tryz.ntmps50
 go_wp2_with (first | (at_make; refine wpList_make_own _ rfl _ _ 65 rfl w.heap.size 71 i0 _ 3 Tryz.underlying65 hi0 hz0 hz1 .i64 .i64 l.length l.length rfl rfl rfl (by rw [hz2]; omega) (by unfold maxLen; omega) (nl_ _) ?_; intro w1 hown1 hgrow1) | (at_builtin; refine wpList_append_fits_any _ rfl _ _ 65 rfl w.heap.size 71 i0 3 Tryz.underlying65 hi0 hz1 w.heap.size 0 l.length [] rfl hown1 an l.length cn (l.flatMap Ky.cells) rfl hl0 hcap.2.2 (SlC.news hl (Agree.grown hgrow1 fun b hb => ⟨hS b hb, by simp⟩)) (one_keys l) (by omega) ?_; intro w2 hown2 hgrow2))
 go_ret
 have h2 := hown2
 simp only [Nat.zero_add, List.nil_append] at h2
 exact ⟨_, _, rfl, h2, ((Below.refl _ _).grown hgrow1 (nl_ _) (by simp)).grown hgrow2 hgrow1.size (fun k hk => by cases hk; exact nl_ _)⟩
end Go.Proofs.LF
namespace Go.Proofs.LF
open Go.RowKit Go.Sort
set_option maxHeartbeats 4000000
set_option maxRecDepth 100000
attribute [local go_sem] bs_toList bs_size bs_get
theorem FCs.take {S : Nat → Prop} {w : World} : ∀ {i : Nat} {y : Fo} {cs : List Value}, FCs S w y cs → FCs S w (y.take i) (cs.take (i * 3))
 | 0, _, _, _ => by simp [Fo.take, FCs]
 | i + 1, .nil, _, h => by rw [show _ = [] from h]; simp [Fo.take, FCs]
 | i + 1, .cons _ _ _ _, _, ⟨vn, vs, cs', h, h2, h3, h5⟩ => by
   rw [h, show (i + 1) * 3 = i * 3 + 1 + 1 + 1 from by omega]
   exact ⟨vn, vs, cs'.take (i * 3), rfl, h2, h3, h5.take⟩
theorem SlC.pre {S : Nat → Prop} {w : World} {k n m c : Nat} {a : Option Addr} {cs : List Value} (h : SlC S w k (.slice a n c) n cs) (hm : m ≤ n) : SlC S w k (.slice a m c) m (cs.take (m * k)) := by
 obtain ⟨h1, a', c', he, h2, h3, h4, h5⟩ := h
 cases he
 refine ⟨by rw [List.length_take, h1]; exact Nat.min_eq_left (Nat.mul_le_mul_right k hm), a, c, rfl, by omega, h3, h4, ?_⟩
 rcases h5 with h5 | ⟨g, o, h6, h7, h8⟩
 · exact .inl (by omega)
 · refine .inr ⟨g, o, h6, h7, fun j u hj => h8 j u ?_⟩
   rw [List.getElem?_take] at hj
   split at hj
   · exact hj
   · cases hj
theorem SlC.suf {S : Nat → Prop} {w : World} {k n m c g o : Nat} {cs : List Value} (h : SlC S w k (.slice (some ⟨g, o, none⟩) n c) n cs) (hm : m < n) : SlC S w k (.slice (some ⟨g, o + m * k, none⟩) (n - m) (c - m)) (n - m) (cs.drop (m * k)) := by
 obtain ⟨h1, a', c', he, h2, h3, h4, h5⟩ := h
 cases he
 refine ⟨by rw [List.length_drop, h1, Nat.sub_mul], _, _, rfl, by omega, by omega, (fun h => by cases h), ?_⟩
 rcases h5 with h5 | ⟨g', o', h6, h7, h8⟩
 · omega
 · cases h6
   refine .inr ⟨g, o + m * k, rfl, h7, fun j u hj => ?_⟩
   rw [List.getElem?_drop] at hj
   rw [Nat.add_assoc]
   exact h8 _ u hj
theorem FSl.pre {S : Nat → Prop} {w : World} {a : Option Addr} {m c : Nat} {y : Fo} (h : FSl S w (.slice a y.len c) y) (hm : m ≤ y.len) : FSl S w (.slice a m c) (y.take m) := by
 obtain ⟨ds, h1, h2⟩ := h
 exact ⟨_, by rw [Fo.len_take hm]; exact h1.pre hm, h2.take⟩
theorem FSl.suf {S : Nat → Prop} {w : World} {g o m c : Nat} {y : Fo} (h : FSl S w (.slice (some ⟨g, o, none⟩) y.len c) y) (hm : m < y.len) : FSl S w (.slice (some ⟨g, o + m * 3, none⟩) (y.len - m) (c - m)) (y.drop m) := by
 obtain ⟨ds, h1, h2⟩ := h
 exact ⟨_, by rw [Fo.len_drop]; exact h1.suf hm, h2.drop⟩
theorem one_facts (n : Int) : (oneY n).len = 2 ∧ (oneY n).Sm ∧ (oneY n).cnt = 3 := ⟨rfl, by simp [oneY, Fo.Sm, bedN, rakedN, soldN, Fo.len], rfl⟩
theorem print7 (a : Option Addr) (c : Nat) (S : Nat → Prop) (w : World) (hv : FSl S w (.slice a 2 c) (oneY 7)) (hS : ∀ b, S b → b < w.heap.size) (ht : Pow w) :
 Calls Tryz.prog 22 #[.slice a 2 c] w fun e w' => e = .returned (.tuple #[.string ⟨#[98, 101, 100, 32, 51, 10, 32, 114, 97, 107, 101, 100, 32, 53, 32, 55, 10, 115, 111, 108, 100, 10]⟩, .int .i64 0]) ∧ Below w.heap.size w w' := by
 have h := Print_any (oneY 7) a c S w hv hS (by decide) (one_facts 7).2.1 (by decide) ht
 rw [val_chk, if_pos rfl, val_txt] at h
 exact h
theorem parse1 (w : World) : Calls Tryz.prog 26 #[.string ⟨#[98, 101, 100, 32, 51, 10, 32, 114, 97, 107, 101, 100, 32, 53, 32, 55, 10, 115, 111, 108, 100, 10]⟩] w fun e w' => ∃ a c, e = .returned (.tuple #[.slice a 2 c, .int .i64 0, .int .i64 0, .int .i64 0]) ∧ FSl (Rg w.heap.size w'.heap.size) w' (.slice a 2 c) (oneY 7) ∧ Below w.heap.size w w' := by
 have h := Parse_any txt1 w (by decide)
 rw [val_prs1.1, val_prs1.2] at h
 exact h
theorem parse2 (w : World) : Calls Tryz.prog 26 #[.string ⟨#[98, 101, 100, 32, 51, 10, 32, 32, 114, 97, 107, 101, 100, 32, 53, 10]⟩] w fun e w' => ∃ a c, e = .returned (.tuple #[.slice a 0 c, .int .i64 1, .int .i64 1, .int .i64 11]) ∧ Below w.heap.size w w' := by
 have h := Parse_any txt2 w (by decide)
 rw [val_prs2.1, val_prs2.2] at h
 exact h.mono fun e w' ⟨a, c, h1, _, h3⟩ => ⟨a, c, h1, h3⟩
theorem alike7 (a1 a2 : Option Addr) (c1 c2 : Nat) (S : Nat → Prop) (w : World) (h1 : FSl S w (.slice a1 2 c1) (oneY 7)) (h2 : FSl S w (.slice a2 2 c2) (oneY 7)) (hS : ∀ b, S b → b < w.heap.size) :
 Calls Tryz.prog 25 #[.slice a1 2 c1, .slice a2 2 c2] w fun e w' => e = .returned (.bool true) ∧ Below w.heap.size w w' := by
 have h := (alike_any 4).2 (oneY 7) (oneY 7) a1 c1 a2 c2 S w (by decide) h1 h2 hS (by decide) (by decide) (one_facts 7).2.1 (one_facts 7).2.1
 rw [decide_eq_true rfl] at h
 exact h
theorem diff78 (a1 a2 : Option Addr) (c1 c2 : Nat) (S : Nat → Prop) (w : World) (h1 : FSl S w (.slice a1 2 c1) (oneY 7)) (h2 : FSl S w (.slice a2 1 c2) (oneB 8)) (hS : ∀ b, S b → b < w.heap.size) (ht : Pow w) :
 Calls Tryz.prog 41 #[.slice a1 2 c1, .slice a2 1 c2] w fun e w' => ∃ a c, e = .returned (.tuple #[.slice a 2 c, .int .i64 0]) ∧ ChSl (Rg w.heap.size w'.heap.size) w' (.slice a 2 c) difV ∧ Below w.heap.size w w' := by
 have h := Diff_any (oneY 7) (oneB 8) a1 a2 c1 c2 S w h1 h2 hS (by decide) (by decide) (one_facts 7).2.1 (by simp [oneB, Fo.Sm, bedN, rakedN, Fo.len]) (by decide) (by decide) ht
 rw [val_dif.1, val_dif.2] at h
 exact h
theorem get7 (a1 a2 : Option Addr) (c1 c2 : Nat) (S T : Nat → Prop) (w : World) (h1 : FSl S w (.slice a1 2 c1) (oneY 7)) (hS : ∀ b, S b → b < w.heap.size) (h2 : Pth T w (.slice a2 2 c2) [bed3, raked5]) (hT : ∀ b, T b → b < w.heap.size) :
 Calls Tryz.prog 56 #[.slice a1 2 c1, .slice a2 2 c2] w fun e w' => ∃ an cn ab cb, e = .returned (.tuple #[.agg #[.string ⟨#[114, 97, 107, 101, 100]⟩, .slice an 2 cn, .slice ab 0 cb], .int .i64 0]) ∧ Ints (Rg w.heap.size w'.heap.size) w' (.slice an 2 cn) [5, 7] ∧ Below w.heap.size w w' := by
 have h := Get_any (oneY 7) [bed3, raked5] a1 a2 c1 c2 S T w h1 hS h2 hT (by decide) (one_facts 7).2.1 (by decide) (by decide)
 refine h.mono ?_
 rintro e w' ⟨n, l, s, an, cn, ab, cb, hg, he, hi, hf, hb⟩
 rw [val_get.2] at hg
 obtain ⟨rfl, rfl, rfl⟩ : rakedN = n ∧ [5, 7] = l ∧ Fo.nil = s := by simpa using hg
 rw [val_get.1] at he
 exact ⟨an, cn, ab, cb, he, hi, hb⟩
theorem put7 (a1 a2 an : Option Addr) (c1 c2 cn : Nat) (S T : Nat → Prop) (w : World) (h1 : FSl S w (.slice a1 2 c1) (oneY 7)) (hS : ∀ b, S b → b < w.heap.size) (h2 : Pth T w (.slice a2 1 c2) [bed3]) (h3 : Ints T w (.slice an 1 cn) [6]) (hT : ∀ b, T b → b < w.heap.size) :
 Calls Tryz.prog 49 #[.slice a1 2 c1, .slice a2 1 c2, .agg #[.string ⟨#[114, 97, 107, 101, 100]⟩, .slice an 1 cn, .slice none 0 0]] w fun e w' => ∃ a c, e = .returned (.tuple #[.slice a 2 c, .int .i64 0]) ∧ FSl (Rg w.heap.size w'.heap.size) w' (.slice a 2 c) oneM ∧ Below w.heap.size w w' := by
 have h := Put_any (oneY 7) [bed3] rakedN [6] .nil a1 a2 an none c1 c2 cn 0 S T T w h1 hS h2 hT h3 ⟨[], ⟨rfl, none, 0, rfl, nl_ _, by simp [maxLen], fun _ => rfl, .inl rfl⟩, rfl⟩ hT (by decide) (one_facts 7).2.1 (by decide) (by decide) (by decide) (by decide) (by decide) trivial (by decide)
 refine h.mono ?_
 rintro e w' ⟨a, c, he, hf, hb⟩
 rw [val_put.1, val_put.2] at he
 rw [val_put.2] at hf
 exact ⟨a, c, he, hf.fsl, hb⟩
theorem join7 (a1 a2 a3 : Option Addr) (c1 c2 c3 : Nat) (S : Nat → Prop) (w : World) (h1 : FSl S w (.slice a1 2 c1) (oneY 7)) (h2 : FSl S w (.slice a2 1 c2) oneS) (h3 : FSl S w (.slice a3 2 c3) oneM) (hS : ∀ b, S b → b < w.heap.size) (ht : Pow w) :
 Calls Tryz.prog 33 #[.slice a1 2 c1, .slice a2 1 c2, .slice a3 2 c3] w fun e w' => ∃ a c a' c', e = .returned (.tuple #[.slice a 1 c, .slice a' 1 c', .int .i64 0]) ∧ FSl (Rg w.heap.size w'.heap.size) w' (.slice a 1 c) oneS ∧ PaSl (Rg w.heap.size w'.heap.size) w' (.slice a' 1 c') [[bed3, raked6]] ∧ Below w.heap.size w w' := by
 have h := Join_any (oneY 7) oneS oneM a1 a2 a3 c1 c2 c3 S w h1 h2 h3 hS ⟨by decide, (one_facts 7).2.1, by decide⟩ ⟨by decide, by simp [oneS, Fo.Sm, soldN, Fo.len], by decide⟩ ⟨by decide, by simp [oneM, Fo.Sm, bedN, rakedN, soldN, Fo.len], by decide⟩ ht
 refine h.mono ?_
 rintro e w' ⟨a, c, a', c', he, hf, hp, hb⟩
 rw [val_join.1, val_join.2.1, val_join.2.2] at he
 rw [val_join.2.1] at hf
 rw [val_join.2.2] at hp
 exact ⟨a, c, a', c', he, hf, hp, hb⟩
end Go.Proofs.LF
namespace Go.Proofs.LF
open Go.RowKit Go.Sort
set_option maxHeartbeats 4000000
set_option maxRecDepth 100000
attribute [local go_sem] bs_toList bs_size bs_get
theorem chg_elem {S : Nat → Prop} {w : World} {ls : List Ch} {ds : List Value} (h : LCs rdCh S w ls ds) {i : Nat} (hi : i < ls.length) : ∃ ap cp ao co an cn, elemV 5 ds i = .agg #[.slice ap ls[i].p.length cp, .bool ls[i].had, .bool ls[i].has, .slice ao ls[i].old.length co, .slice an ls[i].new.length cn] ∧ Pth S w (.slice ap ls[i].p.length cp) ls[i].p ∧ Ints S w (.slice ao ls[i].old.length co) ls[i].old ∧ Ints S w (.slice an ls[i].new.length cn) ls[i].new := by
 have h' := h.drop (i := i)
 rw [List.drop_eq_getElem_cons hi] at h'
 obtain ⟨cs, es, he, ⟨ap, cp, ao, co, an, cn, rfl, hp, ho, hn⟩, _⟩ := h'
 refine ⟨ap, cp, ao, co, an, cn, ?_, hp, ho, hn⟩
 have e0 := congrArg (fun l => l[0]?) he
 have e1 := congrArg (fun l => l[1]?) he
 have e2 := congrArg (fun l => l[2]?) he
 have e3 := congrArg (fun l => l[3]?) he
 have e4 := congrArg (fun l => l[4]?) he
 simp only [List.getElem?_drop] at e0 e1 e2 e3 e4
 simp [elemV, List.getD_eq_getElem?_getD, List.range, List.range.loop] at e0 e1 e2 e3 e4 ⊢
 simp [e0, e1, e2, e3, e4]
end Go.Proofs.LF
namespace Go.Proofs.LF
open Go.RowKit Go.Sort
def In (W : World) (v : Value) (y : Fo) : Prop := FSl (fun q => q < W.heap.size) W v y
theorem In.on {W W' : World} {v : Value} {y : Fo} (h : In W v y) (hb : Below W.heap.size W W') : In W' v y := FSl.on h hb
def PaIn (W : World) (v : Value) (ps : List (List Ky)) : Prop := PaSl (fun q => q < W.heap.size) W v ps
theorem PaIn.on {W W' : World} {v : Value} {ps : List (List Ky)} (h : PaIn W v ps) (hb : Below W.heap.size W W') : PaIn W' v ps := LSl.on h hb
def IsIn (W : World) (v : Value) (l : List Int) : Prop := Ints (fun q => q < W.heap.size) W v l
theorem IsIn.on {w w' : World} {v : Value} {l : List Int} (h : IsIn w v l) (hb : Below w.heap.size w w') : IsIn w' v l :=
 (Ints.agree h (Ag_b hb fun _ h => h)).wide fun b hq => by have := hb.size; omega
def PtIn (W : World) (v : Value) (l : List Ky) : Prop := Pth (fun q => q < W.heap.size) W v l
theorem PtIn.on {w w' : World} {v : Value} {l : List Ky} (h : PtIn w v l) (hb : Below w.heap.size w w') : PtIn w' v l :=
 (Pth.agree h (Ag_b hb fun _ h => h)).wide fun b hq => by have := hb.size; omega
def ChIn (W : World) (v : Value) (l : List Ch) : Prop := ChSl (fun q => q < W.heap.size) W v l
theorem ChIn.on {W W' : World} {v : Value} {ps : List Ch} (h : ChIn W v ps) (hb : Below W.heap.size W W') : ChIn W' v ps := LSl.on h hb
def AllP (W w' : World) (v : Value) (ps : List (List Ky)) (n : Nat) (cs : List Value) : Prop := n = ps.length ∧ w'.ownsRow W.heap.size 65 1 v n cs ∧ ∃ T : Nat → Prop, LCs rdPa T w' ps cs ∧ ∀ b, T b → W.heap.size ≤ b ∧ b < w'.heap.size ∧ v.ownBlock ≠ some b
theorem AllP.news {W w' : World} {a : Option Addr} {n c : Nat} {ps : List (List Ky)} {cs : List Value} (h : AllP W w' (.slice a n c) ps n cs) : cs.length = n * 1 ∧ (a = none → n = 0 ∧ c = 0) ∧ (∀ ad, a = some ad → ∀ (j : Nat) (u : Value), cs[j]? = some u → w'.cell? (ad.add j) = some u) ∧ (∀ u ∈ cs, u.oneCell' = true) := by
 obtain ⟨_, h1, T, h2, h3⟩ := h
 have s1 := SlC.of_owns h1
 exact ⟨h1.1, fun h => (SlC.caps s1).2.2 h, SlC.news s1 Agree.refl, LCs.one h2⟩
def ByIn (W : World) (v : Value) (l : List Int) : Prop := Byt (fun q => q < W.heap.size) W v l
theorem ByIn.on {W W' : World} {v : Value} {l : List Int} (h : ByIn W v l) (hb : Below W.heap.size W W') : ByIn W' v l :=
 (SlC.agree h (Ag_b hb fun _ h => h)).wide fun b hq => by have := hb.size; omega
end Go.Proofs.LF
