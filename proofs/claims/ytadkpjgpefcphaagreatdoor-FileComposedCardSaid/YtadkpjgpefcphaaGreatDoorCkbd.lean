/- Parts of the proof of a law of layer 11 (file): LfMk, LfW48, LfW72. The conditions stand in each theorem. -/
import Derived.Test.YtadkpjgpefcphaaGreatDoorProg
import Derived.Test.YtadkpjgpefcphaaGreatDoorCkac
import Derived.Test.YtadkpjgpefcphaaGreatDoorCkam
import Derived.Test.YtadkpjgpefcphaaGreatDoorCkan
import Derived.Test.YtadkpjgpefcphaaGreatDoorCkar
import Derived.Test.YtadkpjgpefcphaaGreatDoorCkau
import Derived.Test.YtadkpjgpefcphaaGreatDoorCkaz
import Derived.Test.YtadkpjgpefcphaaGreatDoorCkba
import Derived.Test.YtadkpjgpefcphaaGreatDoorCkbb
import Derived.Test.YtadkpjgpefcphaaGreatDoorCkbc
set_option linter.all false
set_option linter.unusedVariables false
set_option linter.unusedSimpArgs false
namespace Go.Proofs.LF
def fitC (now : List Fl) (c : Ch) : Bool := ((fnd now c.p).isSome == c.had) && decide (((fnd now c.p).getD fl0).l = c.old)
def keptF (now : List Fl) (l : List Ch) : List Fl := now.filter fun f => !(l.any fun c => decide (cmpP c.p f.p = 0))
def newC (c : Ch) : Option Fl := if c.has then some ⟨c.p, c.new⟩ else none
def newsF (l : List Ch) : List Fl := l.filterMap newC
def srtFl : List Fl → List Fl
 | [] => []
 | x :: r => putR x (srtFl r)
def mkO (y : Fo) (l : List Ch) : List Fl := srtFl (keptF (flsL [] y) l ++ newsF l)
def mkE (y : Fo) (l : List Ch) : Int :=
 if chkY y ≠ 0 then chkY y else if ckC l ≠ 0 then ckC l else if (l.all (fitC (flsL [] y))) = false then 7
 else if 0 < (lsF [] [] (mkO y l)).2.length then 1 else if 60 < (mkO y l).length then 2 else 0
def mkY (y : Fo) (l : List Ch) : Fo := if mkE y l = 0 then (treF 0 (mkO y l)).1 else .nil
theorem ckOne_zero {q : Option (List Ky)} {c : Ch} (h : ckOne q c = 0) : (1 ≤ c.p.length ∧ c.p.length ≤ 4) ∧ okNm c.p = true ∧ (c.old.length ≤ 4 ∧ c.new.length ≤ 4) ∧ okNu c.p = true ∧ badNs c.old = false ∧ badNs c.new = false ∧ rtC c (lstK c.p) = true ∧ behB q c.p = false := by
 unfold ckOne at h
 split at h
 · cases h
 rename_i h1
 split at h
 · cases h
 rename_i h2
 split at h
 · cases h
 rename_i h3
 split at h
 · cases h
 rename_i h4
 split at h
 · cases h
 rename_i h5
 split at h
 · cases h
 rename_i h6
 simp [inB] at h1
 simp at h3 h4
 exact ⟨by omega, by simpa using h2, by omega, h4.1.1, by simpa using h4.1.2, by simpa using h4.2, by simpa using h5, by simpa using h6⟩
theorem ckL_zero : ∀ (l : List Ch) (q : Option (List Ky)), ckL q l = 0 → (∀ c ∈ l, ckOne none c = 0) ∧ l.Pairwise (fun a b => cmpP a.p b.p < 0) ∧ ∀ r, q = some r → ∀ c ∈ l, cmpP r c.p < 0
 | [], _, _ => ⟨by simp, List.Pairwise.nil, by simp⟩
 | c :: l, q, h => by
   simp only [ckL] at h
   split at h
   · rename_i h1
     obtain ⟨e1, e2, e3⟩ := ckL_zero l (some c.p) h
     have h2 := ckOne_zero h1
     have hr : ∀ r, q = some r → cmpP r c.p < 0 := by
      rintro r rfl
      have := h2.2.2.2.2.2.2.2
      simp [behB] at this
      omega
     have h0 : ckOne none c = 0 := by
      unfold ckOne at h1 ⊢
      rw [show behB none c.p = false from rfl]
      have h9 := h2.2.2.2.2.2.2.2
      rw [h9] at h1
      simpa using h1
     refine ⟨fun x hx => ?_, List.pairwise_cons.2 ⟨fun x hx => e3 _ rfl x hx, e2⟩, fun r hq x hx => ?_⟩
     · rcases List.mem_cons.1 hx with rfl | hx
       · exact h0
       · exact e1 x hx
     · rcases List.mem_cons.1 hx with rfl | hx
       · exact hr r hq
       · exact cmpP_ord.trans (hr r hq) (e3 _ rfl x hx)
   · rename_i h1; exact absurd h h1
theorem ckC_zero {l : List Ch} (h : ckC l = 0) : l.length ≤ 120 ∧ (∀ c ∈ l, ckOne none c = 0) ∧ l.Pairwise (fun a b => cmpP a.p b.p < 0) := by
 unfold ckC at h
 split at h
 · cases h
 · have := ckL_zero l none h
   exact ⟨by omega, this.1, this.2.1⟩
theorem srtFl_mem {x : Fl} : ∀ {l : List Fl}, x ∈ srtFl l ↔ x ∈ l
 | [] => by simp [srtFl]
 | y :: r => by simp [srtFl, putR_mem, srtFl_mem (l := r)]
theorem srtFl_srt : ∀ {l : List Fl}, (l.map Fl.p).Nodup → Srt (srtFl l)
 | [], _ => List.Pairwise.nil
 | x :: r, h => by
   rw [List.map_cons, List.nodup_cons] at h
   refine putR_srt (srtFl_srt h.2) fun hm => h.1 ?_
   obtain ⟨z, hz, e⟩ := List.mem_map.1 hm
   exact List.mem_map.2 ⟨z, srtFl_mem.1 hz, e⟩
theorem srt_of_perm {ls ls' : List Fl} (hn : (ls.map Fl.p).Nodup) (hp : ls'.Perm ls) (hs : ls'.Pairwise (fun a b => cmpP a.p b.p ≤ 0)) : ls' = srtFl ls := by
 have hn' : (ls'.map Fl.p).Nodup := (hp.map Fl.p).nodup_iff.2 hn
 have h1 : Srt ls' := by
  have h2 : ls'.Pairwise (fun a b => a.p ≠ b.p) := List.pairwise_map.1 hn'
  refine (hs.and h2).imp ?_
  rintro a b ⟨h3, h4⟩
  rcases Int.lt_or_eq_of_le h3 with h | h
  · exact h
  · exact absurd (cmpP_ord.eq h) h4
 exact srt_ext h1 (srtFl_srt hn) fun x => by rw [srtFl_mem]; exact hp.mem_iff
theorem newsF_mem {l : List Ch} {x : Fl} : x ∈ newsF l ↔ ∃ c ∈ l, c.has = true ∧ x = ⟨c.p, c.new⟩ := by
 simp only [newsF, List.mem_filterMap, newC]
 constructor
 · rintro ⟨c, hc, h⟩
   split at h
   · rename_i hh; cases h; exact ⟨c, hc, hh, rfl⟩
   · cases h
 · rintro ⟨c, hc, hh, rfl⟩; exact ⟨c, hc, by rw [if_pos hh]⟩
theorem keptF_mem {now : List Fl} {l : List Ch} {x : Fl} : x ∈ keptF now l ↔ x ∈ now ∧ ∀ c ∈ l, c.p ≠ x.p := by
 simp only [keptF, List.mem_filter, Bool.not_eq_true', List.any_eq_false, decide_eq_true_eq]
 constructor
 · rintro ⟨h1, h2⟩; exact ⟨h1, fun c hc e => h2 c hc (by rw [e, cmpP_ord.refl])⟩
 · rintro ⟨h1, h2⟩; exact ⟨h1, fun c hc e => h2 c hc (cmpP_ord.eq e)⟩
theorem newsF_srt {l : List Ch} (h : l.Pairwise (fun a b => cmpP a.p b.p < 0)) : Srt (newsF l) := by
 induction l with
 | nil => exact List.Pairwise.nil
 | cons c l ih =>
   obtain ⟨h1, h2⟩ := List.pairwise_cons.1 h
   have h3 := ih h2
   have hm : ∀ x ∈ newsF l, cmpP c.p x.p < 0 := fun x hx => by
    obtain ⟨d, hd, _, rfl⟩ := newsF_mem.1 hx
    exact h1 d hd
   by_cases hc : c.has = true
   · have : newsF (c :: l) = ⟨c.p, c.new⟩ :: newsF l := by simp [newsF, newC, hc]
     rw [this]
     exact List.pairwise_cons.2 ⟨hm, h3⟩
   · have : newsF (c :: l) = newsF l := by simp [newsF, newC, hc]
     rw [this]; exact h3
theorem mk_nodup {now : List Fl} {l : List Ch} (hy : Srt now) (hl : l.Pairwise (fun a b => cmpP a.p b.p < 0)) : ((keptF now l ++ newsF l).map Fl.p).Nodup := by
 have h1 : Srt (keptF now l) := List.Pairwise.sublist List.filter_sublist hy
 rw [List.map_append, List.nodup_append]
 refine ⟨h1.nodup, (newsF_srt hl).nodup, ?_⟩
 intro p hp q hq e
 subst e
 obtain ⟨x, hx, rfl⟩ := List.mem_map.1 hp
 obtain ⟨z, hz, e⟩ := List.mem_map.1 hq
 obtain ⟨c, hc, _, rfl⟩ := newsF_mem.1 hz
 exact (keptF_mem.1 hx).2 c hc e
theorem mkO_srt {now : List Fl} {l : List Ch} (hy : Srt now) (hl : l.Pairwise (fun a b => cmpP a.p b.p < 0)) : Srt (srtFl (keptF now l ++ newsF l)) := srtFl_srt (mk_nodup hy hl)
theorem mk_perm {y : Fo} {l : List Ch} {ls' : List Fl} (hy : chkY y = 0) (hl : ckC l = 0) (hp : ls'.Perm (keptF (flsL [] y) l ++ newsF l)) (hs : ls'.Pairwise (fun a b => cmpP a.p b.p ≤ 0)) : ls' = mkO y l :=
 srt_of_perm (mk_nodup (fls_srt hy) (ckC_zero hl).2.2) hp hs
theorem mk_bd {y : Fo} {l : List Ch} (hy : chkY y = 0) (hl : ckC l = 0) (hsm : SmCh l) : (keptF (flsL [] y) l).length ≤ 60 ∧ (newsF l).length ≤ 120 ∧ SmF (keptF (flsL [] y) l ++ newsF l) ∧ ∀ x ∈ keptF (flsL [] y) l ++ newsF l, x.p ≠ [] := by
 have f := fls_ok hy
 have c := ckC_zero hl
 refine ⟨Nat.le_trans (List.length_filter_le _ _) f.2.2, Nat.le_trans (List.length_filterMap_le _ _) c.1, fun x hx => ?_, fun x hx => ?_⟩
 · rcases List.mem_append.1 hx with h | h
   · exact f.1 x (keptF_mem.1 h).1
   · obtain ⟨d, hd, _, rfl⟩ := newsF_mem.1 h
     have := hsm d hd
     exact ⟨this.1, this.2.2.2, this.2.1⟩
 · rcases List.mem_append.1 hx with h | h
   · have := (keptF_mem.1 h).1
     obtain ⟨k, t, e⟩ := flsL_pre y [] x this
     rw [e]; simp
   · obtain ⟨d, hd, _, rfl⟩ := newsF_mem.1 h
     have := (ckOne_zero (c.2.1 d hd)).1
     intro e
     simp only at e
     rw [e] at this
     simp at this
end Go.Proofs.LF
namespace Go.Proofs.LF
open Go.RowKit Go.Sort
set_option maxHeartbeats 4000000
set_option maxRecDepth 100000
attribute [local go_sem] bs_toList bs_size bs_get
def bedN : List UInt8 := [98, 101, 100]
def rakedN : List UInt8 := [114, 97, 107, 101, 100]
def soldN : List UInt8 := [115, 111, 108, 100]
def oneY (n : Int) : Fo := .cons bedN [3] (.cons rakedN [5, n] .nil .nil) (.cons soldN [] .nil .nil)
theorem FCs.alloc {S : Nat → Prop} {w : World} {y : Fo} {cs : List Value} (h : FCs S w y cs) (hS : ∀ b, S b → b < w.heap.size) (o : Obj) : FCs S (w.alloc o) y cs := h.agree (fun b hb => heap_alloc_old _ _ (hS b hb))
theorem slc_block {S : Nat → Prop} {w : World} {b k n : Nat} {vs : Array Value} {t : TypeId} {fr : Nat × Nat} (hb : w.heap[b]? = some (.cells vs t fr)) (hS : S b) (hl : vs.size = n * k) (hn : n ≤ maxLen) : SlC S w k (.slice (some ⟨b, 0, none⟩) n n) n vs.toList := by
 refine ⟨by simpa using hl, _, n, rfl, nl_ _, hn, (fun h => by cases h), .inr ⟨b, 0, rfl, hS, fun j u hj => ?_⟩⟩
 simp only [World.cell?, hb, Nat.zero_add]
 simpa using hj
theorem One_any (n : Int) (w : World) :
 Calls Tryz.prog 80 #[.int .i64 n] w fun e w' => ∃ g, e = .returned (.slice (some ⟨g, 0, none⟩) 2 2) ∧ FSl (Rg w.heap.size w'.heap.size) w' (.slice (some ⟨g, 0, none⟩) 2 2) (oneY n) ∧ Below w.heap.size w w' := by
 go_enter Tryz.func80, Tryz.ntmps80
 go_wp2_with fail
 refine bodyPost_ret (v := .slice (some ⟨w.heap.size + 1 + 1 + 1, 0, none⟩) 2 2) (by simp [results, Tryz.results80, go_sem]) rfl ?_
 refine ⟨w.heap.size + 1 + 1 + 1, rfl, ?_, ?_⟩
 · have key : ∀ (N : Nat) (W : World) (A B C D : Obj), A = .cells #[.int .i64 3] 3 → B = .cells #[.int .i64 5, .int .i64 n] 3 → C = .cells #[.string ⟨#[114, 97, 107, 101, 100]⟩, .slice (some ⟨N + 1, 0, none⟩) 2 2, .slice none 0 0] 85 →
    D = .cells #[.string ⟨#[98, 101, 100]⟩, .slice (some ⟨N, 0, none⟩) 1 1, .slice (some ⟨N + 1 + 1, 0, none⟩) 1 1, .string ⟨#[115, 111, 108, 100]⟩, .slice none 0 0, .slice none 0 0] 85 → N = w.heap.size → W = (((w.alloc A).alloc B).alloc C).alloc D → FSl (Rg w.heap.size W.heap.size) W (.slice (some ⟨N + 1 + 1 + 1, 0, none⟩) 2 2) (oneY n) := by
    rintro N W A B C D hA hB hC hD hN hW
    have hz : W.heap.size = N + 4 := by rw [hW, hN]; simp
    have a0 : W.heap[N]? = some A := by
     rw [hW, hN]
     exact (heap_alloc_old _ _ (by simp; omega)).trans ((heap_alloc_old _ _ (by simp; omega)).trans ((heap_alloc_old _ _ (by simp)).trans (heap_alloc_new w A)))
    have a1 : W.heap[N + 1]? = some B := by
     have h := heap_alloc_new (w.alloc A) B
     simp only [World.size_alloc] at h
     rw [hW, hN]
     exact (heap_alloc_old _ _ (by simp)).trans ((heap_alloc_old _ _ (by simp)).trans h)
    have a2 : W.heap[N + 1 + 1]? = some C := by
     have h := heap_alloc_new ((w.alloc A).alloc B) C
     simp only [World.size_alloc] at h
     rw [hW, hN]
     exact (heap_alloc_old _ _ (by simp)).trans h
    have a3 : W.heap[N + 1 + 1 + 1]? = some D := by
     have h := heap_alloc_new (((w.alloc A).alloc B).alloc C) D
     simp only [World.size_alloc] at h
     rw [hW, hN]
     exact h
    have hS : ∀ k, k < 4 → Rg w.heap.size W.heap.size (N + k) := fun k hk => ⟨by omega, by omega⟩
    rw [hA] at a0
    rw [hB] at a1
    rw [hC] at a2
    rw [hD] at a3
    have i0 : Ints (Rg w.heap.size W.heap.size) W (.slice (some ⟨N, 0, none⟩) 1 1) [3] := slc_block (vs := #[.int .i64 3]) a0 (hS 0 (by omega)) rfl (by simp [maxLen])
    have i1 : Ints (Rg w.heap.size W.heap.size) W (.slice (some ⟨N + 1, 0, none⟩) 2 2) [5, n] := slc_block (vs := #[.int .i64 5, .int .i64 n]) a1 (hS 1 (by omega)) rfl (by simp [maxLen])
    have nilI : ∀ S, Ints S W (.slice none 0 0) [] := fun S => ⟨rfl, none, 0, rfl, nl_ _, by simp [maxLen], fun _ => rfl, .inl rfl⟩
    have nilF : ∀ S, ∃ ds, SlC S W 3 (.slice none 0 0) Fo.nil.len ds ∧ FCs S W .nil ds := fun S => ⟨[], ⟨rfl, none, 0, rfl, nl_ _, by simp [maxLen], fun _ => rfl, .inl rfl⟩, rfl⟩
    have s2 := slc_block (k := 3) (n := 1) (S := Rg w.heap.size W.heap.size) a2 (hS 2 (by omega)) rfl (by simp [maxLen])
    have s3 := slc_block (k := 3) (n := 2) (S := Rg w.heap.size W.heap.size) a3 (hS 3 (by omega)) rfl (by simp [maxLen])
    exact ⟨_, s3, _, _, _, rfl, i0, ⟨_, s2, _, _, _, rfl, i1, nilF _, rfl⟩, _, _, _, rfl, nilI _, nilF _, rfl⟩
   exact key w.heap.size _ _ _ _ _ rfl rfl rfl rfl rfl rfl
 · exact ((((Below.refl _ _).alloc (nl_ _) _).alloc (by simp) _).alloc (by simp; omega) _).alloc (by simp; omega) _
theorem K_any (s : ByteArray) (x : Int) (g c : Nat) (w : World) (hx : w.cell? ⟨g, 0, none⟩ = some (.int .i64 x)) (hg : g < w.heap.size) (hc : 1 ≤ c) :
 Calls Tryz.prog 51 #[.string s, .slice (some ⟨g, 0, none⟩) 1 c] w fun e w' => e = .returned (.agg #[.string s, .bool true, .int .i64 x]) ∧ Below w.heap.size w w' := by
 have hx' : (w.alloc (.cells #[.string ByteArray.empty, .bool false, .int .i64 0] 71)).cell? ⟨g, 0, none⟩ = some (.int .i64 x) := bc_ ((Below.refl w.heap.size _).alloc (nl_ _) _) hg hx
 go_enter Tryz.func51, Tryz.ntmps51
 go_wp2_with fail
 exact bodyPost_ret (v := .agg #[.string s, .bool true, .int .i64 x]) (by simp [results, Tryz.results51, go_sem]) rfl ⟨rfl, ((Below.refl _ _).alloc (nl_ _) _)⟩
theorem ky_beq (a b : Ky) : decide (a = b) = (a.n == b.n && (a.h == b.h && a.x == b.x)) := by
 obtain ⟨an, ah, ax⟩ := a
 obtain ⟨bn, bh, bx⟩ := b
 by_cases h1 : an = bn <;> by_cases h2 : ah = bh <;> by_cases h3 : ax = bx <;> simp [h1, h2, h3]
theorem eqKeys_any (p q : List Ky) (ap aq : Option Addr) (cp cq : Nat) (S : Nat → Prop) (w : World) (hp : Pth S w (.slice ap p.length cp) p) (hq : Pth S w (.slice aq q.length cq) q) (lp : p.length ≤ 100000) (lq : q.length ≤ 100000) :
 Calls Tryz.prog 42 #[.slice ap p.length cp, .slice aq q.length cq] w fun e w' => e = .returned (.bool (decide (p = q))) ∧ Below w.heap.size w w' := by
 by_cases hne : p.length = q.length
 · have hne' : ((p.length : Int) != (q.length : Int)) = false := by simp; omega
   have HN := hid hne
   clear hne
   go_enter Tryz.func42, Tryz.ntmps42
   go_wp2_with fail
   go_loopw [13] (fun i wr => ∃ (k d : Nat), k ≤ p.length ∧ i = .int .i64 k ∧ wr = w.drewN d ∧ Hid (p.take k = q.take k)) (fun i _ => p.length - (intOf i).toNat)
   case atStart => exact ⟨0, 0, by omega, rfl, rfl, by simp [Hid]⟩
   case round =>
    obtain ⟨k, d, hk, rfl, rfl, H2⟩ := hrel
    by_cases hlt : k < p.length
    · obtain ⟨g, o, rfl, _, _, _, hcell⟩ := SlC.cells hp (by omega)
      obtain ⟨g', o', rfl, _, _, _, hcell'⟩ := SlC.cells hq (by have := HN.out; omega)
      have hlt' : k < q.length := by have := HN.out; omega
      obtain ⟨k0, k1, k2⟩ := key_cells hlt
      obtain ⟨k0', k1', k2'⟩ := key_cells hlt'
      have c0 := hcell _ _ k0
      have c1 := hcell _ _ k1
      have c2 := hcell _ _ k2
      have d0 := hcell' _ _ k0'
      have d1 := hcell' _ _ k1'
      have d2 := hcell' _ _ k2'
      rw [← Nat.add_assoc] at c1 c2 d1 d2
      have htp : p.take (k + 1) = p.take k ++ [p[k]] := List.take_succ_eq_append_getElem hlt
      have htq : q.take (k + 1) = q.take k ++ [q[k]] := List.take_succ_eq_append_getElem hlt'
      obtain ⟨a, ha⟩ : ∃ a, p[k] = a := ⟨_, rfl⟩
      obtain ⟨b, hb⟩ : ∃ b, q[k] = b := ⟨_, rfl⟩
      have HA := hid ha
      have HB := hid hb
      rw [ha] at c0 c1 c2 htp
      rw [hb] at d0 d1 d2 htq
      have HTP := hid htp
      have HTQ := hid htq
      clear hcell hcell' k0 k1 k2 k0' k1' k2' htp htq ha hb
      have i1 : (0 : Int) ≤ (k : Int) := by omega
      have i2 : (k : Int) < (p.length : Int) := by omega
      have i3 : (k : Int) < (q.length : Int) := by omega
      by_cases he : a = b
      · subst he
        go_wp2_with fail
        go_quiet (fail)
        go_wp2_with fail
        go_roundw
        case rel => exact ⟨k + 1, _, by omega, by go_num, rfl, by rw [Hid, HTP.out, HTQ.out, H2.out]⟩
        case measure => simp [intOf]; omega
      · have hdec : (a.n == b.n && (a.h == b.h && a.x == b.x)) = false := by rw [← ky_beq]; simp [he]
        have HE := hid he
        have HDEC := hid hdec
        clear he hdec
        cases hn : (a.n == b.n) <;> cases hh : (a.h == b.h) <;> cases hx : (a.x == b.x)
        all_goals first
         | (exfalso; have := HDEC.out; rw [hn, hh, hx] at this; cases this; done)
         | (go_wp2_with fail
            go_quiet (fail)
            go_wp2_with fail
            go_ret
            refine ⟨ret_bool ?_, below_drewN (below_drewN (Below.refl _ _) _) _⟩
            symm
            rw [decide_eq_false_iff_not]
            rintro rfl
            exact HE.out (HA.out.symm.trans HB.out))
    · go_wp2_with fail
      go_ret
      obtain rfl : k = p.length := by omega
      refine ⟨ret_bool ?_, below_drewN (Below.refl _ _) _⟩
      symm
      have := H2.out
      rw [List.take_length, HN.out, List.take_length] at this
      exact decide_eq_true this
 · have hne' : ((p.length : Int) != (q.length : Int)) = true := by simp; omega
   have HN := hid hne
   clear hne
   go_enter Tryz.func42, Tryz.ntmps42
   go_wp2_with fail
   go_ret
   refine ⟨ret_bool ?_, Below.refl _ _⟩
   symm
   rw [decide_eq_false_iff_not]
   rintro rfl
   exact HN.out rfl
end Go.Proofs.LF
namespace Go.Proofs.LF
open Go.RowKit
set_option maxHeartbeats 4000000
set_option maxRecDepth 100000
attribute [local go_sem] bs_toList bs_size bs_get
theorem dup_own (l : List Int) (an : Option Addr) (cn : Nat) (S : Nat → Prop) (w : World) (hl : Ints S w (.slice an l.length cn) l) (hS : ∀ b, S b → b < w.heap.size) (hlen : l.length ≤ 1000) :
 Calls Tryz.prog 85 #[.slice an l.length cn] w fun e w' => ∃ a c, e = .returned (.slice a l.length c) ∧ w'.ownsRow w.heap.size 3 1 (.slice a l.length c) l.length (l.map (Value.int .i64)) ∧ Below w.heap.size w w' := by
 obtain ⟨i0, hi0, hz0, hz1, hz2⟩ := info_parts Tryz.info3
 have hcap := SlC.caps hl
 have hl0 : (l.map (Value.int .i64)).length = l.length * 1 := by simp
 go_enter Tryz.func85, Tryz.ntmps85
 go_wp2_with (first | (at_make; refine wpList_make_own _ rfl _ _ 66 rfl w.heap.size 3 i0 _ 1 Tryz.underlying66 hi0 hz0 hz1 .i64 .i64 l.length l.length rfl rfl rfl (by rw [hz2]; omega) (by unfold maxLen; omega) (nl_ _) ?_; intro w1 hown1 hgrow1) | (at_builtin; refine wpList_append_fits_any _ rfl _ _ 66 rfl w.heap.size 3 i0 1 Tryz.underlying66 hi0 hz1 w.heap.size 0 l.length [] rfl hown1 an l.length cn (l.map (Value.int .i64)) rfl hl0 hcap.2.2 (SlC.news hl (Agree.grown hgrow1 fun b hb => ⟨hS b hb, by simp⟩)) (one_ints l) (by omega) ?_; intro w2 hown2 hgrow2))
 go_ret
 have h2 := hown2
 simp only [Nat.zero_add, List.nil_append] at h2
 exact ⟨_, _, rfl, h2, ((Below.refl _ _).grown hgrow1 (nl_ _) (by simp)).grown hgrow2 hgrow1.size (fun k hk => by cases hk; exact nl_ _)⟩
theorem Own_own : ∀ (y : Fo) (av : Option Addr) (cv : Nat) (S : Nat → Prop) (w : World), FSl S w (.slice av y.len cv) y → (∀ b, S b → b < w.heap.size) → y.len ≤ 1000 → y.Sm →
 Calls Tryz.prog 19 #[.slice av y.len cv] w fun e w' => ∃ a c, e = .returned (.slice a y.len c) ∧ (∃ ds, w'.ownsRow w.heap.size 85 3 (.slice a y.len c) y.len ds ∧ FNCs (Rx w.heap.size w'.heap.size (.slice a y.len c)) w' y ds) ∧ Below w.heap.size w w' := by
 intro y av cv S w hv hS hlen hsm
 obtain ⟨a, c, he, hc, hm, hat⟩ := hv.at
 cases he
 obtain ⟨i0, hi0, hz0, hz1, hz2⟩ := info_parts Tryz.info85
 unfold maxLen at hm
 go_enter Tryz.func19, Tryz.ntmps19
 go_wp2_with fail
 go_loopw [3, 8] (fun v i wr => ∃ k : Nat, k ≤ y.len ∧ i = .int .i64 k ∧ (∃ cs, wr.ownsRow w.heap.size 85 3 v k cs ∧ FNCs (Rx w.heap.size wr.heap.size v) wr (y.take k) cs) ∧ Below w.heap.size w wr) (fun _ i _ => y.len - (intOf i).toNat)
 case atStart => exact ⟨0, by omega, rfl, ⟨[], World.ownsRow_nil _ _ _ _, rfl⟩, Below.refl _ _⟩
 case round =>
  obtain ⟨k, hk, rfl, ⟨cs, hown, hfc⟩, hB⟩ := hrel
  by_cases hlt : k < y.len
  · obtain ⟨g, o, n, l, s, r, an, cn, ab, cb, rfl, hg1, hd, hc0, hc1, hc2, hI, hF⟩ := hat k hlt
    have ha : Agree S w wr := Ag_b hB hS
    have c0 := ha.cell hg1 hc0
    have c1 := ha.cell hg1 hc1
    have c2 := ha.cell hg1 hc2
    obtain ⟨s1, s2, s3, s4, _⟩ : n.length ≤ 1000 ∧ l.length ≤ 1000 ∧ s.len ≤ 1000 ∧ s.Sm ∧ r.Sm := by have := hsm.drop (i := k); rwa [hd] at this
    have s5 := Fo.cnt_at hd
    have HD := hid hd
    have hsz := hB.size
    have hne := owns_ne hown (nl_ wr.heap.size)
    clear hc0 hc1 hc2 hat hd
    go_wp2_with fail
    go_region_held3 (fun w' => w'.cell? ⟨wr.heap.size, 0, none⟩ = some (.string (bs n)) ∧ w'.cell? ⟨wr.heap.size, 1, none⟩ = some (.slice an l.length cn) ∧ w'.cell? ⟨wr.heap.size, 2, none⟩ = some (.slice ab s.len cb))
     (first | go_keep | (go_split_ands; exact ⟨bc_ hb1 (by simp) (by assumption), bc_ hb1 (by simp) (by assumption), bc_ hb1 (by simp) (by assumption)⟩) | (go_split_ands; have hlt2 := hb1.size; exact ⟨bc_ hb2 (by simp at hlt2; omega) (by assumption), bc_ hb2 (by simp at hlt2; omega) (by assumption), bc_ hb2 (by simp at hlt2; omega) (by assumption)⟩) | (go_split_ands; exact ⟨grown_cell hgrow hne (by assumption), grown_cell hgrow hne (by assumption), grown_cell hgrow hne (by assumption)⟩))
     (first
       | (go_at_call 85; refine (dup_own l an cn S _ (hI.agree (Ag_b (B := w.heap.size) ?_ hS)) ?_ s2).mono ?_; (exact (hB.alloc hB.size _).drew); (intro b hb; have := hS b hb; simp; omega); rintro e w1 ⟨a1, c1, rfl, hI1, hb1⟩)
       | (go_at_call 19; refine (Own_any (s.cnt + 1) s ab cb S _ (Nat.lt_succ_self _) (hF.agree (Ag_b (B := w.heap.size) ?_ hS)) ?_ s3 s4).mono ?_; (exact ((hB.alloc hB.size _).drew).trans (hb1.mono (by simp; omega))); (intro b hb; have := hS b hb; have := hb1.size; simp at this; omega); rintro e w2 ⟨a2, c2, rfl, hF2, hb2⟩)
       | (refine step_append_lies _ (by rfl) _ _ _ (by rfl) w.heap.size 85 i0 _ 3 64 Tryz.underlying22 hi0 hz0 hz1 hz2 rfl (by omega) u3 k cs (by rfl) ((ob_ (ob_ (hown.alloc _).drew hb1 (nl_ _)) hb2 (nl_ _)).alloc _) ⟨w2.heap.size, 0, none⟩ 1 1 [.string (bs n), .slice a1 l.length c1, .slice a2 s.len c2] (by rfl) (by rfl) (World.news_of_block (cs := #[.string (bs n), .slice a1 l.length c1, .slice a2 s.len c2]) (t := 85) (fr := (0, 0)) (heap_alloc_new _ _)) (by simp [Value.oneCell']) (by omega) (by unfold maxLen; omega) (by omega) (by have := hb1.size; have := hb2.size; simp at *; omega) (w2.heap.size + 1) (by simp) ?_; intro gg cap w3 hown3 hgrow hatt hltt))
    go_wp2
    go_roundw
    case rel =>
     have st : Step w.heap.size wr _ w3 u3 gg := ⟨((((Below.refl _ _).alloc (nl_ _) _).drew.trans (hb1.mono (by simp))).trans (hb2.mono (by have := hb1.size; simp at this; omega))).alloc (by have := hb1.size; have := hb2.size; simp at *; omega) _, hgrow, hsz, fun b hb => hown.lt b hb, hatt.imp id (fun h => by rw [h]; simp), hltt⟩
     have hv' : (Value.slice (some ⟨gg, 0, none⟩) (k + 1) cap).ownBlock = some gg := rfl
     have hp := st.past hv'
     have hz1 := hb1.size
     have hz2 := hb2.size
     have hf1 := st.fresh (p := (wr.alloc (.cells #[.string (bs n), .slice an l.length cn, .slice ab s.len cb] 85)).drew.heap.size) (q := w1.heap.size) hv' (by simp) (by simp; omega) (hb2.alloc hb2.size _)
     have hf2 := st.fresh (p := w1.heap.size) (q := w2.heap.size) hv' (by simp at hz1; omega) (by simp) ((Below.refl _ _).alloc (nl_ _) _)
     have g1 := hfc.agree hp.2
     have g2 := owns_base (base' := 0) (owns_agree hI1 fun q hq => hf1.2 q (hI1.lt q hq)) (fun _ _ => Nat.zero_le _)
     have g3 := hF2.agree hf2.2
     have g4 := g1.app (FNCs.one (n := n) (S1 := Rg (wr.alloc (.cells #[.string (bs n), .slice an l.length cn, .slice ab s.len cb] 85)).drew.heap.size w1.heap.size) g2 (fun q hq => hI1.lt q hq) g3 (fun b h1 h2 => by have := h1.2; have := h2.1; omega)) (fun b h1 h2 => by
      have h3 := h1.2.1
      rcases h2 with h2 | h2
      · have := h2.1; simp at this; omega
      · have := h2.1; simp at hz1; omega)
     have g5 := g4.wide (S' := Rx w.heap.size w3.heap.size (.slice (some ⟨gg, 0, none⟩) (k + 1) cap)) (fun b hb => by
      rcases hb with hb | hb | hb
      · exact hp.1 b hb
      · exact hf1.1 b hb
      · exact hf2.1 b hb)
     exact ⟨k + 1, by omega, by go_num, ⟨_, hown3, by rw [Fo.take_succ HD.out]; exact g5⟩, st.out hB⟩
    case measure => simp [intOf]; omega
  · go_wp2_with fail
    go_ret
    obtain rfl : k = y.len := by omega
    obtain ⟨aa, ca, rfl, _, _⟩ := (SlC.of_owns hown).shape
    rw [Fo.take_len] at hfc
    exact ⟨aa, ca, rfl, ⟨_, hown, hfc⟩, hB⟩
end Go.Proofs.LF
