/- Parts of the proof of a law of layer 11 (file): LfW48, LfW88, LfW75, LfVal, LfW83. The conditions stand in each theorem. -/
import Derived.BigQuiet
import Derived.Deep.AppendLies
import Derived.Deep.Cut
import Derived.Deep.CutBlock
import Derived.Deep.CutRange
import Derived.Deep.QuietTactic
import Derived.Deep.RegionHeld3
import Derived.Laws.ResultCell
import Derived.Outline
import Derived.Test.YtadkpjgpefcphaaGreatDoorProg
import Derived.WalkKit
import Derived.WalkLawsBesides
import Derived.WalkSpells
import Derived.Test.YtadkpjgpefcphaaGreatDoorPuaf
import Derived.Test.YtadkpjgpefcphaaGreatDoorPual
import Derived.Test.YtadkpjgpefcphaaGreatDoorPuas
import Derived.Test.YtadkpjgpefcphaaGreatDoorPuba
import Derived.Test.YtadkpjgpefcphaaGreatDoorPubb
import Derived.Test.YtadkpjgpefcphaaGreatDoorPubd
import Derived.Test.YtadkpjgpefcphaaGreatDoorPubf
import Derived.Test.YtadkpjgpefcphaaGreatDoorPubg
import Derived.Test.YtadkpjgpefcphaaGreatDoorPubk
import Derived.Test.YtadkpjgpefcphaaGreatDoorPubm
set_option linter.all false
set_option linter.unusedVariables false
set_option linter.unusedSimpArgs false
namespace Go.Proofs.LF
open Go.RowKit Go.Sort
set_option maxHeartbeats 4000000
set_option maxRecDepth 100000
attribute [local go_sem] bs_toList bs_size bs_get
def bedN : List UInt8 := [98, 101, 100]
def rakedN : List UInt8 := [114, 97, 107, 101, 100]
def soldN : List UInt8 := [115, 111, 108, 100]
def oneY (n : Int) : Fo := .cons bedN [3] (.cons rakedN [5, n] .nil .nil) (.cons soldN [] .nil .nil)
theorem FCs.alloc {S : Nat → Prop} {w : World} {y : Fo} {cs : List Value} (h : FCs S w y cs) (hS : ∀ b, S b → b < w.heap.size) (o : Obj) : FCs S (w.alloc o) y cs := h.agree (fun b hb => heap_alloc_old _ _ (hS b hb))
theorem slc_block {S : Nat → Prop} {w : World} {b k n : Nat} {vs : Array Value} {t : TypeId} {fr : Nat × Nat} (hb : w.heap[b]? = some (.cells vs t fr)) (hS : S b) (hl : vs.size = n * k) (hn : n ≤ maxLen) : SlC S w k (.slice (some ⟨b, 0, none⟩) n n) n vs.toList := by
  refine ⟨by simpa using hl, _, n, rfl, Nat.le_refl _, hn, (fun h => by cases h), .inr ⟨b, 0, rfl, hS, fun j u hj => ?_⟩⟩
  simp only [World.cell?, hb, Nat.zero_add]
  simpa using hj
theorem One_any (n : Int) (w : World) :
    Calls Tryz.prog 80 #[.int .i64 n] w fun e w' => ∃ g, e = .returned (.slice (some ⟨g, 0, none⟩) 2 2) ∧ FSl (Rg w.heap.size w'.heap.size) w' (.slice (some ⟨g, 0, none⟩) 2 2) (oneY n) ∧ Below w.heap.size w w' := by
  go_enter Tryz.func80, Tryz.ntmps80
  go_wp2_with fail
  refine bodyPost_ret (v := .slice (some ⟨w.heap.size + 1 + 1 + 1, 0, none⟩) 2 2) (by simp [results, Tryz.results80, go_sem]) rfl ?_
  refine ⟨w.heap.size + 1 + 1 + 1, rfl, ?_, ?_⟩
  · have key : ∀ (N : Nat) (W : World) (A B C D : Obj), A = .cells #[.int .i64 3] 3 → B = .cells #[.int .i64 5, .int .i64 n] 3 → C = .cells #[.string ⟨#[114, 97, 107, 101, 100]⟩, .slice (some ⟨N + 1, 0, none⟩) 2 2, .slice none 0 0] 85 →
        D = .cells #[.string ⟨#[98, 101, 100]⟩, .slice (some ⟨N, 0, none⟩) 1 1, .slice (some ⟨N + 1 + 1, 0, none⟩) 1 1, .string ⟨#[115, 111, 108, 100]⟩, .slice none 0 0, .slice none 0 0] 85 → N = w.heap.size → W = (((w.alloc A).alloc B).alloc C).alloc D → FSl (Rg w.heap.size W.heap.size) W (.slice (some ⟨N + 1 + 1 + 1, 0, none⟩) 2 2) (oneY n) := by
      rintro N W A B C D hA hB hC hD hN hW
      have hz : W.heap.size = N + 4 := by rw [hW, hN]; simp
      have a0 : W.heap[N]? = some A := by
        rw [hW, hN]
        exact (heap_alloc_old _ _ (by simp; omega)).trans ((heap_alloc_old _ _ (by simp; omega)).trans ((heap_alloc_old _ _ (by simp)).trans (heap_alloc_new w A)))
      have a1 : W.heap[N + 1]? = some B := by
        have h := heap_alloc_new (w.alloc A) B
        simp only [World.size_alloc] at h
        rw [hW, hN]
        exact (heap_alloc_old _ _ (by simp)).trans ((heap_alloc_old _ _ (by simp)).trans h)
      have a2 : W.heap[N + 1 + 1]? = some C := by
        have h := heap_alloc_new ((w.alloc A).alloc B) C
        simp only [World.size_alloc] at h
        rw [hW, hN]
        exact (heap_alloc_old _ _ (by simp)).trans h
      have a3 : W.heap[N + 1 + 1 + 1]? = some D := by
        have h := heap_alloc_new (((w.alloc A).alloc B).alloc C) D
        simp only [World.size_alloc] at h
        rw [hW, hN]
        exact h
      have hS : ∀ k, k < 4 → Rg w.heap.size W.heap.size (N + k) := fun k hk => ⟨by omega, by omega⟩
      rw [hA] at a0
      rw [hB] at a1
      rw [hC] at a2
      rw [hD] at a3
      have i0 : Ints (Rg w.heap.size W.heap.size) W (.slice (some ⟨N, 0, none⟩) 1 1) [3] := slc_block (vs := #[.int .i64 3]) a0 (hS 0 (by omega)) rfl (by simp [maxLen])
      have i1 : Ints (Rg w.heap.size W.heap.size) W (.slice (some ⟨N + 1, 0, none⟩) 2 2) [5, n] := slc_block (vs := #[.int .i64 5, .int .i64 n]) a1 (hS 1 (by omega)) rfl (by simp [maxLen])
      have nilI : ∀ S, Ints S W (.slice none 0 0) [] := fun S => ⟨rfl, none, 0, rfl, Nat.le_refl _, by simp [maxLen], fun _ => rfl, .inl rfl⟩
      have nilF : ∀ S, ∃ ds, SlC S W 3 (.slice none 0 0) Fo.nil.len ds ∧ FCs S W .nil ds := fun S => ⟨[], ⟨rfl, none, 0, rfl, Nat.le_refl _, by simp [maxLen], fun _ => rfl, .inl rfl⟩, rfl⟩
      have s2 := slc_block (k := 3) (n := 1) (S := Rg w.heap.size W.heap.size) a2 (hS 2 (by omega)) rfl (by simp [maxLen])
      have s3 := slc_block (k := 3) (n := 2) (S := Rg w.heap.size W.heap.size) a3 (hS 3 (by omega)) rfl (by simp [maxLen])
      exact ⟨_, s3, _, _, _, rfl, i0, ⟨_, s2, _, _, _, rfl, i1, nilF _, rfl⟩, _, _, _, rfl, nilI _, nilF _, rfl⟩
    exact key w.heap.size _ _ _ _ _ rfl rfl rfl rfl rfl rfl
  · exact ((((Below.refl _ _).alloc (Nat.le_refl _) _).alloc (by simp) _).alloc (by simp; omega) _).alloc (by simp; omega) _
theorem K_any (s : ByteArray) (x : Int) (g c : Nat) (w : World) (hx : w.cell? ⟨g, 0, none⟩ = some (.int .i64 x)) (hg : g < w.heap.size) (hc : 1 ≤ c) :
    Calls Tryz.prog 51 #[.string s, .slice (some ⟨g, 0, none⟩) 1 c] w fun e w' => e = .returned (.agg #[.string s, .bool true, .int .i64 x]) ∧ Below w.heap.size w w' := by
  have hx' : (w.alloc (.cells #[.string ByteArray.empty, .bool false, .int .i64 0] 71)).cell? ⟨g, 0, none⟩ = some (.int .i64 x) := below_cell ((Below.refl w.heap.size _).alloc (Nat.le_refl _) _) hg hx
  go_enter Tryz.func51, Tryz.ntmps51
  go_wp2_with fail
  exact bodyPost_ret (v := .agg #[.string s, .bool true, .int .i64 x]) (by simp [results, Tryz.results51, go_sem]) rfl ⟨rfl, ((Below.refl _ _).alloc (Nat.le_refl _) _)⟩
theorem ky_beq (a b : Ky) : decide (a = b) = (a.n == b.n && (a.h == b.h && a.x == b.x)) := by
  obtain ⟨an, ah, ax⟩ := a
  obtain ⟨bn, bh, bx⟩ := b
  by_cases h1 : an = bn <;> by_cases h2 : ah = bh <;> by_cases h3 : ax = bx <;> simp [h1, h2, h3]
theorem eqKeys_any (p q : List Ky) (ap aq : Option Addr) (cp cq : Nat) (S : Nat → Prop) (w : World) (hp : Pth S w (.slice ap p.length cp) p) (hq : Pth S w (.slice aq q.length cq) q) (lp : p.length ≤ 100000) (lq : q.length ≤ 100000) :
    Calls Tryz.prog 42 #[.slice ap p.length cp, .slice aq q.length cq] w fun e w' => e = .returned (.bool (decide (p = q))) ∧ Below w.heap.size w w' := by
  by_cases hne : p.length = q.length
  · have hne' : ((p.length : Int) != (q.length : Int)) = false := by simp; omega
    have HN := hid hne
    clear hne
    go_enter Tryz.func42, Tryz.ntmps42
    go_wp2_with fail
    go_loopw [13] (fun i wr => ∃ (k d : Nat), k ≤ p.length ∧ i = .int .i64 k ∧ wr = w.drewN d ∧ Hid (p.take k = q.take k)) (fun i _ => p.length - (intOf i).toNat)
    case atStart => exact ⟨0, 0, by omega, rfl, rfl, by simp [Hid]⟩
    case round =>
      obtain ⟨k, d, hk, rfl, rfl, H2⟩ := hrel
      by_cases hlt : k < p.length
      · obtain ⟨g, o, rfl, _, _, _, hcell⟩ := SlC.cells hp (by omega)
        obtain ⟨g', o', rfl, _, _, _, hcell'⟩ := SlC.cells hq (by have := HN.out; omega)
        have hlt' : k < q.length := by have := HN.out; omega
        obtain ⟨k0, k1, k2⟩ := key_cells hlt
        obtain ⟨k0', k1', k2'⟩ := key_cells hlt'
        have c0 := hcell _ _ k0
        have c1 := hcell _ _ k1
        have c2 := hcell _ _ k2
        have d0 := hcell' _ _ k0'
        have d1 := hcell' _ _ k1'
        have d2 := hcell' _ _ k2'
        rw [← Nat.add_assoc] at c1 c2 d1 d2
        have htp : p.take (k + 1) = p.take k ++ [p[k]] := List.take_succ_eq_append_getElem hlt
        have htq : q.take (k + 1) = q.take k ++ [q[k]] := List.take_succ_eq_append_getElem hlt'
        obtain ⟨a, ha⟩ : ∃ a, p[k] = a := ⟨_, rfl⟩
        obtain ⟨b, hb⟩ : ∃ b, q[k] = b := ⟨_, rfl⟩
        have HA := hid ha
        have HB := hid hb
        rw [ha] at c0 c1 c2 htp
        rw [hb] at d0 d1 d2 htq
        have HTP := hid htp
        have HTQ := hid htq
        clear hcell hcell' k0 k1 k2 k0' k1' k2' htp htq ha hb
        have i1 : (0 : Int) ≤ (k : Int) := by omega
        have i2 : (k : Int) < (p.length : Int) := by omega
        have i3 : (k : Int) < (q.length : Int) := by omega
        by_cases he : a = b
        · subst he
          go_wp2_with fail
          go_quiet (fail)
          go_wp2_with fail
          go_roundw
          case rel => exact ⟨k + 1, _, by omega, by go_num, rfl, by rw [Hid, HTP.out, HTQ.out, H2.out]⟩
          case measure => simp [intOf]; omega
        · have hdec : (a.n == b.n && (a.h == b.h && a.x == b.x)) = false := by rw [← ky_beq]; simp [he]
          have HE := hid he
          have HDEC := hid hdec
          clear he hdec
          cases hn : (a.n == b.n) <;> cases hh : (a.h == b.h) <;> cases hx : (a.x == b.x)
          all_goals first
            | (exfalso; have := HDEC.out; rw [hn, hh, hx] at this; cases this; done)
            | (go_wp2_with fail
               go_quiet (fail)
               go_wp2_with fail
               go_ret
               refine ⟨ret_bool ?_, below_drewN (below_drewN (Below.refl _ _) _) _⟩
               symm
               rw [decide_eq_false_iff_not]
               rintro rfl
               exact HE.out (HA.out.symm.trans HB.out))
      · go_wp2_with fail
        go_ret
        obtain rfl : k = p.length := by omega
        refine ⟨ret_bool ?_, below_drewN (Below.refl _ _) _⟩
        symm
        have := H2.out
        rw [List.take_length, HN.out, List.take_length] at this
        exact decide_eq_true this
  · have hne' : ((p.length : Int) != (q.length : Int)) = true := by simp; omega
    have HN := hid hne
    clear hne
    go_enter Tryz.func42, Tryz.ntmps42
    go_wp2_with fail
    go_ret
    refine ⟨ret_bool ?_, Below.refl _ _⟩
    symm
    rw [decide_eq_false_iff_not]
    rintro rfl
    exact HN.out rfl
end Go.Proofs.LF
namespace Go.Proofs.LF
open Go.RowKit Go.Sort
set_option maxHeartbeats 4000000
set_option maxRecDepth 100000
attribute [local go_sem] bs_toList bs_size bs_get
def lastN (p : List Ky) : List UInt8 := (p.getLastD ⟨[], false, 0⟩).n
def nmF (nm : List UInt8) (ps : List (List Ky)) : List (List Ky) := ps.filter fun p => decide (lastN p = nm)
theorem nmF_snoc (nm : List UInt8) (ps : List (List Ky)) (p : List Ky) : nmF nm (ps ++ [p]) = if lastN p = nm then nmF nm ps ++ [p] else nmF nm ps := by
  unfold nmF
  rw [List.filter_append, List.filter_cons]
  split
  · rename_i h; rw [if_pos (by simpa using h)]; simp
  · rename_i h; rw [if_neg (by simpa using h)]; simp
def findE (y : Fo) : Int := chkY y
def findL (y : Fo) (nm : List UInt8) : List (List Ky) := if chkY y = 0 then nmF nm ((flsL [] y).map Fl.p) else []
def FindR (y : Fo) (nm : List UInt8) (w : World) (e : Ending) (w' : World) : Prop :=
  ∃ a c, e = .returned (.tuple #[.slice a (findL y nm).length c, .int .i64 (findE y)]) ∧ PaSl (Rg w.heap.size w'.heap.size) w' (.slice a (findL y nm).length c) (findL y nm) ∧ Below w.heap.size w w'
theorem FindR.bad {y : Fo} {nm : List UInt8} {w w' : World} {x : Int} (hx : chkY y = x) (h0 : x ≠ 0) (hb : Below w.heap.size w w') : FindR y nm w (.returned (.tuple #[.slice none 0 0, .int .i64 x])) w' := by
  subst hx
  have h1 : findL y nm = [] := by rw [findL, if_neg h0]
  unfold FindR
  rw [h1]
  exact ⟨none, 0, rfl, ⟨[], ⟨rfl, _, 0, rfl, Nat.le_refl _, by simp [maxLen], fun _ => rfl, .inl rfl⟩, rfl⟩, hb⟩
theorem Tryz.info65p : (Tryz.prog.info? 65).map (fun i => (i.zero, i.size, i.bytes)) = some (some (.slice none 0 0), 1, 24) := by kernel_rfl
theorem Find_any (y : Fo) (nm : List UInt8) (ay : Option Addr) (cy : Nat) (S : Nat → Prop) (w : World) (hv : FSl S w (.slice ay y.len cy) y) (hS : ∀ b, S b → b < w.heap.size) (hlen : y.len ≤ 1000) (hsm : y.Sm) (hcnt : y.cnt ≤ 900) :
    Calls Tryz.prog 60 #[.slice ay y.len cy, .string (bs nm)] w (FindR y nm w) := by
  obtain ⟨i0, hi0, hz0, hz1, hz2⟩ := info_parts Tryz.info65p
  have HC := hid (Check_any y ay cy S w hv hS hlen hsm hcnt)
  have HV := hid hv
  have HS := hid hS
  have HSM := hid hsm
  clear hv hS hsm
  by_cases hc : chkY y = 0
  · have HCK := hid hc
    go_enter Tryz.func60, Tryz.ntmps60
    go_wp2_with fail
    refine HC.out.mono ?_
    rintro e w1 ⟨rfl, hb1⟩
    have hz1' := hb1.size
    have HFL := hid (flats_any y ay cy S w1 (HV.out.agree (Agree.of_below hb1 HS.out)) (fun b hb => by have := HS.out b hb; omega) hlen HSM.out hcnt)
    rw [hc]
    have HB1 := hid hb1
    clear hb1 hc HC
    go_wp2_with fail
    refine HFL.out.mono ?_
    rintro e w2 ⟨af, cf, rfl, hls, hb2⟩
    have hz2' := hb2.size
    have HB2 := hid (HB1.out.trans (hb2.mono hz1'))
    have okf := fls_ok HCK.out
    have HNE := hid (fun (x : Fl) (hx : x ∈ flsL [] y) => show 1 ≤ x.p.length ∧ x.p.length ≤ 1000 from ⟨by
      have := flsL_ne x hx
      rcases Nat.eq_zero_or_pos x.p.length with h | h
      · exact absurd (List.eq_nil_of_length_eq_zero h) this
      · exact h, (okf.2.1 x hx).1⟩)
    have hll := okf.2.2
    obtain ⟨fs, hfs⟩ : ∃ fs, flsL [] y = fs := ⟨_, rfl⟩
    have HFS := hid hfs
    rw [hfs] at hls HNE hll ⊢
    obtain ⟨af', cf', ee, _, hcm, hat⟩ := LSl.at hls
    obtain ⟨rfl, rfl⟩ : af = af' ∧ cf = cf' := by cases ee; exact ⟨rfl, rfl⟩
    have HAT := hid hat
    unfold maxLen at hcm
    clear hb2 hls okf HFL hat ee hfs
    go_wp2_with fail
    go_loopw [7, 18] (fun vo vi wr => ∃ k : Nat, k ≤ fs.length ∧ vi = .int .i64 k ∧ Hid (RowS rdPa 65 (Rg w1.heap.size w2.heap.size) w2.heap.size wr vo (nmF nm ((fs.take k).map Fl.p))) ∧ Hid (Below w2.heap.size w2 wr)) (fun _ vi _ => fs.length - (intOf vi).toNat)
    case atStart => exact ⟨0, by omega, rfl, RowS.nil w2, Below.refl _ _⟩
    case round =>
      obtain ⟨k, hk, rfl, HR, HB⟩ := hrel
      have hzr := HB.out.size
      by_cases hlt : k < fs.length
      · have hlt' : (k : Int) < (fs.length : Int) := by omega
        obtain ⟨g, o, cs, rfl, hg, ⟨ap, cp, an, cn, rfl, hP, _⟩, hcl⟩ := HAT.out k hlt
        have hag := Agree.of_below (S := Rg w1.heap.size w2.heap.size) HB.out (fun _ h => h.2)
        have c0 := hag.cell hg (hcl 0 _ rfl)
        have c1 := hag.cell hg (hcl 1 _ rfl)
        rw [Nat.add_zero] at c0
        simp only [← Nat.add_assoc] at c1
        have htk : (fs.take (k + 1)).map Fl.p = (fs.take k).map Fl.p ++ [fs[k].p] := by
          rw [List.take_succ_eq_append_getElem hlt, List.map_append]; rfl
        have hne := HNE.out fs[k] (List.getElem_mem hlt)
        obtain ⟨x, hx⟩ : ∃ x, fs[k] = x := ⟨_, rfl⟩
        rw [hx] at c0 c1 htk hP hne
        have hsn := nmF_snoc nm ((fs.take k).map Fl.p) x.p
        rw [← htk] at hsn
        have HSN := hid hsn
        obtain ⟨h1, h2⟩ := hne
        obtain ⟨g', o', rfl, hg', _, _, hpc⟩ := SlC.cells hP (by omega)
        obtain ⟨m, hm⟩ : ∃ m, x.p.length = m + 1 := ⟨x.p.length - 1, by omega⟩
        obtain ⟨k0, k1', k2'⟩ := key_cells (p := x.p) (k := m) (by omega)
        have e0 := hag.cell hg' (hpc _ _ k0)
        have hln : lastN x.p = x.p[m].n := by
          unfold lastN
          rw [List.getLastD_eq_getLast?, List.getLast?_eq_getElem?, show x.p.length - 1 = m by omega, List.getElem?_eq_getElem (by omega)]; rfl
        obtain ⟨nn, hnn⟩ : ∃ nn, x.p[m].n = nn := ⟨_, rfl⟩
        rw [hnn] at e0 hln
        have HLN := hid hln
        have hPw := hP.agree hag
        have HPW := hid hPw
        have hgl : g' < wr.heap.size := by have := hg'.2; omega
        have hsub : ((x.p.length : Int) - 1) = (m : Int) := by omega
        have hmx : (m : Int) < (x.p.length : Int) := by omega
        have NB := hid (heap_alloc_new wr (.cells #[.slice (some ⟨g', o', none⟩) x.p.length cp, .slice an x.l.length cn] 171))
        have BA := hid ((Below.refl wr.heap.size wr).alloc (Nat.le_refl _) (.cells #[.slice (some ⟨g', o', none⟩) x.p.length cp, .slice an x.l.length cn] 171))
        have hxl : x.p.length ≤ 9223372036854775807 := by omega
        have HMM := hid hm
        clear hcl hpc k0 k1' k2' hP hPw hx htk hsn hln hnn hm
        go_upto_region 8 with fail
        obtain ⟨wa, hwa⟩ : ∃ wa, wr.alloc (.cells #[.slice (some ⟨g', o', none⟩) x.p.length cp, .slice an x.l.length cn] 171) = wa := ⟨_, rfl⟩
        have hza : wr.heap.size < wa.heap.size := by rw [← hwa]; simp
        rw [hwa] at NB BA ⊢
        have n0 := cells_get NB.out (k := 0) (v := .slice (some ⟨g', o', none⟩) x.p.length cp) rfl
        have e0' := below_cell BA.out hgl e0
        have HWA := hid hwa
        clear hwa c0 c1 e0
        by_cases heq : nn = nm
        · have hsn := HSN.out
          rw [if_pos (by rw [HLN.out, heq])] at hsn
          have HS2 := hid hsn
          clear hsn
          have hrow := HR.out.below (fun b hb => by have := hb.2; omega) BA.out
          have HROW := hid hrow
          have NB2 := hid (heap_alloc_new wa (.cells #[.slice (some ⟨g', o', none⟩) x.p.length cp] 65))
          have hlr : ((fs.take k).map Fl.p).length ≤ 60 := by simp; omega
          have hnl : (nmF nm ((fs.take k).map Fl.p)).length ≤ 60 := Nat.le_trans (List.length_filter_le _ _) hlr
          have hb2' := hid ((Below.refl wa.heap.size wa).alloc (Nat.le_refl _) (.cells #[.slice (some ⟨g', o', none⟩) x.p.length cp] 65))
          clear hrow hlr
          go_wp2_with (at_builtin; (refine wpList_push (r := rdPa) (e := 65) (S := Rg w1.heap.size w2.heap.size) (lo := w2.heap.size) rfl _ _ _ rfl i0 _ 24 Tryz.underlying49 hi0 hz0 hz1 hz2 rfl (by omega) rfl (HROW.out.below (fun b hb => by have := hb.2; omega) hb2'.out) (fun b hb => hb.2) (by simp; omega) x.p [.slice (some ⟨g', o', none⟩) x.p.length cp] wa.heap.size rfl NB2.out ⟨_, _, rfl, Pth.agree HPW.out (Agree.of_below (BA.out.trans (hb2'.out.mono (by omega))) (fun b hb => by have := hb.2; omega))⟩ (by unfold maxLen; omega) (by omega) ?_; intro v9 w9 hr9 hg9 hat9 hbl9))
          have hB9 := hbl9 w2 (HB.out.trans ((BA.out.trans (hb2'.out.mono (by omega))).mono hzr))
          have HR9 := hid hr9
          have HB9 := hid hB9
          clear hr9 hg9 hat9 hbl9 hB9
          go_roundw
          case rel => exact ⟨k + 1, by omega, by go_num, by rw [Hid, HS2.out]; exact HR9.out, HB9⟩
          case measure => simp [intOf]; omega
        · have hsn := HSN.out
          rw [if_neg (by rw [HLN.out]; exact heq)] at hsn
          have HS2 := hid hsn
          have hrow := HR.out.below (fun b hb => by have := hb.2; omega) BA.out
          have HROW := hid hrow
          have hB9 := HB.out.trans (BA.out.mono hzr)
          have HB9 := hid hB9
          have hb2 : (nn == nm) = false := by simp [heq]
          clear hsn hrow hB9
          go_wp2_with fail
          go_roundw
          case rel => exact ⟨k + 1, by omega, by go_num, by rw [Hid, HS2.out]; exact HROW.out, HB9⟩
          case measure => simp [intOf]; omega
      · obtain rfl : k = fs.length := by omega
        have hlt' : ¬ (fs.length : Int) < (fs.length : Int) := by omega
        obtain ⟨a9, c9, rfl, _, _⟩ := HR.out.shape
        have HL := hid (HR.out.lsl)
        have hz2 := HB2.out.size
        have hB9 := HB2.out.trans (HB.out.mono hz2)
        have HB9 := hid hB9
        clear HR hB9
        go_wp2_with fail
        have e1 : findL y nm = nmF nm (fs.map Fl.p) := by rw [findL, if_pos HCK.out, HFS.out]
        have e2 : findE y = 0 := HCK.out
        have hL := HL.out
        rw [List.take_length] at hL
        refine bodyPost_ret (v := .tuple #[.slice a9 (nmF nm (fs.map Fl.p)).length c9, .int .i64 0]) (by simp [results, Tryz.results60, go_sem]) rfl ?_
        unfold FindR
        rw [e1, e2]
        exact ⟨a9, c9, rfl, hL.wide fun b hb => by
          rcases hb with hb | hb
          · exact ⟨by have := hb.1; omega, by have := hb.2; omega⟩
          · exact ⟨by have := hb.1; omega, hb.2⟩, HB9.out⟩
  · obtain ⟨x, hx⟩ : ∃ x, chkY y = x := ⟨_, rfl⟩
    rw [hx] at hc HC
    have hc' : ¬ x = 0 := hc
    have HX := hid hx
    clear hx hc
    go_enter Tryz.func60, Tryz.ntmps60
    go_wp2_with fail
    refine HC.out.mono ?_
    rintro e w1 ⟨rfl, hb1⟩
    have HB1 := hid hb1
    clear hb1
    go_wp2_with fail
    exact bodyPost_ret (v := .tuple #[.slice none 0 0, .int .i64 x]) (by simp [results, Tryz.results60, go_sem]) rfl (FindR.bad HX.out hc' HB1.out)
end Go.Proofs.LF
namespace Go.Proofs.LF
open Go.RowKit Go.Sort
set_option maxHeartbeats 4000000
set_option maxRecDepth 100000
attribute [local go_sem] bs_toList bs_size bs_get
theorem kOf_any (n : List UInt8) (l : List Int) (an : Option Addr) (cn : Nat) (S : Nat → Prop) (w : World) (hl : Ints S w (.slice an l.length cn) l) (hS : ∀ b, S b → b < w.heap.size) :
    Calls Tryz.prog 51 #[.string (bs n), .slice an l.length cn] w fun e w' => e = .returned (.agg #[.string (bs (kyOf n l).n), .bool (kyOf n l).h, .int .i64 (kyOf n l).x]) ∧ Below w.heap.size w w' := by
  cases l with
  | nil =>
    go_enter Tryz.func51, Tryz.ntmps51
    go_wp2
    exact bodyPost_ret (v := .agg #[.string (bs n), .bool false, .int .i64 0]) (by simp [results, Tryz.results51, go_sem]) rfl ⟨rfl, ((Below.refl _ _).alloc (Nat.le_refl _) _)⟩
  | cons x l =>
    obtain ⟨g, o, rfl, hg, _, _, hcell⟩ := SlC.cells hl (by simp)
    · have hx : w.cell? ⟨g, o, none⟩ = some (.int .i64 x) := hcell 0 _ rfl
      have hg' := hS g hg
      clear hcell
      have hne : (((x :: l).length : Nat) : Int) ≠ 0 := by simp; omega
      have hx' : (w.alloc (.cells #[.string ByteArray.empty, .bool false, .int .i64 0] 71)).cell? ⟨g, o, none⟩ = some (.int .i64 x) := below_cell ((Below.refl w.heap.size _).alloc (Nat.le_refl _) _) hg' hx
      go_enter Tryz.func51, Tryz.ntmps51
      go_wp2_with fail
      exact bodyPost_ret (v := .agg #[.string (bs n), .bool true, .int .i64 x]) (by simp [results, Tryz.results51, go_sem]) rfl ⟨rfl, ((Below.refl _ _).alloc (Nat.le_refl _) _)⟩
theorem dupK_own (l : List Ky) (an : Option Addr) (cn : Nat) (S : Nat → Prop) (w : World) (hl : Pth S w (.slice an l.length cn) l) (hS : ∀ b, S b → b < w.heap.size) (hlen : l.length ≤ 1000) :
    Calls Tryz.prog 50 #[.slice an l.length cn] w fun e w' => ∃ a c, e = .returned (.slice a l.length c) ∧ w'.ownsRow w.heap.size 71 3 (.slice a l.length c) l.length (l.flatMap Ky.cells) ∧ Below w.heap.size w w' := by
  obtain ⟨i0, hi0, hz0, hz1, hz2⟩ := info_parts Tryz.info71'
  have hcap := SlC.caps hl
  have hl0 := len_keys l
  go_enter Tryz.func50, Tryz.ntmps50
  go_wp2_with (first | (at_make; refine wpList_make_own _ rfl _ _ 65 rfl w.heap.size 71 i0 _ 3 Tryz.underlying65 hi0 hz0 hz1 .i64 .i64 l.length l.length rfl rfl rfl (by rw [hz2]; omega) (by unfold maxLen; omega) (Nat.le_refl _) ?_; intro w1 hown1 hgrow1) | (at_builtin; refine wpList_append_fits_any _ rfl _ _ 65 rfl w.heap.size 71 i0 3 Tryz.underlying65 hi0 hz1 w.heap.size 0 l.length [] rfl hown1 an l.length cn (l.flatMap Ky.cells) rfl hl0 hcap.2.2 (SlC.news hl (Agree.grown hgrow1 fun b hb => ⟨hS b hb, by simp⟩)) (one_keys l) (by omega) ?_; intro w2 hown2 hgrow2))
  go_ret
  have h2 := hown2
  simp only [Nat.zero_add, List.nil_append] at h2
  exact ⟨_, _, rfl, h2, ((Below.refl _ _).grown hgrow1 (Nat.le_refl _) (by simp)).grown hgrow2 hgrow1.size (fun k hk => by cases hk; exact Nat.le_refl _)⟩
def EqK (g : Nat) : Prop := ∀ (p q : List Ky) (ap aq : Option Addr) (cp cq F : Nat) (S : Nat → Prop) (w : World), Pth S w (.slice ap p.length cp) p → Pth S w (.slice aq q.length cq) q → p.length ≤ 1000 → q.length ≤ 1000 → w.cell? ⟨F, 0, none⟩ = some (.slice aq q.length cq) →
    Calls Tryz.prog g #[.slice ap p.length cp, .pointer (some ⟨F, 0, none⟩)] w fun e w' => e = .returned (.bool (decide (p = q))) ∧ Below w.heap.size w w'
theorem enters46 : Enters 46 := by intro args W; simp [go_sem]
theorem enters129 : Enters 129 := by intro args W; simp [go_sem]
theorem eq46 : EqK 46 := by
  intro p q ap aq cp cq F S w hp hq lp lq hc
  have H := hid (eqKeys_any p q ap aq cp cq S w hp hq (by omega) (by omega))
  clear hp hq
  go_enter Tryz.func46, Tryz.ntmps46
  go_wp2_with fail
  refine H.out.mono ?_
  rintro e w1 ⟨rfl, hb1⟩
  go_wp2_with fail
  go_ret
  exact ⟨rfl, hb1⟩
theorem eq129 : EqK 129 := by
  intro p q ap aq cp cq F S w hp hq lp lq hc
  have H := hid (eqKeys_any p q ap aq cp cq S w hp hq (by omega) (by omega))
  clear hp hq
  go_enter Tryz.func129, Tryz.ntmps129
  go_wp2_with fail
  refine H.out.mono ?_
  rintro e w1 ⟨rfl, hb1⟩
  go_wp2_with fail
  go_ret
  exact ⟨rfl, hb1⟩
theorem predK {g : Nat} (h : EqK g) (ps : List (List Ky)) (q : List Ky) (al aq : Option Addr) (cl cq F : Nat) (S T : Nat → Prop) (w : World) (ds : List Value) (h2 : LCs rdPa S w ps ds) (hS : ∀ b, S b → b < w.heap.size) (hq : Pth T w (.slice aq q.length cq) q) (hT : ∀ b, T b → b < w.heap.size)
    (hF : F < w.heap.size) (hc : w.cell? ⟨F, 0, none⟩ = some (.slice aq q.length cq)) (hps : ∀ p ∈ ps, p.length ≤ 1000) (lq : q.length ≤ 1000) (i : Nat) (hi : i < ps.length) :
    PredC g [.pointer (some ⟨F, 0, none⟩)] w [elemV 1 ds i] (decide (ps.getD i [] = q)) := fun W hW => by
  obtain ⟨ap', cp', he, hp'⟩ := path_elem h2 hi
  have hg : ps.getD i [] = ps[i] := by simp [List.getD_eq_getElem?_getD, hi]
  rw [he, hg]
  exact h ps[i] q ap' aq cp' cq F (fun b => S b ∨ T b) W ((hp'.agree (Agree.of_below hW hS)).wide fun b hb => .inl hb) ((hq.agree (Agree.of_below hW hT)).wide fun b hb => .inr hb) (hps _ (List.getElem_mem hi)) lq (below_cell hW hF hc)
theorem contK_any (ps : List (List Ky)) (q : List Ky) (al aq : Option Addr) (cl cq F : Nat) (S T : Nat → Prop) (w : World) (hv : PaSl S w (.slice al ps.length cl) ps) (hS : ∀ b, S b → b < w.heap.size) (hq : Pth T w (.slice aq q.length cq) q) (hT : ∀ b, T b → b < w.heap.size)
    (hF : F < w.heap.size) (hc : w.cell? ⟨F, 0, none⟩ = some (.slice aq q.length cq)) (hl : ps.length ≤ 1000) (hps : ∀ p ∈ ps, p.length ≤ 1000) (lq : q.length ≤ 1000) :
    Calls Tryz.prog 45 #[.slice al ps.length cl, .func (.func 46) #[] #[.pointer (some ⟨F, 0, none⟩)]] w fun e w' => e = .returned (.bool (decide (q ∈ ps))) ∧ Below w.heap.size w w' := by
  obtain ⟨ds, h1, h2⟩ := hv
  have key := cont_path 46 enters46 (fun i => decide (ps.getD i [] = q)) [.pointer (some ⟨F, 0, none⟩)] ps.length al cl ds S w h1 hS (by omega) (fun i hi => predK eq46 ps q al aq cl cq F S T w ds h2 hS hq hT hF hc hps lq i hi)
  rw [anyN_list (fun p => decide (p = q)) _ ps (fun i hi => by simp [List.getD_eq_getElem?_getD, hi])] at key
  rw [show (ps.any fun p => decide (p = q)) = decide (q ∈ ps) from by
    rw [Bool.eq_iff_iff]; simp] at key
  exact key
theorem idxK_any (ps : List (List Ky)) (q : List Ky) (al aq : Option Addr) (cl cq F : Nat) (S T : Nat → Prop) (w : World) (hv : PaSl S w (.slice al ps.length cl) ps) (hS : ∀ b, S b → b < w.heap.size) (hq : Pth T w (.slice aq q.length cq) q) (hT : ∀ b, T b → b < w.heap.size)
    (hF : F < w.heap.size) (hc : w.cell? ⟨F, 0, none⟩ = some (.slice aq q.length cq)) (hl : ps.length ≤ 1000) (hps : ∀ p ∈ ps, p.length ≤ 1000) (lq : q.length ≤ 1000) :
    Calls Tryz.prog 128 #[.slice al ps.length cl, .func (.func 129) #[] #[.pointer (some ⟨F, 0, none⟩)]] w fun e w' => e = .returned (.int .i64 (idxN (fun i => decide (ps.getD i [] = q)) ps.length)) ∧ Below w.heap.size w w' := by
  obtain ⟨ds, h1, h2⟩ := hv
  exact idx_path 129 enters129 (fun i => decide (ps.getD i [] = q)) [.pointer (some ⟨F, 0, none⟩)] ps.length al cl ds S w h1 hS (by omega) (fun i hi => predK eq129 ps q al aq cl cq F S T w ds h2 hS hq hT hF hc hps lq i hi)
end Go.Proofs.LF
namespace Go.Proofs.LF
def txt1 : List UInt8 := [98, 101, 100, 32, 51, 10, 32, 114, 97, 107, 101, 100, 32, 53, 32, 55, 10, 115, 111, 108, 100, 10]
def txt2 : List UInt8 := [98, 101, 100, 32, 51, 10, 32, 32, 114, 97, 107, 101, 100, 32, 53, 10]
def bed3 : Ky := ⟨bedN, true, 3⟩
def raked5 : Ky := ⟨rakedN, true, 5⟩
def raked6 : Ky := ⟨rakedN, true, 6⟩
def oneB (n : Int) : Fo := .cons bedN [3] (.cons rakedN [5, n] .nil .nil) .nil
def oneS : Fo := .cons soldN [] .nil .nil
def oneM : Fo := .cons bedN [3] (.cons rakedN [5, 7] .nil (.cons rakedN [6] .nil .nil)) (.cons soldN [] .nil .nil)
def difV : List Ch := [⟨[bed3, raked5], true, true, [5, 7], [5, 8]⟩, ⟨[⟨soldN, false, 0⟩], true, false, [], []⟩]
theorem val_chk : chkY (oneY 7) = 0 := by decide +kernel
theorem val_txt : txtL (nodesL [] (oneY 7)) = txt1 := by decide +kernel
theorem val_prs1 : (prs txt1).2 = (0, 0, 0) ∧ prsY txt1 = oneY 7 := by decide +kernel
theorem val_prs2 : (prs txt2).2 = (1, 1, 11) ∧ prsY txt2 = .nil := by decide +kernel
theorem val_dif : difE (oneY 7) (oneB 8) = 0 ∧ difL (oneY 7) (oneB 8) = difV := by decide +kernel
theorem val_get : getE (oneY 7) [bed3, raked5] = 0 ∧ getN (oneY 7) [bed3, raked5] = (rakedN, [5, 7], .nil) := by decide +kernel
theorem val_put : putE (oneY 7) [bed3] rakedN [6] .nil = 0 ∧ putY (oneY 7) [bed3] rakedN [6] .nil = oneM := by decide +kernel
theorem val_join : joE (oneY 7) oneS oneM = 0 ∧ joY (oneY 7) oneS oneM = oneS ∧ joP (oneY 7) oneS oneM = [[bed3, raked6]] := by decide +kernel
end Go.Proofs.LF
namespace Go.Proofs.LF
open Go.RowKit Go.Sort
set_option maxHeartbeats 4000000
set_option maxRecDepth 100000
attribute [local go_sem] bs_toList bs_size bs_get
theorem enters42 : ∀ (args : Array Value) (W : World), (callFunc 42 args).run Tryz.prog W = .ok (.enter 42 args) W := by
  intro args W
  simp [go_sem]
theorem eqPathsK_any (y z : List (List Ky)) (ay az : Option Addr) (cy cz : Nat) (S : Nat → Prop) (w : World) (hy : PaSl S w (.slice ay y.length cy) y) (hz : PaSl S w (.slice az z.length cz) z) (hS : ∀ b, S b → b < w.heap.size) (ly : y.length ≤ 1000) (lz : z.length ≤ 1000) (sy : ∀ p ∈ y, p.length ≤ 1000) (sz : ∀ p ∈ z, p.length ≤ 1000) :
    Calls Tryz.prog 138 #[.slice ay y.length cy, .slice az z.length cz, .func (.func 42) #[] #[]] w fun e w' => e = .returned (.bool (decide (y = z))) ∧ Below w.heap.size w w' := by
  obtain ⟨_, _, he, hc, hm1, hat⟩ := hy.at
  cases he
  obtain ⟨_, _, he, hc', hm2, hat'⟩ := hz.at
  cases he
  unfold maxLen at hm1 hm2
  have hE := enters42
  have HAT := hid hat
  have HAT' := hid hat'
  have HS := hid hS
  have SY := hid sy
  have SZ := hid sz
  clear hat hat' hS sy sz hy hz
  by_cases hne : y.length = z.length
  · have hne' : ((y.length : Int) != (z.length : Int)) = false := by simp; omega
    have HN := hid hne
    clear hne
    go_enter Tryz.func138, Tryz.ntmps138
    go_wp2_with fail
    go_loopw [17] (fun i wr => ∃ k : Nat, k ≤ y.length ∧ i = .int .i64 k ∧ Hid (y.take k = z.take k) ∧ Below w.heap.size w wr) (fun i _ => y.length - (intOf i).toNat)
    case atStart => exact ⟨0, by omega, rfl, by simp [Hid], Below.refl _ _⟩
    case round =>
      obtain ⟨k, hk, rfl, H2, hB⟩ := hrel
      have hsz := hB.size
      by_cases hlt : k < y.length
      · have hlt2 : k < z.length := by have := HN.out; omega
        obtain ⟨g, o, cs1, rfl, hg, ⟨ap, cp, rfl, hP⟩, hcell⟩ := HAT.out k hlt
        obtain ⟨g', o', cs2, rfl, hg', ⟨aq, cq, rfl, hQ⟩, hcell'⟩ := HAT'.out k hlt2
        have hlt' : (k : Int) < (z.length : Int) := by omega
        have ha : Agree S w wr := Agree.of_below hB HS.out
        have c0 := ha.cell hg (hcell 0 _ rfl)
        have d0 := ha.cell hg' (hcell' 0 _ rfl)
        rw [Nat.mul_one, Nat.add_zero] at c0 d0
        have l1 := SY.out _ (List.getElem_mem hlt)
        have l2 := SZ.out _ (List.getElem_mem hlt2)
        have ty : y.take (k + 1) = y.take k ++ [y[k]] := List.take_succ_eq_append_getElem hlt
        have tz : z.take (k + 1) = z.take k ++ [z[k]] := List.take_succ_eq_append_getElem hlt2
        obtain ⟨p, hp⟩ : ∃ p, y[k] = p := ⟨_, rfl⟩
        obtain ⟨q, hq⟩ : ∃ q, z[k] = q := ⟨_, rfl⟩
        rw [hp] at c0 hP l1 ty
        rw [hq] at d0 hQ l2 tz
        have SP := hid (eqKeys_any p q ap aq cp cq S wr (hP.agree ha) (hQ.agree ha) (by omega) (by omega))
        have TY := hid ty
        have TZ := hid tz
        have HPp := hid hp
        have HQq := hid hq
        clear hcell hcell' hP hQ ty tz hp hq
        by_cases he : p = q
        · rw [decide_eq_true he] at SP
          have HE := hid he
          clear he
          go_wp2_with fail
          refine SP.out.mono ?_
          rintro e w1 ⟨rfl, hb1⟩
          go_wp2_with fail
          go_roundw
          case rel => exact ⟨k + 1, by omega, by go_num, by rw [Hid, TY.out, TZ.out, H2.out, HE.out], hB.trans (hb1.mono hsz)⟩
          case measure => simp [intOf]; omega
        · rw [decide_eq_false he] at SP
          have HE := hid he
          clear he
          go_wp2_with fail
          refine SP.out.mono ?_
          rintro e w1 ⟨rfl, hb1⟩
          go_wp2_with fail
          go_ret
          refine ⟨ret_bool ?_, hB.trans (hb1.mono hsz)⟩
          symm
          rw [decide_eq_false_iff_not]
          rintro rfl
          exact HE.out (HPp.out.symm.trans HQq.out)
      · go_wp2_with fail
        go_ret
        obtain rfl : k = y.length := by omega
        refine ⟨ret_bool ?_, hB⟩
        symm
        have := H2.out
        rw [List.take_length, HN.out, List.take_length] at this
        exact decide_eq_true this
  · have hne' : ((y.length : Int) != (z.length : Int)) = true := by simp; omega
    have HN := hid hne
    clear hne
    go_enter Tryz.func138, Tryz.ntmps138
    go_wp2_with fail
    go_ret
    refine ⟨ret_bool ?_, Below.refl _ _⟩
    symm
    rw [decide_eq_false_iff_not]
    rintro rfl
    exact HN.out rfl
theorem equalPaths_any (y z : List (List Ky)) (ay az : Option Addr) (cy cz : Nat) (S : Nat → Prop) (w : World) (hy : PaSl S w (.slice ay y.length cy) y) (hz : PaSl S w (.slice az z.length cz) z) (hS : ∀ b, S b → b < w.heap.size) (ly : y.length ≤ 1000) (lz : z.length ≤ 1000) (sy : ∀ p ∈ y, p.length ≤ 1000) (sz : ∀ p ∈ z, p.length ≤ 1000) :
    Calls Tryz.prog 52 #[.slice ay y.length cy, .slice az z.length cz] w fun e w' => e = .returned (.bool (decide (y = z))) ∧ Below w.heap.size w w' := by
  have hq := eqPathsK_any y z ay az cy cz S w hy hz hS ly lz sy sz
  have HQ := hid hq
  clear hq hy hz hS ly lz sy sz
  go_enter Tryz.func52, Tryz.ntmps52
  go_wp2_with fail
  refine HQ.out.mono ?_
  rintro e w1 ⟨rfl, hb1⟩
  go_wp2_with fail
  go_ret
  exact ⟨rfl, hb1⟩
end Go.Proofs.LF
