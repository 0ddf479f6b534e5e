/- Parts of the proof of a law of layer 11 (file): LfW60, LfW67. The conditions stand in each theorem. -/
import Derived.BigQuiet
import Derived.Deep.AppendLies
import Derived.Deep.Cut
import Derived.Deep.CutBlock
import Derived.Deep.CutRange
import Derived.Deep.QuietTactic
import Derived.Deep.RegionHeld3
import Derived.Laws.ResultCell
import Derived.Outline
import Derived.Test.YtadkpjgpefcphaaGreatDoorProg
import Derived.WalkKit
import Derived.WalkLawsBesides
import Derived.WalkSpells
import Derived.Test.YtadkpjgpefcphaaGreatDoorCpap
import Derived.Test.YtadkpjgpefcphaaGreatDoorCpay
import Derived.Test.YtadkpjgpefcphaaGreatDoorCpbn
set_option linter.all false
set_option linter.unusedVariables false
set_option linter.unusedSimpArgs false
namespace Go.Proofs.LF
open Go.RowKit Go.Sort
set_option maxHeartbeats 4000000
set_option maxRecDepth 100000
attribute [local go_sem] bs_toList bs_size bs_get
theorem alikeI_any (l m : List Int) (an am : Option Addr) (cn cm : Nat) (S : Nat → Prop) (w : World) (hl : Ints S w (.slice an l.length cn) l) (hm : Ints S w (.slice am m.length cm) m) (hlen : l.length ≤ 100000) (hlen2 : m.length ≤ 100000) :
    Calls Tryz.prog 149 #[.slice an l.length cn, .slice am m.length cm] w fun e w' => e = .returned (.bool (decide (l = m))) ∧ Below w.heap.size w w' := by
  by_cases hne : l.length = m.length
  · have hne' : ((l.length : Int) != (m.length : Int)) = false := by simp; omega
    have HN := hid hne
    clear hne
    go_enter Tryz.func149, Tryz.ntmps149
    go_wp2_with fail
    go_loopw [5] (fun i wr => ∃ (k d : Nat), k ≤ l.length ∧ i = .int .i64 k ∧ wr = w.drewN d ∧ Hid (l.take k = m.take k)) (fun i _ => l.length - (intOf i).toNat)
    case atStart => exact ⟨0, 0, by omega, rfl, rfl, by simp [Hid]⟩
    case round =>
      obtain ⟨k, d, hk, rfl, rfl, H2⟩ := hrel
      by_cases hlt : k < l.length
      · obtain ⟨g, o, rfl, _, _, _, hcell⟩ := SlC.cells hl (by omega)
        obtain ⟨g', o', rfl, _, _, _, hcell'⟩ := SlC.cells hm (by have := HN.out; omega)
        have hlt' : k < m.length := by have := HN.out; omega
        have hx : w.cell? ⟨g, o + k, none⟩ = some (.int .i64 l[k]) := hcell k _ (by simp [hlt])
        have hx' : w.cell? ⟨g', o' + k, none⟩ = some (.int .i64 m[k]) := hcell' k _ (by simp [hlt'])
        clear hcell hcell'
        have i1 : (0 : Int) ≤ (k : Int) := by omega
        have i2 : (k : Int) < (l.length : Int) := by omega
        have i3 : (k : Int) < (m.length : Int) := by omega
        by_cases he : l[k] = m[k]
        · have he' : (l[k] != m[k]) = false := by simpa using he
          have HE := hid he
          clear he
          go_wp2_with fail
          go_quiet (fail)
          go_wp2_with fail
          go_roundw
          case rel => exact ⟨k + 1, _, by omega, by go_num, rfl, by rw [Hid, List.take_succ_eq_append_getElem hlt, List.take_succ_eq_append_getElem hlt', H2.out, HE.out]⟩
          case measure => simp [intOf]; omega
        · have he' : (l[k] != m[k]) = true := by simpa using he
          have HE := hid he
          clear he
          go_wp2_with fail
          go_quiet (fail)
          go_wp2_with fail
          go_ret
          refine ⟨ret_bool ?_, below_drewN (below_drewN (Below.refl _ _) _) _⟩
          symm
          rw [decide_eq_false_iff_not]
          rintro rfl
          exact HE.out rfl
      · go_wp2_with fail
        go_ret
        obtain rfl : k = l.length := by omega
        refine ⟨ret_bool ?_, below_drewN (Below.refl _ _) _⟩
        symm
        have := H2.out
        rw [List.take_length, HN.out, List.take_length] at this
        exact decide_eq_true this
  · have hne' : ((l.length : Int) != (m.length : Int)) = true := by simp; omega
    have HN := hid hne
    clear hne
    go_enter Tryz.func149, Tryz.ntmps149
    go_wp2_with fail
    go_ret
    refine ⟨ret_bool ?_, Below.refl _ _⟩
    symm
    rw [decide_eq_false_iff_not]
    rintro rfl
    exact HN.out rfl
theorem Ahead_any (p q : List Ky) (ap aq : Option Addr) (cp cq : Nat) (S : Nat → Prop) (w : World) (hp : Pth S w (.slice ap p.length cp) p) (hq : Pth S w (.slice aq q.length cq) q) (hS : ∀ b, S b → b < w.heap.size) (lp : p.length ≤ 100000) (lq : q.length ≤ 100000) :
    Calls Tryz.prog 150 #[.slice ap p.length cp, .slice aq q.length cq] w fun e w' => e = .returned (.bool (decide (cmpP p q < 0))) ∧ Below w.heap.size w w' := by
  go_enter Tryz.func150, Tryz.ntmps150
  go_wp2_with fail
  go_loopw [5] (fun i wr => ∃ (k d : Nat), k ≤ p.length ∧ k ≤ q.length ∧ i = .int .i64 k ∧ wr = w.drewN d ∧ Hid (p.take k = q.take k)) (fun i _ => p.length - (intOf i).toNat)
  case atStart => exact ⟨0, 0, by omega, by omega, rfl, rfl, by simp [Hid]⟩
  case round =>
    obtain ⟨k, d, hk, hkq, rfl, rfl, H2⟩ := hrel
    have i1 : (0 : Int) ≤ (k : Int) := by omega
    by_cases hlt : k < p.length
    · have i2 : (k : Int) < (p.length : Int) := by omega
      by_cases hlt' : k < q.length
      · have i3 : (k : Int) < (q.length : Int) := by omega
        obtain ⟨g, o, rfl, hg, _, _, hcell⟩ := SlC.cells hp (by omega)
        obtain ⟨g', o', rfl, hg', _, _, hcell'⟩ := SlC.cells hq (by omega)
        obtain ⟨k0, k1, k2⟩ := key_cells hlt
        obtain ⟨k0', k1', k2'⟩ := key_cells hlt'
        have c0 := hcell _ _ k0
        have c1 := hcell _ _ k1
        have c2 := hcell _ _ k2
        have d0 := hcell' _ _ k0'
        have d1 := hcell' _ _ k1'
        have d2 := hcell' _ _ k2'
        rw [← Nat.add_assoc] at c1 c2 d1 d2
        have htp : p.take (k + 1) = p.take k ++ [p[k]] := List.take_succ_eq_append_getElem hlt
        have htq : q.take (k + 1) = q.take k ++ [q[k]] := List.take_succ_eq_append_getElem hlt'
        obtain ⟨a, ha⟩ : ∃ a, p[k] = a := ⟨_, rfl⟩
        obtain ⟨b, hb⟩ : ∃ b, q[k] = b := ⟨_, rfl⟩
        have HAT := hid (fun hne => ahead_at H2.out hlt hlt' ha hb hne)
        rw [ha] at c0 c1 c2 htp
        rw [hb] at d0 d1 d2 htq
        have HTP := hid htp
        have HTQ := hid htq
        have HG := hid (hS g hg)
        have HG' := hid (hS g' hg')
        clear hcell hcell' k0 k1 k2 k0' k1' k2' htp htq ha hb
        by_cases he : a = b
        · subst he
          go_wp2_with fail
          go_quiet (fail)
          go_wp2_with fail
          go_roundw
          case rel => exact ⟨k + 1, _, by omega, by omega, by go_num, rfl, by rw [Hid, HTP.out, HTQ.out, H2.out]⟩
          case measure => simp [intOf]; omega
        · have hdec : (a.n == b.n && (a.h == b.h && a.x == b.x)) = false := by rw [← ky_beq]; simp [he]
          have HA := hid (HAT.out he)
          have HDEC := hid hdec
          clear he hdec HAT
          cases hn : (a.n == b.n) <;> cases hh : (a.h == b.h) <;> cases hx : (a.x == b.x)
          all_goals first
            | (exfalso; have := HDEC.out; rw [hn, hh, hx] at this; cases this; done)
            | (go_wp2_with fail
               go_quiet (fail)
               go_wp2_with fail
               go_region_held3 (fun w' => w'.cell? ⟨g, o + k * 3, none⟩ = some (.string (bs a.n)) ∧ w'.cell? ⟨g, o + k * 3 + 1, none⟩ = some (.bool a.h) ∧ w'.cell? ⟨g, o + k * 3 + 2, none⟩ = some (.int .i64 a.x) ∧ w'.cell? ⟨g', o' + k * 3, none⟩ = some (.string (bs b.n)) ∧ w'.cell? ⟨g', o' + k * 3 + 1, none⟩ = some (.bool b.h) ∧ w'.cell? ⟨g', o' + k * 3 + 2, none⟩ = some (.int .i64 b.x))
                 (first
                   | go_keep
                   | (go_split_ands; have hz9 := hb9.size; have hg9 := HG.out; have hg9' := HG'.out; simp at hz9; refine ⟨?_, ?_, ?_, ?_, ?_, ?_⟩ <;> exact below_cell hb9 (by simp; omega) (by assumption)))
                 (first | (go_at_call 108; refine (before_any a b _).mono ?_; rintro e w9 ⟨rfl, hb9⟩))
               go_wp2_with fail
               go_ret
               exact ⟨ret_bool HA.out.symm, ⟨hb9.os, hb9.tape, hb9.output, hb9.size, hb9.block⟩⟩)
      · have i3 : ¬ (k : Int) < (q.length : Int) := by omega
        have HE := hid (ahead_end H2.out (.inr ⟨by omega, by omega⟩))
        go_wp2_with fail
        go_ret
        refine ⟨ret_bool ?_, below_drewN (Below.refl _ _) _⟩
        rw [HE.out]
    · have i2 : ¬ (k : Int) < (p.length : Int) := by omega
      have HE := hid (ahead_end H2.out (.inl ⟨by omega, by omega⟩))
      go_wp2_with fail
      go_ret
      refine ⟨ret_bool ?_, below_drewN (Below.refl _ _) _⟩
      rw [HE.out]
theorem Find_any (l : List Fl) (p : List Ky) (al ap : Option Addr) (cl cp : Nat) (S : Nat → Prop) (w : World) (hl : LSl rdFl S w (.slice al l.length cl) l) (hp : Pth S w (.slice ap p.length cp) p) (hS : ∀ b, S b → b < w.heap.size) (ll : l.length ≤ 100000) (lx : ∀ x ∈ l, x.p.length ≤ 1000) (lp : p.length ≤ 1000) :
    Calls Tryz.prog 113 #[.slice al l.length cl, .slice ap p.length cp] w fun e w' => e = .returned (.int .i64 (fiI l p)) ∧ Below w.heap.size w w' := by
  obtain ⟨_, _, he, hc, hm, hat⟩ := hl.at
  cases he
  have HAT := hid hat
  have HP := hid hp
  have HS := hid hS
  have HLX := hid lx
  unfold maxLen at hm
  clear hl hat hp hS lx
  go_enter Tryz.func113, Tryz.ntmps113
  go_wp2_with fail
  go_loopw [5] (fun i wr => ∃ k : Nat, k ≤ l.length ∧ i = .int .i64 k ∧ Hid (fiI l p = fiG p k (l.drop k)) ∧ Hid (Below w.heap.size w wr)) (fun i _ => l.length - (intOf i).toNat)
  case atStart => exact ⟨0, by omega, rfl, rfl, Below.refl _ _⟩
  case round =>
    obtain ⟨k, hk, rfl, hf, hB⟩ := hrel
    have i1 : (0 : Int) ≤ (k : Int) := by omega
    by_cases hlt : k < l.length
    · have i2 : (k : Int) < (l.length : Int) := by omega
      obtain ⟨g0, o, cs1, rfl, hg, ⟨ax, cx, an, cn, rfl, hP, _⟩, hcell⟩ := HAT.out k hlt
      obtain ⟨x, hx⟩ : ∃ x, l[k] = x := ⟨_, rfl⟩
      rw [hx] at hP hcell
      have hmem : x ∈ l := by rw [← hx]; exact List.getElem_mem hlt
      have x1 := HLX.out x hmem
      have ha : Agree S w wr := Agree.of_below hB.out HS.out
      have c0 := ha.cell hg (hcell 0 _ rfl)
      rw [Nat.add_zero] at c0
      obtain ⟨hst1, hst2⟩ := fiG_step hf.out hlt hx
      have H1 := hid hst1
      have H2 := hid hst2
      have SM := hid (Same_any x.p p ax ap cx cp S wr (hP.agree ha) (HP.out.agree ha) (by omega) (by omega))
      have hsz := hB.out.size
      clear hcell hP hst1 hst2 hmem hx
      by_cases he : x.p = p
      · rw [decide_eq_true he] at SM
        have H1 := hid (H1.out he)
        clear he
        go_wp2_with fail
        refine SM.out.mono ?_
        rintro e w2 ⟨rfl, hb2⟩
        go_wp2_with fail
        go_ret
        exact ⟨ret_int H1.out.symm, hB.out.trans (hb2.mono hsz)⟩
      · rw [decide_eq_false he] at SM
        have H2 := hid (H2.out he)
        clear he
        go_wp2_with fail
        refine SM.out.mono ?_
        rintro e w2 ⟨rfl, hb2⟩
        go_wp2_with fail
        go_roundw
        case rel => exact ⟨k + 1, by omega, by go_num, H2.out, hB.out.trans (hb2.mono hsz)⟩
        case measure => simp [intOf]; omega
    · have i2 : ¬ (k : Int) < (l.length : Int) := by omega
      obtain rfl : k = l.length := by omega
      have HE := hid (fiG_end hf.out)
      go_wp2_with fail
      go_ret
      exact ⟨ret_int HE.out.symm, hB.out⟩
end Go.Proofs.LF
namespace Go.Proofs.LF
open Go.RowKit Go.Sort
set_option maxHeartbeats 4000000
set_option maxRecDepth 100000
attribute [local go_sem] bs_toList bs_size bs_get
def firE : List Int → Int
  | [] => 0
  | e :: r => if e ≠ 0 then e else firE r
theorem firE_yes {l : List Int} {k : Nat} {e : Int} (h : firE l = firE (l.drop k)) (hk : k < l.length) (he : l[k] = e) (h0 : e ≠ 0) : firE l = e := by
  rw [h, List.drop_eq_getElem_cons hk, he, firE, if_pos h0]
theorem firE_no {l : List Int} {k : Nat} {e : Int} (h : firE l = firE (l.drop k)) (hk : k < l.length) (he : l[k] = e) (h0 : e = 0) : firE l = firE (l.drop (k + 1)) := by
  rw [h, List.drop_eq_getElem_cons hk, he, firE, if_neg (by simpa using h0)]
theorem first_any (l : List Int) (a : Option Addr) (c : Nat) (S : Nat → Prop) (w : World) (hl : Ints S w (.slice a l.length c) l) (ll : l.length ≤ 1000) :
    Calls Tryz.prog 30 #[.slice a l.length c] w fun e w' => e = .returned (.int .i64 (firE l)) ∧ w' = w := by
  go_enter Tryz.func30, Tryz.ntmps30
  go_wp2_with fail
  go_loopw [7] (fun i wr => ∃ k : Nat, k ≤ l.length ∧ i = .int .i64 k ∧ Hid (firE l = firE (l.drop k)) ∧ wr = w) (fun i _ => l.length - (intOf i).toNat)
  case atStart => exact ⟨0, by omega, rfl, rfl, rfl⟩
  case round =>
    obtain ⟨k, hk, rfl, hf, rfl⟩ := hrel
    have i1 : (0 : Int) ≤ (k : Int) := by omega
    by_cases hlt : k < l.length
    · have i2 : (k : Int) < (l.length : Int) := by omega
      obtain ⟨g, o, rfl, _, _, _, hcell⟩ := SlC.cells hl (by omega)
      have c0 := hcell k (.int .i64 l[k]) (by simp [hlt])
      obtain ⟨e, he⟩ : ∃ e, l[k] = e := ⟨_, rfl⟩
      rw [he] at c0
      by_cases h0 : e = 0
      · have HN := hid (firE_no hf.out hlt he h0)
        have b0 : (e != 0) = false := by simpa using h0
        subst h0
        clear hcell he
        go_wp2_with fail
        go_roundw
        case rel => exact ⟨k + 1, by omega, by go_num, HN.out, by simp⟩
        case measure => simp [intOf]; omega
      · have HN := hid (firE_yes hf.out hlt he h0)
        have b0 : (e != 0) = true := by simpa using h0
        clear hcell he h0
        go_wp2_with fail
        go_ret
        exact ⟨ret_int HN.out.symm, rfl⟩
    · have i2 : ¬ (k : Int) < (l.length : Int) := by omega
      obtain rfl : k = l.length := by omega
      have hn := hf.out
      rw [List.drop_length] at hn
      have HN := hid hn
      clear hn
      go_wp2_with fail
      go_ret
      exact ⟨ret_int HN.out.symm, rfl⟩
theorem keys_snoc {p : List Ky} {k : Nat} {a : Ky} (hk : k < p.length) (ha : p[k] = a) : (p.take (k + 1)).flatMap Ky.cells = (p.take k).flatMap Ky.cells ++ [.string (bs a.n), .bool a.h, .int .i64 a.x] := by
  rw [List.take_succ_eq_append_getElem hk, ha, List.flatMap_append]; simp [Ky.cells]
theorem path_any (p : List Ky) (a : Option Addr) (c : Nat) (S : Nat → Prop) (w : World) (hp : Pth S w (.slice a p.length c) p) (hS : ∀ b, S b → b < w.heap.size) (lp : p.length ≤ 1000) :
    Calls Tryz.prog 55 #[.slice a p.length c] w fun e w' => ∃ a c, e = .returned (.slice a p.length c) ∧ Pth (Rg w.heap.size w'.heap.size) w' (.slice a p.length c) p ∧ Below w.heap.size w w' := by
  obtain ⟨j0, hj0, hy0, hy1, hy2⟩ := info_parts Tryz.info160
  go_enter Tryz.func55, Tryz.ntmps55
  go_wp2_with fail
  go_loopw [3, 8] (fun v i wr => ∃ k : Nat, k ≤ p.length ∧ i = .int .i64 k ∧ wr.ownsRow w.heap.size 160 3 v k ((p.take k).flatMap Ky.cells) ∧ Hid (Below w.heap.size w wr)) (fun _ i _ => p.length - (intOf i).toNat)
  case atStart => exact ⟨0, by omega, rfl, World.ownsRow_nil _ _ _ _, Below.refl _ _⟩
  case round =>
    obtain ⟨k, hk, rfl, hown, hB⟩ := hrel
    have i1 : (0 : Int) ≤ (k : Int) := by omega
    have hz := hB.out.size
    by_cases hlt : k < p.length
    · have i2 : (k : Int) < (p.length : Int) := by omega
      obtain ⟨g, o, rfl, hg, k0, k1, k2⟩ := hp.key hlt
      obtain ⟨x, hx⟩ : ∃ x, p[k] = x := ⟨_, rfl⟩
      rw [hx] at k0 k1 k2
      have hgl := hS g hg
      have c0 := below_cell hB.out hgl k0
      have c1 := below_cell hB.out hgl k1
      have c2 := below_cell hB.out hgl k2
      have hsn := keys_snoc hlt hx
      have HSN := hid hsn
      clear k0 k1 k2 hx hsn
      go_wp2_with (at_builtin; refine (wpList_append_ao _ rfl _ _ _ rfl w.heap.size 160 j0 _ 3 32 Tryz.underlying92 hj0 hy0 hy1 hy2 rfl (by omega) u3 k ((p.take k).flatMap Ky.cells) rfl ((hown.alloc _).alloc _) (some ⟨wr.heap.size + 1, 0, none⟩) 1 1 [.string (bs x.n), .bool x.h, .int .i64 x.x] rfl rfl (fun h => by cases h) (fun ad had => by cases had; exact World.news_of_block (cs := #[.string (bs x.n), .bool x.h, .int .i64 x.x]) (t := 160) (fr := (0, 0)) (by simpa using heap_alloc_new (wr.alloc (.cells #[.string (bs x.n), .bool x.h, .int .i64 x.x] 71)) (.cells #[.string (bs x.n), .bool x.h, .int .i64 x.x] 160))) (by simp [Value.oneCell']) (by unfold maxLen; omega) (by omega) (by simp; omega) ?_); intro a8 c8 w8 hown8 hgrow8 hat8)
      have hB8 : Hid (Below w.heap.size w w8) := ((hB.out.alloc hz _).alloc (by simp; omega) _).grown hgrow8 (by simp; omega) (fun q hq => (hown.lt q hq).1)
      rw [← HSN.out] at hown8
      go_roundw
      case rel => exact ⟨k + 1, by omega, by go_num, hown8, hB8⟩
      case measure => simp [intOf]; omega
    · have i2 : ¬ (k : Int) < (p.length : Int) := by omega
      obtain rfl : k = p.length := by omega
      obtain ⟨a9, c9, rfl, _, _⟩ := owns_shape hown
      go_wp2_with fail
      go_ret
      rw [List.take_length] at hown
      exact ⟨a9, c9, rfl, SlC.of_owns hown, hB.out⟩
theorem enters123 : ∀ (args : Array Value) (W : World), (callFunc 123 args).run Tryz.prog W = .ok (.enter 123 args) W := by
  intro args W
  simp [go_sem]
theorem samePath_any (p q : List Ky) (ap aq : Option Addr) (cp cq : Nat) (S : Nat → Prop) (w : World) (hp : Pth S w (.slice ap p.length cp) p) (hq : Pth S w (.slice aq q.length cq) q) (hS : ∀ b, S b → b < w.heap.size) (lp : p.length ≤ 1000) (lq : q.length ≤ 1000) :
    Calls Tryz.prog 123 #[.slice ap p.length cp, .slice aq q.length cq] w fun e w' => e = .returned (.bool (decide (p = q))) ∧ Below w.heap.size w w' := by
  have P1 := hid (path_any p ap cp S w hp hS lp)
  have HQ := hid hq
  have HS := hid hS
  clear hp hq hS
  go_enter Tryz.func123, Tryz.ntmps123
  go_wp2_with fail
  refine P1.out.mono ?_
  rintro e w1 ⟨a1, c1, rfl, hp1, hb1⟩
  have SM := hid (Same_any p q a1 aq c1 cq (fun b => b < w1.heap.size) w1 (hp1.wide fun b hb => hb.2) ((HQ.out.agree (Agree.of_below hb1 HS.out)).wide fun b hb => by have := HS.out b hb; have := hb1.size; omega) (by omega) (by omega))
  have HB1 := hid hb1
  clear hp1 hb1
  go_wp2_with fail
  refine SM.out.mono ?_
  rintro e w2 ⟨rfl, hb2⟩
  go_wp2_with fail
  go_ret
  exact ⟨rfl, HB1.out.trans (hb2.mono HB1.out.size)⟩
theorem eqPaths_any (y z : List (List Ky)) (ay az : Option Addr) (cy cz : Nat) (S : Nat → Prop) (w : World) (hy : PaSl S w (.slice ay y.length cy) y) (hz : PaSl S w (.slice az z.length cz) z) (hS : ∀ b, S b → b < w.heap.size) (ly : y.length ≤ 1000) (lz : z.length ≤ 1000) (sy : ∀ p ∈ y, p.length ≤ 1000) (sz : ∀ p ∈ z, p.length ≤ 1000) :
    Calls Tryz.prog 122 #[.slice ay y.length cy, .slice az z.length cz, .func (.func 123) #[] #[]] w fun e w' => e = .returned (.bool (decide (y = z))) ∧ Below w.heap.size w w' := by
  obtain ⟨_, _, he, hc, hm1, hat⟩ := hy.at
  cases he
  obtain ⟨_, _, he, hc', hm2, hat'⟩ := hz.at
  cases he
  unfold maxLen at hm1 hm2
  have hE := enters123
  have HAT := hid hat
  have HAT' := hid hat'
  have HS := hid hS
  have SY := hid sy
  have SZ := hid sz
  clear hat hat' hS sy sz hy hz
  by_cases hne : y.length = z.length
  · have hne' : ((y.length : Int) != (z.length : Int)) = false := by simp; omega
    have HN := hid hne
    clear hne
    go_enter Tryz.func122, Tryz.ntmps122
    go_wp2_with fail
    go_loopw [17] (fun i wr => ∃ k : Nat, k ≤ y.length ∧ i = .int .i64 k ∧ Hid (y.take k = z.take k) ∧ Below w.heap.size w wr) (fun i _ => y.length - (intOf i).toNat)
    case atStart => exact ⟨0, by omega, rfl, by simp [Hid], Below.refl _ _⟩
    case round =>
      obtain ⟨k, hk, rfl, H2, hB⟩ := hrel
      have hsz := hB.size
      by_cases hlt : k < y.length
      · have hlt2 : k < z.length := by have := HN.out; omega
        obtain ⟨g, o, cs1, rfl, hg, ⟨ap, cp, rfl, hP⟩, hcell⟩ := HAT.out k hlt
        obtain ⟨g', o', cs2, rfl, hg', ⟨aq, cq, rfl, hQ⟩, hcell'⟩ := HAT'.out k hlt2
        have hlt' : (k : Int) < (z.length : Int) := by omega
        have ha : Agree S w wr := Agree.of_below hB HS.out
        have c0 := ha.cell hg (hcell 0 _ rfl)
        have d0 := ha.cell hg' (hcell' 0 _ rfl)
        rw [Nat.mul_one, Nat.add_zero] at c0 d0
        have l1 := SY.out _ (List.getElem_mem hlt)
        have l2 := SZ.out _ (List.getElem_mem hlt2)
        have ty : y.take (k + 1) = y.take k ++ [y[k]] := List.take_succ_eq_append_getElem hlt
        have tz : z.take (k + 1) = z.take k ++ [z[k]] := List.take_succ_eq_append_getElem hlt2
        obtain ⟨p, hp⟩ : ∃ p, y[k] = p := ⟨_, rfl⟩
        obtain ⟨q, hq⟩ : ∃ q, z[k] = q := ⟨_, rfl⟩
        rw [hp] at c0 hP l1 ty
        rw [hq] at d0 hQ l2 tz
        have SP := hid (samePath_any p q ap aq cp cq S wr (hP.agree ha) (hQ.agree ha) (fun b hb => by have := HS.out b hb; omega) l1 l2)
        have TY := hid ty
        have TZ := hid tz
        have HPp := hid hp
        have HQq := hid hq
        clear hcell hcell' hP hQ ty tz hp hq
        by_cases he : p = q
        · rw [decide_eq_true he] at SP
          have HE := hid he
          clear he
          go_wp2_with fail
          refine SP.out.mono ?_
          rintro e w1 ⟨rfl, hb1⟩
          go_wp2_with fail
          go_roundw
          case rel => exact ⟨k + 1, by omega, by go_num, by rw [Hid, TY.out, TZ.out, H2.out, HE.out], hB.trans (hb1.mono hsz)⟩
          case measure => simp [intOf]; omega
        · rw [decide_eq_false he] at SP
          have HE := hid he
          clear he
          go_wp2_with fail
          refine SP.out.mono ?_
          rintro e w1 ⟨rfl, hb1⟩
          go_wp2_with fail
          go_ret
          refine ⟨ret_bool ?_, hB.trans (hb1.mono hsz)⟩
          symm
          rw [decide_eq_false_iff_not]
          rintro rfl
          exact HE.out (HPp.out.symm.trans HQq.out)
      · go_wp2_with fail
        go_ret
        obtain rfl : k = y.length := by omega
        refine ⟨ret_bool ?_, hB⟩
        symm
        have := H2.out
        rw [List.take_length, HN.out, List.take_length] at this
        exact decide_eq_true this
  · have hne' : ((y.length : Int) != (z.length : Int)) = true := by simp; omega
    have HN := hid hne
    clear hne
    go_enter Tryz.func122, Tryz.ntmps122
    go_wp2_with fail
    go_ret
    refine ⟨ret_bool ?_, Below.refl _ _⟩
    symm
    rw [decide_eq_false_iff_not]
    rintro rfl
    exact HN.out rfl
theorem samePaths_any (y z : List (List Ky)) (ay az : Option Addr) (cy cz : Nat) (S : Nat → Prop) (w : World) (hy : PaSl S w (.slice ay y.length cy) y) (hz : PaSl S w (.slice az z.length cz) z) (hS : ∀ b, S b → b < w.heap.size) (ly : y.length ≤ 1000) (lz : z.length ≤ 1000) (sy : ∀ p ∈ y, p.length ≤ 1000) (sz : ∀ p ∈ z, p.length ≤ 1000) :
    Calls Tryz.prog 35 #[.slice ay y.length cy, .slice az z.length cz] w fun e w' => e = .returned (.bool (decide (y = z))) ∧ Below w.heap.size w w' := by
  have hq := eqPaths_any y z ay az cy cz S w hy hz hS ly lz sy sz
  have HQ := hid hq
  clear hq hy hz hS ly lz sy sz
  go_enter Tryz.func35, Tryz.ntmps35
  go_wp2_with fail
  refine HQ.out.mono ?_
  rintro e w1 ⟨rfl, hb1⟩
  go_wp2_with fail
  go_ret
  exact ⟨rfl, hb1⟩
end Go.Proofs.LF
