/- Parts of the proof of a law of layer 11 (file): LfW16. The conditions stand in each theorem. -/
import Derived.Test.YtadkpjgpefcphaaGreatDoorProg
import Derived.Test.YtadkpjgpefcphaaGreatDoorTnac
import Derived.Test.YtadkpjgpefcphaaGreatDoorTnae
set_option linter.all false
set_option linter.unusedVariables false
set_option linter.unusedSimpArgs false
namespace Go.Proofs.LF
open Go.RowKit Go.Sort
set_option maxHeartbeats 4000000
set_option maxRecDepth 100000
attribute [local go_sem] bs_toList bs_size bs_get
def nxt (t:List UInt8) (i:Nat):Int:=if h:i < t.length then (t[i].toNat:Int) else 0
theorem next_any (R:Nat) (t:List UInt8) (i:Nat) (w:World) (h0:w.cell? ⟨R,0,none⟩ = some (.string (bs t))) (h1:w.cell? ⟨R,1,none⟩ = some (.int .i64 i)) (ht:t.length ≤ 100000) :
 Calls Tryz.prog 188 #[.pointer (some ⟨R,0,none⟩)] w fun e w'=>e = .returned (.int .u8 (nxt t i))∧Below w.heap.size w w':=by
 by_cases hlt:i < t.length
 · have i0:(0:Int) ≤ (i:Int):=by omega
   have i1:(i:Int) < (t.length:Int):=by omega
   go_enter Tryz.func188,Tryz.ntmps188
   go_wp2_with fail
   go_quiet (fail)
   go_wp2_with fail
   go_quiet (fail)
   go_wp2_with fail
   go_ret
   exact ⟨ret_int (by simp [nxt,hlt]),below_drewN (below_drewN (Below.refl _ _) _) _⟩
 · have i1:¬ (i:Int) < (t.length:Int):=by omega
   go_enter Tryz.func188,Tryz.ntmps188
   go_wp2_with fail
   go_quiet (fail)
   go_wp2_with fail
   go_ret
   exact ⟨ret_int (by simp [nxt,hlt]),below_drewN (Below.refl _ _) _⟩
def runN (p:UInt8→Bool):Nat→List UInt8→Nat
 | 0,_=>0
 | _ + 1,[]=>0
 | m + 1,c :: r=>if p c then runN p m r + 1 else 0
theorem runN_le {p:UInt8→Bool}:∀ {m:Nat} {l:List UInt8},runN p m l ≤ m∧runN p m l ≤ l.length
 | 0,_=>by simp [runN]
 | _ + 1,[]=>by simp [runN]
 | m + 1,c :: r=>by
   have:=runN_le (p:=p) (m:=m) (l:=r)
   simp only [runN];split <;> simp <;> omega
theorem runN_stop {p:UInt8→Bool} {m:Nat} {l:List UInt8} (h:m = 0 ∨ l = []):runN p m l = 0:=by
 rcases h with rfl | rfl
 · cases l <;> rfl
 · cases m <;> rfl
theorem runN_no {p:UInt8→Bool} {m i:Nat} {t:List UInt8} (hi:i < t.length) (h:p t[i] = false):runN p m (t.drop i) = 0:=by
 rw [List.drop_eq_getElem_cons hi]
 cases m with
 | zero=>rfl
 | succ m=>simp [runN,h]
theorem runN_yes {p:UInt8→Bool} {m i:Nat} {t:List UInt8} (hi:i < t.length) (hm:0 < m) (h:p t[i] = true):runN p m (t.drop i) = runN p (m - 1) (t.drop (i + 1)) + 1:=by
 rw [List.drop_eq_getElem_cons hi]
 cases m with
 | zero=>omega
 | succ m=>simp [runN,h]
def Rdr (R:Nat) (t:List UInt8) (i:Nat) (vs:List Value) (w:World):Prop:=w.heap[R]? = some (.cells (.string (bs t) :: .int .i64 i :: vs).toArray 169 (0,0))
theorem Rdr.c0 {R:Nat} {t:List UInt8} {i:Nat} {vs:List Value} {w:World} (h:Rdr R t i vs w):w.cell? ⟨R,0,none⟩ = some (.string (bs t)):=by unfold Rdr at h;simp [World.cell?,h]
theorem Rdr.c1 {R:Nat} {t:List UInt8} {i:Nat} {vs:List Value} {w:World} (h:Rdr R t i vs w):w.cell? ⟨R,1,none⟩ = some (.int .i64 i):=by unfold Rdr at h;simp [World.cell?,h]
theorem Rdr.fz {R:Nat} {t:List UInt8} {i o:Nat} {vs:List Value} {w:World} (h:Rdr R t i vs w):w.frozen? ⟨R,o,none⟩ = false:=by unfold Rdr at h;simp [World.frozen?,h]
theorem Rdr.set1 {R:Nat} {t:List UInt8} {i:Nat} {vs:List Value} {w:World} (h:Rdr R t i vs w) (j:Nat):Rdr R t j vs (w.setCell ⟨R,1,none⟩ (.int .i64 j)):=by
 unfold Rdr at h ⊢;simp [World.setCell,Array.getElem?_modify,h]
theorem Rdr.lt {R:Nat} {t:List UInt8} {i:Nat} {vs:List Value} {w:World} (h:Rdr R t i vs w):R < w.heap.size:=(Array.getElem?_eq_some_iff.1 h).1
theorem Rdr.below {R:Nat} {t:List UInt8} {i:Nat} {vs:List Value} {w w':World} (h:Rdr R t i vs w) (hb:Below w.heap.size w w'):Rdr R t i vs w':=(hb.block R h.lt).trans h
theorem bs_extract (t:List UInt8) (i q:Nat):(bs t).extract i q = bs ((t.drop i).take (q - i)):=by
 apply ByteArray.ext
 simp [bs,ByteArray.data_extract,List.extract_eq_take_drop]
theorem Rdr.drewN {R:Nat} {t:List UInt8} {i:Nat} {vs:List Value} {w:World} (h:Rdr R t i vs w) (n:Nat):Rdr R t i vs (w.drewN n):=h
theorem keep_drewN {O:Nat→Prop} {A B:World} (h:Keep O A B) (n:Nat):Keep O A (B.drewN n):=⟨h.os,h.tape,h.output,h.size,h.block⟩
theorem runA_any (g:Nat) (hE:Enters g) (p:UInt8→Bool) (R:Nat) (t:List UInt8) (i most:Nat) (vs:List Value) (w:World) (hr:Rdr R t i vs w) (ht:t.length ≤ 100000) (hi:i ≤ t.length) (hmost:most ≤ 1000)
 (hp:∀ (c:UInt8) (W:World),Calls Tryz.prog g #[.int .u8 c.toNat] W fun e w'=>e = .returned (.bool (p c))∧Below W.heap.size W w') :
 Calls Tryz.prog 184 #[.pointer (some ⟨R,0,none⟩), .func (.func g) #[] #[], .int .i64 most] w fun e w'=>
  e = .returned (.string (bs ((t.drop i).take (runN p most (t.drop i)))))∧Rdr R t (i + runN p most (t.drop i)) vs w'∧Keep (· = R) w w':=by
 have hE':∀ (args:Array Value) (W:World),Sem.run Tryz.prog (callFunc g args) W = .ok (.enter g args) W:=hE
 have HP:=hid hp
 have h0:=hr.c0
 have h1:=hr.c1
 clear hE hp
 go_enter Tryz.func184,Tryz.ntmps184
 go_wp2_with fail
 go_loopw [] (fun wr=>∃ q:Nat,i ≤ q∧q ≤ i + most∧q ≤ t.length∧Hid (runN p most (t.drop i) = (q - i) + runN p (most - (q - i)) (t.drop q))∧Hid (Rdr R t q vs wr)∧Hid (Keep (· = R) w wr)) (fun wr=>t.length - (match wr.cell? ⟨R,1,none⟩ with | some v=>(intOf v).toNat | none=>0))
 case atStart=>exact ⟨i,by omega,by omega,by omega,by simp [Hid],hr,Keep.refl _ _⟩
 case round=>
  obtain ⟨q,hq1,hq2,hq3,hN,hR,hK⟩:=hrel
  have d0:=hR.out.c0
  have d1:=hR.out.c1
  have hfin:∀ W n,W = wr.drewN n→runN p (most - (q - i)) (t.drop q) = 0→W.cell? ⟨R,0,none⟩ = some (.string (bs t))∧W.cell? ⟨R,1,none⟩ = some (.int .i64 q):=by
   rintro W n rfl _;exact ⟨d0,d1⟩
  clear hfin
  have j1:(i:Int) ≤ (q:Int):=by omega
  have j2:(q:Int) ≤ (t.length:Int):=by omega
  have i0:(0:Int) ≤ (q:Int):=by omega
  have i2:(0:Int) ≤ (i:Int):=by omega
  have b4:IntKind.i64.wrap ((q:Int) - (i:Int)) = (q:Int) - (i:Int):=IntWalk.i64_in _ (by omega)
  by_cases hA:q < t.length
  · have a1:(q:Int) < (t.length:Int):=by omega
    by_cases hB:q - i < most
    · have a2:(q:Int) - (i:Int) < (most:Int):=by omega
      cases hpx:p t[q] with
      | true=>
        have hcall:∀ W,Calls Tryz.prog g #[.int .u8 t[q].toNat] W fun e w'=>e = .returned (.bool true)∧Below W.heap.size W w':=fun W=>by
         have:=HP.out t[q] W;rwa [hpx] at this
        have HC:=hid hcall
        have HX:=hid hpx
        have hlt:=hR.out.lt
        clear hcall hpx
        go_wp2_with fail
        go_region_held3 (fun w'=>w'.cell? ⟨R,0,none⟩ = some (.string (bs t))∧w'.cell? ⟨R,1,none⟩ = some (.int .i64 q))
         (first
           | go_keep
           | (go_split_ands;exact ⟨bc_ hb2 (by simpa using hlt) (by assumption),bc_ hb2 (by simpa using hlt) (by assumption)⟩))
         (first
           | (refine (HC.out _).mono ?_;rintro e w2 ⟨rfl,hb2⟩))
        have hbw:=((Below.refl wr.heap.size wr).drew).trans hb2
        have hR2:=hR.out.below hbw
        have g1:=hR2.c1
        have f1:=hR2.fz (o:=1)
        have HR2:=hid hR2
        have HBW:=hid hbw
        clear hR2 hbw hb2 d0 d1
        go_wp2_with fail
        have hR3:=HR2.out.set1 (q + 1)
        have hK3:=(hK.out.trans (Keep.of_below HBW.out)).trans (Keep.setCell (O:=(· = R)) (A:=w2) (p:=⟨R,1,none⟩) (v := .int .i64 ((q + 1:Nat):Int)) rfl)
        have hd1:=hR.out.c1
        rw [show ((q + 1:Nat):Int) = (q:Int) + 1 from by omega] at hR3 hK3
        refine ⟨⟨q + 1,by omega,by omega,by omega,?_,hR3,hK3⟩,?_⟩
        · rw [Hid,hN.out,runN_yes hA (by omega) HX.out,show most - (q - i) - 1 = most - (q + 1 - i) by omega]
          omega
        · rw [hR3.c1,hd1]
          simp [intOf]
          omega
      | false=>
        have hcall:∀ W,Calls Tryz.prog g #[.int .u8 t[q].toNat] W fun e w'=>e = .returned (.bool false)∧Below W.heap.size W w':=fun W=>by
         have:=HP.out t[q] W;rwa [hpx] at this
        have HC:=hid hcall
        have hn:=runN_no (m:=most - (q - i)) hA hpx
        have hlt:=hR.out.lt
        clear hcall hpx
        go_wp2_with fail
        go_region_held3 (fun w'=>w'.cell? ⟨R,0,none⟩ = some (.string (bs t))∧w'.cell? ⟨R,1,none⟩ = some (.int .i64 q))
         (first
           | go_keep
           | (go_split_ands;exact ⟨bc_ hb2 (by simpa using hlt) (by assumption),bc_ hb2 (by simpa using hlt) (by assumption)⟩))
         (first
           | (refine (HC.out _).mono ?_;rintro e w2 ⟨rfl,hb2⟩))
        have hbw:=((Below.refl wr.heap.size wr).drew).trans hb2
        have hR2:=hR.out.below hbw
        have g0:=hR2.c0
        have g1:=hR2.c1
        have HR2:=hid hR2
        have HBW:=hid hbw
        clear hR2 hbw hb2 d0 d1
        go_wp2_with fail
        go_quiet (fail)
        go_wp2_with fail
        go_ret
        rw [hN.out,hn,Nat.add_zero,show i + (q - i) = q by omega]
        exact ⟨by rw [← bs_extract];rfl,HR2.out,keep_drewN (hK.out.trans (Keep.of_below HBW.out)) _⟩
    · have a2:¬ (q:Int) - (i:Int) < (most:Int):=by omega
      have a3:decide ((q:Int) - (i:Int) < (most:Int)) = false:=decide_eq_false a2
      have hn:=runN_stop (p:=p) (m:=most - (q - i)) (l:=t.drop q) (.inl (by omega))
      go_wp2_with fail
      go_quiet (fail)
      go_wp2_with fail
      go_quiet (fail)
      go_wp2_with fail
      go_ret
      rw [hN.out,hn,Nat.add_zero,show i + (q - i) = q by omega]
      exact ⟨by rw [← bs_extract];rfl,hR.out,keep_drewN (keep_drewN hK.out _) _⟩
  · have a1:¬ (q:Int) < (t.length:Int):=by omega
    have a3:decide ((q:Int) < (t.length:Int)) = false:=decide_eq_false a1
    have hn:=runN_stop (p:=p) (m:=most - (q - i)) (l:=t.drop q) (.inr (List.drop_eq_nil_of_le (by omega)))
    go_wp2_with fail
    go_quiet (fail)
    go_wp2_with fail
    go_quiet (fail)
    go_wp2_with fail
    go_ret
    rw [hN.out,hn,Nat.add_zero,show i + (q - i) = q by omega]
    exact ⟨by rw [← bs_extract];rfl,hR.out,keep_drewN (keep_drewN hK.out _) _⟩
theorem runB_any (lo hi2:Int) (p:UInt8→Bool) (R:Nat) (t:List UInt8) (i most:Nat) (vs:List Value) (w:World) (hr:Rdr R t i vs w) (ht:t.length ≤ 100000) (hi:i ≤ t.length) (hmost:most ≤ 1000)
 (hp:∀ (c:UInt8) (W:World),Calls Tryz.prog 187 #[.agg #[.int .u8 lo, .int .u8 hi2], .int .u8 c.toNat] W fun e w'=>e = .returned (.bool (p c))∧Below W.heap.size W w') :
 Calls Tryz.prog 184 #[.pointer (some ⟨R,0,none⟩), .func (.func 187) #[.agg #[.int .u8 lo, .int .u8 hi2]] #[], .int .i64 most] w fun e w'=>
  e = .returned (.string (bs ((t.drop i).take (runN p most (t.drop i)))))∧Rdr R t (i + runN p most (t.drop i)) vs w'∧Keep (· = R) w w':=by
 have HP:=hid hp
 have h0:=hr.c0
 have h1:=hr.c1
 clear hp
 go_enter Tryz.func184,Tryz.ntmps184
 go_wp2_with fail
 go_loopw [] (fun wr=>∃ q:Nat,i ≤ q∧q ≤ i + most∧q ≤ t.length∧Hid (runN p most (t.drop i) = (q - i) + runN p (most - (q - i)) (t.drop q))∧Hid (Rdr R t q vs wr)∧Hid (Keep (· = R) w wr)) (fun wr=>t.length - (match wr.cell? ⟨R,1,none⟩ with | some v=>(intOf v).toNat | none=>0))
 case atStart=>exact ⟨i,by omega,by omega,by omega,by simp [Hid],hr,Keep.refl _ _⟩
 case round=>
  obtain ⟨q,hq1,hq2,hq3,hN,hR,hK⟩:=hrel
  have d0:=hR.out.c0
  have d1:=hR.out.c1
  have hfin:∀ W n,W = wr.drewN n→runN p (most - (q - i)) (t.drop q) = 0→W.cell? ⟨R,0,none⟩ = some (.string (bs t))∧W.cell? ⟨R,1,none⟩ = some (.int .i64 q):=by
   rintro W n rfl _;exact ⟨d0,d1⟩
  clear hfin
  have j1:(i:Int) ≤ (q:Int):=by omega
  have j2:(q:Int) ≤ (t.length:Int):=by omega
  have i0:(0:Int) ≤ (q:Int):=by omega
  have i2:(0:Int) ≤ (i:Int):=by omega
  have b4:IntKind.i64.wrap ((q:Int) - (i:Int)) = (q:Int) - (i:Int):=IntWalk.i64_in _ (by omega)
  by_cases hA:q < t.length
  · have a1:(q:Int) < (t.length:Int):=by omega
    by_cases hB:q - i < most
    · have a2:(q:Int) - (i:Int) < (most:Int):=by omega
      cases hpx:p t[q] with
      | true=>
        have hcall:∀ W,Calls Tryz.prog 187 #[.agg #[.int .u8 lo, .int .u8 hi2], .int .u8 t[q].toNat] W fun e w'=>e = .returned (.bool true)∧Below W.heap.size W w':=fun W=>by
         have:=HP.out t[q] W;rwa [hpx] at this
        have HC:=hid hcall
        have HX:=hid hpx
        have hlt:=hR.out.lt
        clear hcall hpx
        go_wp2_with fail
        go_region_held3 (fun w'=>w'.cell? ⟨R,0,none⟩ = some (.string (bs t))∧w'.cell? ⟨R,1,none⟩ = some (.int .i64 q))
         (first
           | go_keep
           | (go_split_ands;exact ⟨bc_ hb2 (by simpa using hlt) (by assumption),bc_ hb2 (by simpa using hlt) (by assumption)⟩))
         (first
           | (refine (HC.out _).mono ?_;rintro e w2 ⟨rfl,hb2⟩))
        have hbw:=((Below.refl wr.heap.size wr).drew).trans hb2
        have hR2:=hR.out.below hbw
        have g1:=hR2.c1
        have f1:=hR2.fz (o:=1)
        have HR2:=hid hR2
        have HBW:=hid hbw
        clear hR2 hbw hb2 d0 d1
        go_wp2_with fail
        have hR3:=HR2.out.set1 (q + 1)
        have hK3:=(hK.out.trans (Keep.of_below HBW.out)).trans (Keep.setCell (O:=(· = R)) (A:=w2) (p:=⟨R,1,none⟩) (v := .int .i64 ((q + 1:Nat):Int)) rfl)
        have hd1:=hR.out.c1
        rw [show ((q + 1:Nat):Int) = (q:Int) + 1 from by omega] at hR3 hK3
        refine ⟨⟨q + 1,by omega,by omega,by omega,?_,hR3,hK3⟩,?_⟩
        · rw [Hid,hN.out,runN_yes hA (by omega) HX.out,show most - (q - i) - 1 = most - (q + 1 - i) by omega]
          omega
        · rw [hR3.c1,hd1]
          simp [intOf]
          omega
      | false=>
        have hcall:∀ W,Calls Tryz.prog 187 #[.agg #[.int .u8 lo, .int .u8 hi2], .int .u8 t[q].toNat] W fun e w'=>e = .returned (.bool false)∧Below W.heap.size W w':=fun W=>by
         have:=HP.out t[q] W;rwa [hpx] at this
        have HC:=hid hcall
        have hn:=runN_no (m:=most - (q - i)) hA hpx
        have hlt:=hR.out.lt
        clear hcall hpx
        go_wp2_with fail
        go_region_held3 (fun w'=>w'.cell? ⟨R,0,none⟩ = some (.string (bs t))∧w'.cell? ⟨R,1,none⟩ = some (.int .i64 q))
         (first
           | go_keep
           | (go_split_ands;exact ⟨bc_ hb2 (by simpa using hlt) (by assumption),bc_ hb2 (by simpa using hlt) (by assumption)⟩))
         (first
           | (refine (HC.out _).mono ?_;rintro e w2 ⟨rfl,hb2⟩))
        have hbw:=((Below.refl wr.heap.size wr).drew).trans hb2
        have hR2:=hR.out.below hbw
        have g0:=hR2.c0
        have g1:=hR2.c1
        have HR2:=hid hR2
        have HBW:=hid hbw
        clear hR2 hbw hb2 d0 d1
        go_wp2_with fail
        go_quiet (fail)
        go_wp2_with fail
        go_ret
        rw [hN.out,hn,Nat.add_zero,show i + (q - i) = q by omega]
        exact ⟨by rw [← bs_extract];rfl,HR2.out,keep_drewN (hK.out.trans (Keep.of_below HBW.out)) _⟩
    · have a2:¬ (q:Int) - (i:Int) < (most:Int):=by omega
      have a3:decide ((q:Int) - (i:Int) < (most:Int)) = false:=decide_eq_false a2
      have hn:=runN_stop (p:=p) (m:=most - (q - i)) (l:=t.drop q) (.inl (by omega))
      go_wp2_with fail
      go_quiet (fail)
      go_wp2_with fail
      go_quiet (fail)
      go_wp2_with fail
      go_ret
      rw [hN.out,hn,Nat.add_zero,show i + (q - i) = q by omega]
      exact ⟨by rw [← bs_extract];rfl,hR.out,keep_drewN (keep_drewN hK.out _) _⟩
  · have a1:¬ (q:Int) < (t.length:Int):=by omega
    have a3:decide ((q:Int) < (t.length:Int)) = false:=decide_eq_false a1
    have hn:=runN_stop (p:=p) (m:=most - (q - i)) (l:=t.drop q) (.inr (List.drop_eq_nil_of_le (by omega)))
    go_wp2_with fail
    go_quiet (fail)
    go_wp2_with fail
    go_quiet (fail)
    go_wp2_with fail
    go_ret
    rw [hN.out,hn,Nat.add_zero,show i + (q - i) = q by omega]
    exact ⟨by rw [← bs_extract];rfl,hR.out,keep_drewN (keep_drewN hK.out _) _⟩
end Go.Proofs.LF
