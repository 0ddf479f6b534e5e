/- Parts of the proof of a law of layer 11 (file): LfYag, LsBell. The conditions stand in each theorem. -/
import Derived.Test.YtffjknkcogmnbaaGreatDoorProg
import Derived.Test.YtffjknkcogmnbaaGreatDoorSpaa
import Derived.Test.YtffjknkcogmnbaaGreatDoorSpag
set_option linter.all false
set_option linter.unusedVariables false
set_option linter.unusedSimpArgs false
set_option linter.all false
set_option linter.unusedVariables false
set_option linter.unusedSimpArgs false
namespace Go.Proofs.LF
open Go.RowKit Go.Sort
set_option maxHeartbeats 4000000
set_option maxRecDepth 100000
attribute [local go_sem] q1_ q2_ q6_
def nxt (t:List UInt8) (i:Nat):Int:=if h:i < t.length then (t[i].toNat:Int) else 0
theorem yf_ (R:Nat) (t:List UInt8) (i:Nat) (w:World) (h0:w.cell? ⟨R,0,none⟩ = some (.string (bs t))) (h1:w.cell? ⟨R,1,none⟩ = some (.int .i64 i)) (ht:t.length ≤ 100000) :
 Calls Tryz.prog 98 #[.pointer (some ⟨R,0,none⟩)] w fun e w'=>e = .returned (.int .u8 (nxt t i))∧Below w.heap.size w w':=by
 by_cases hlt:i < t.length
 · have i0:(0:Int) ≤ (i:Int):=by omega
   have i1:(i:Int) < (t.length:Int):=by omega
   go_enter Tryz.func98,Tryz.ntmps98
   go_wp2_with fail
   go_quiet (fail)
   go_wp2_with fail
   go_quiet (fail)
   go_wp2_with fail
   go_ret
   exact ⟨qe_ (by simp [nxt,hlt]),qm_ (qm_ (Below.refl _ _) _) _⟩
 · have i1:¬ (i:Int) < (t.length:Int):=by omega
   go_enter Tryz.func98,Tryz.ntmps98
   go_wp2_with fail
   go_quiet (fail)
   go_wp2_with fail
   go_ret
   exact ⟨qe_ (by simp [nxt,hlt]),qm_ (Below.refl _ _) _⟩
def qD_ (p:UInt8→Bool):Nat→List UInt8→Nat
 | 0,_=>0
 | _ + 1,[]=>0
 | m + 1,c :: r=>if p c then qD_ p m r + 1 else 0
theorem vo_ {p:UInt8→Bool}:∀ {m:Nat} {l:List UInt8},qD_ p m l ≤ m∧qD_ p m l ≤ l.length
 | 0,_=>by simp [qD_]
 | _ + 1,[]=>by simp [qD_]
 | m + 1,c :: r=>by
   have:=vo_ (p:=p) (m:=m) (l:=r)
   simp only [qD_];split <;> simp <;> omega
theorem zO_ {p:UInt8→Bool} {m:Nat} {l:List UInt8} (h:m = 0 ∨ l = []):qD_ p m l = 0:=by
 rcases h with rfl | rfl
 · cases l <;> rfl
 · cases m <;> rfl
theorem runN_no {p:UInt8→Bool} {m i:Nat} {t:List UInt8} (hi:i < t.length) (h:p t[i] = false):qD_ p m (t.drop i) = 0:=by
 rw [List.drop_eq_getElem_cons hi]
 cases m with
 | zero=>rfl
 | succ m=>simp [qD_,h]
theorem y7_ {p:UInt8→Bool} {m i:Nat} {t:List UInt8} (hi:i < t.length) (hm:0 < m) (h:p t[i] = true):qD_ p m (t.drop i) = qD_ p (m - 1) (t.drop (i + 1)) + 1:=by
 rw [List.drop_eq_getElem_cons hi]
 cases m with
 | zero=>omega
 | succ m=>simp [qD_,h]
def Rdr (R:Nat) (t:List UInt8) (i:Nat) (vs:List Value) (w:World):Prop:=w.heap[R]? = some (.cells (.string (bs t) :: .int .i64 i :: vs).toArray 131 (0,0))
theorem Rdr.c0 {R:Nat} {t:List UInt8} {i:Nat} {vs:List Value} {w:World} (h:Rdr R t i vs w):w.cell? ⟨R,0,none⟩ = some (.string (bs t)):=by unfold Rdr at h;simp [World.cell?,h]
theorem Rdr.c1 {R:Nat} {t:List UInt8} {i:Nat} {vs:List Value} {w:World} (h:Rdr R t i vs w):w.cell? ⟨R,1,none⟩ = some (.int .i64 i):=by unfold Rdr at h;simp [World.cell?,h]
theorem Rdr.fz {R:Nat} {t:List UInt8} {i o:Nat} {vs:List Value} {w:World} (h:Rdr R t i vs w):w.frozen? ⟨R,o,none⟩ = false:=by unfold Rdr at h;simp [World.frozen?,h]
theorem Rdr.set1 {R:Nat} {t:List UInt8} {i:Nat} {vs:List Value} {w:World} (h:Rdr R t i vs w) (j:Nat):Rdr R t j vs (w.setCell ⟨R,1,none⟩ (.int .i64 j)):=by
 unfold Rdr at h ⊢;simp [World.setCell,Array.getElem?_modify,h]
theorem Rdr.lt {R:Nat} {t:List UInt8} {i:Nat} {vs:List Value} {w:World} (h:Rdr R t i vs w):R < w.heap.size:=(ge_ h).1
theorem Rdr.below {R:Nat} {t:List UInt8} {i:Nat} {vs:List Value} {w w':World} (h:Rdr R t i vs w) (hb:Below w.heap.size w w'):Rdr R t i vs w':=(hb.block R h.lt).trans h
theorem z7_ (t:List UInt8) (i q:Nat):(bs t).extract i q = bs ((t.drop i).take (q - i)):=by
 apply ByteArray.ext
 simp [bs,ByteArray.data_extract,List.extract_eq_take_drop]
theorem Rdr.drewN {R:Nat} {t:List UInt8} {i:Nat} {vs:List Value} {w:World} (h:Rdr R t i vs w) (n:Nat):Rdr R t i vs (w.drewN n):=h
theorem qC_ {O:Nat→Prop} {A B:World} (h:Keep O A B) (n:Nat):Keep O A (B.drewN n):=⟨h.os,h.tape,h.output,h.size,h.block⟩
theorem runA_any (g:Nat) (hE:z5_ g) (p:UInt8→Bool) (R:Nat) (t:List UInt8) (i most:Nat) (vs:List Value) (w:World) (hr:Rdr R t i vs w) (ht:t.length ≤ 100000) (hi:i ≤ t.length) (hmost:most ≤ 1000)
 (hp:∀ (c:UInt8) (W:World),Calls Tryz.prog g #[.int .u8 c.toNat] W fun e w'=>e = .returned (.bool (p c))∧Below W.heap.size W w') :
 Calls Tryz.prog 94 #[.pointer (some ⟨R,0,none⟩), .func (.func g) #[] #[], .int .i64 most] w fun e w'=>
  e = .returned (.string (bs ((t.drop i).take (qD_ p most (t.drop i)))))∧Rdr R t (i + qD_ p most (t.drop i)) vs w'∧Keep (· = R) w w':=by
 have hE':∀ (args:Array Value) (W:World),Sem.run Tryz.prog (callFunc g args) W = .ok (.enter g args) W:=hE
 have HP:=hid hp
 have h0:=hr.c0
 have h1:=hr.c1
 clear hE hp
 go_enter Tryz.func94,Tryz.ntmps94
 go_wp2_with fail
 go_loopw [] (fun wr=>∃ q:Nat,i ≤ q∧q ≤ i + most∧q ≤ t.length∧Hid (qD_ p most (t.drop i) = (q - i) + qD_ p (most - (q - i)) (t.drop q))∧Hid (Rdr R t q vs wr)∧Hid (Keep (· = R) w wr)) (fun wr=>t.length - (match wr.cell? ⟨R,1,none⟩ with | some v=>(intOf v).toNat | none=>0))
 case atStart=>exact ⟨i,by omega,by omega,by omega,by simp [Hid],hr,Keep.refl _ _⟩
 case round=>
  obtain ⟨q,hq1,hq2,hq3,hN,hR,hK⟩:=hrel
  have d0:=hR.out.c0
  have d1:=hR.out.c1
  have hfin:∀ W n,W = wr.drewN n→qD_ p (most - (q - i)) (t.drop q) = 0→W.cell? ⟨R,0,none⟩ = some (.string (bs t))∧W.cell? ⟨R,1,none⟩ = some (.int .i64 q):=by
   rintro W n rfl _;exact ⟨d0,d1⟩
  clear hfin
  have j1:(i:Int) ≤ (q:Int):=by omega
  have j2:(q:Int) ≤ (t.length:Int):=by omega
  have i0:(0:Int) ≤ (q:Int):=by omega
  have i2:(0:Int) ≤ (i:Int):=by omega
  have b4:IntKind.i64.wrap ((q:Int) - (i:Int)) = (q:Int) - (i:Int):=IntWalk.i64_in _ (by omega)
  by_cases hA:q < t.length
  · have a1:(q:Int) < (t.length:Int):=by omega
    by_cases hB:q - i < most
    · have a2:(q:Int) - (i:Int) < (most:Int):=by omega
      cases hpx:p t[q] with
      | true=>
        have hcall:∀ W,Calls Tryz.prog g #[.int .u8 t[q].toNat] W fun e w'=>e = .returned (.bool true)∧Below W.heap.size W w':=fun W=>by
         have:=HP.out t[q] W;rwa [hpx] at this
        have HC:=hid hcall
        have HX:=hid hpx
        have hlt:=hR.out.lt
        clear hcall hpx
        go_wp2_with fail
        go_region_held3 (fun w'=>w'.cell? ⟨R,0,none⟩ = some (.string (bs t))∧w'.cell? ⟨R,1,none⟩ = some (.int .i64 q))
         (first
           | go_keep
           | (go_split_ands;exact ⟨bc_ hb2 (by simpa using hlt) (by assumption),bc_ hb2 (by simpa using hlt) (by assumption)⟩))
         (first
           | (refine (HC.out _).mono ?_;rintro e w2 ⟨rfl,hb2⟩))
        have hbw:=((Below.refl wr.heap.size wr).drew).trans hb2
        have hR2:=hR.out.below hbw
        have g1:=hR2.c1
        have f1:=hR2.fz (o:=1)
        have HR2:=hid hR2
        have HBW:=hid hbw
        clear hR2 hbw hb2 d0 d1
        go_wp2_with fail
        have hR3:=HR2.out.set1 (q + 1)
        have hK3:=(hK.out.trans (Keep.of_below HBW.out)).trans (Keep.setCell (O:=(· = R)) (A:=w2) (p:=⟨R,1,none⟩) (v := .int .i64 ((q + 1:Nat):Int)) rfl)
        have hd1:=hR.out.c1
        rw [show ((q + 1:Nat):Int) = (q:Int) + 1 from by omega] at hR3 hK3
        refine ⟨⟨q + 1,by omega,by omega,by omega,?_,hR3,hK3⟩,?_⟩
        · rw [Hid,hN.out,y7_ hA (by omega) HX.out,show most - (q - i) - 1 = most - (q + 1 - i) by omega]
          omega
        · rw [hR3.c1,hd1]
          simp [intOf]
          omega
      | false=>
        have hcall:∀ W,Calls Tryz.prog g #[.int .u8 t[q].toNat] W fun e w'=>e = .returned (.bool false)∧Below W.heap.size W w':=fun W=>by
         have:=HP.out t[q] W;rwa [hpx] at this
        have HC:=hid hcall
        have hn:=runN_no (m:=most - (q - i)) hA hpx
        have hlt:=hR.out.lt
        clear hcall hpx
        go_wp2_with fail
        go_region_held3 (fun w'=>w'.cell? ⟨R,0,none⟩ = some (.string (bs t))∧w'.cell? ⟨R,1,none⟩ = some (.int .i64 q))
         (first
           | go_keep
           | (go_split_ands;exact ⟨bc_ hb2 (by simpa using hlt) (by assumption),bc_ hb2 (by simpa using hlt) (by assumption)⟩))
         (first
           | (refine (HC.out _).mono ?_;rintro e w2 ⟨rfl,hb2⟩))
        have hbw:=((Below.refl wr.heap.size wr).drew).trans hb2
        have hR2:=hR.out.below hbw
        have g0:=hR2.c0
        have g1:=hR2.c1
        have HR2:=hid hR2
        have HBW:=hid hbw
        clear hR2 hbw hb2 d0 d1
        go_wp2_with fail
        go_quiet (fail)
        go_wp2_with fail
        go_ret
        rw [hN.out,hn,Nat.add_zero,show i + (q - i) = q by omega]
        exact ⟨by rw [← z7_];rfl,HR2.out,qC_ (hK.out.trans (Keep.of_below HBW.out)) _⟩
    · have a2:¬ (q:Int) - (i:Int) < (most:Int):=by omega
      have a3:decide ((q:Int) - (i:Int) < (most:Int)) = false:=decide_eq_false a2
      have hn:=zO_ (p:=p) (m:=most - (q - i)) (l:=t.drop q) (.inl (by omega))
      go_wp2_with fail
      go_quiet (fail)
      go_wp2_with fail
      go_quiet (fail)
      go_wp2_with fail
      go_ret
      rw [hN.out,hn,Nat.add_zero,show i + (q - i) = q by omega]
      exact ⟨by rw [← z7_];rfl,hR.out,qC_ (qC_ hK.out _) _⟩
  · have a1:¬ (q:Int) < (t.length:Int):=by omega
    have a3:decide ((q:Int) < (t.length:Int)) = false:=decide_eq_false a1
    have hn:=zO_ (p:=p) (m:=most - (q - i)) (l:=t.drop q) (.inr (List.drop_eq_nil_of_le (by omega)))
    go_wp2_with fail
    go_quiet (fail)
    go_wp2_with fail
    go_quiet (fail)
    go_wp2_with fail
    go_ret
    rw [hN.out,hn,Nat.add_zero,show i + (q - i) = q by omega]
    exact ⟨by rw [← z7_];rfl,hR.out,qC_ (qC_ hK.out _) _⟩
theorem yN_ (lo hi2:Int) (p:UInt8→Bool) (R:Nat) (t:List UInt8) (i most:Nat) (vs:List Value) (w:World) (hr:Rdr R t i vs w) (ht:t.length ≤ 100000) (hi:i ≤ t.length) (hmost:most ≤ 1000)
 (hp:∀ (c:UInt8) (W:World),Calls Tryz.prog 97 #[.agg #[.int .u8 lo, .int .u8 hi2], .int .u8 c.toNat] W fun e w'=>e = .returned (.bool (p c))∧Below W.heap.size W w') :
 Calls Tryz.prog 94 #[.pointer (some ⟨R,0,none⟩), .func (.func 97) #[.agg #[.int .u8 lo, .int .u8 hi2]] #[], .int .i64 most] w fun e w'=>
  e = .returned (.string (bs ((t.drop i).take (qD_ p most (t.drop i)))))∧Rdr R t (i + qD_ p most (t.drop i)) vs w'∧Keep (· = R) w w':=by
 have HP:=hid hp
 have h0:=hr.c0
 have h1:=hr.c1
 clear hp
 go_enter Tryz.func94,Tryz.ntmps94
 go_wp2_with fail
 go_loopw [] (fun wr=>∃ q:Nat,i ≤ q∧q ≤ i + most∧q ≤ t.length∧Hid (qD_ p most (t.drop i) = (q - i) + qD_ p (most - (q - i)) (t.drop q))∧Hid (Rdr R t q vs wr)∧Hid (Keep (· = R) w wr)) (fun wr=>t.length - (match wr.cell? ⟨R,1,none⟩ with | some v=>(intOf v).toNat | none=>0))
 case atStart=>exact ⟨i,by omega,by omega,by omega,by simp [Hid],hr,Keep.refl _ _⟩
 case round=>
  obtain ⟨q,hq1,hq2,hq3,hN,hR,hK⟩:=hrel
  have d0:=hR.out.c0
  have d1:=hR.out.c1
  have hfin:∀ W n,W = wr.drewN n→qD_ p (most - (q - i)) (t.drop q) = 0→W.cell? ⟨R,0,none⟩ = some (.string (bs t))∧W.cell? ⟨R,1,none⟩ = some (.int .i64 q):=by
   rintro W n rfl _;exact ⟨d0,d1⟩
  clear hfin
  have j1:(i:Int) ≤ (q:Int):=by omega
  have j2:(q:Int) ≤ (t.length:Int):=by omega
  have i0:(0:Int) ≤ (q:Int):=by omega
  have i2:(0:Int) ≤ (i:Int):=by omega
  have b4:IntKind.i64.wrap ((q:Int) - (i:Int)) = (q:Int) - (i:Int):=IntWalk.i64_in _ (by omega)
  by_cases hA:q < t.length
  · have a1:(q:Int) < (t.length:Int):=by omega
    by_cases hB:q - i < most
    · have a2:(q:Int) - (i:Int) < (most:Int):=by omega
      cases hpx:p t[q] with
      | true=>
        have hcall:∀ W,Calls Tryz.prog 97 #[.agg #[.int .u8 lo, .int .u8 hi2], .int .u8 t[q].toNat] W fun e w'=>e = .returned (.bool true)∧Below W.heap.size W w':=fun W=>by
         have:=HP.out t[q] W;rwa [hpx] at this
        have HC:=hid hcall
        have HX:=hid hpx
        have hlt:=hR.out.lt
        clear hcall hpx
        go_wp2_with fail
        go_region_held3 (fun w'=>w'.cell? ⟨R,0,none⟩ = some (.string (bs t))∧w'.cell? ⟨R,1,none⟩ = some (.int .i64 q))
         (first
           | go_keep
           | (go_split_ands;exact ⟨bc_ hb2 (by simpa using hlt) (by assumption),bc_ hb2 (by simpa using hlt) (by assumption)⟩))
         (first
           | (refine (HC.out _).mono ?_;rintro e w2 ⟨rfl,hb2⟩))
        have hbw:=((Below.refl wr.heap.size wr).drew).trans hb2
        have hR2:=hR.out.below hbw
        have g1:=hR2.c1
        have f1:=hR2.fz (o:=1)
        have HR2:=hid hR2
        have HBW:=hid hbw
        clear hR2 hbw hb2 d0 d1
        go_wp2_with fail
        have hR3:=HR2.out.set1 (q + 1)
        have hK3:=(hK.out.trans (Keep.of_below HBW.out)).trans (Keep.setCell (O:=(· = R)) (A:=w2) (p:=⟨R,1,none⟩) (v := .int .i64 ((q + 1:Nat):Int)) rfl)
        have hd1:=hR.out.c1
        rw [show ((q + 1:Nat):Int) = (q:Int) + 1 from by omega] at hR3 hK3
        refine ⟨⟨q + 1,by omega,by omega,by omega,?_,hR3,hK3⟩,?_⟩
        · rw [Hid,hN.out,y7_ hA (by omega) HX.out,show most - (q - i) - 1 = most - (q + 1 - i) by omega]
          omega
        · rw [hR3.c1,hd1]
          simp [intOf]
          omega
      | false=>
        have hcall:∀ W,Calls Tryz.prog 97 #[.agg #[.int .u8 lo, .int .u8 hi2], .int .u8 t[q].toNat] W fun e w'=>e = .returned (.bool false)∧Below W.heap.size W w':=fun W=>by
         have:=HP.out t[q] W;rwa [hpx] at this
        have HC:=hid hcall
        have hn:=runN_no (m:=most - (q - i)) hA hpx
        have hlt:=hR.out.lt
        clear hcall hpx
        go_wp2_with fail
        go_region_held3 (fun w'=>w'.cell? ⟨R,0,none⟩ = some (.string (bs t))∧w'.cell? ⟨R,1,none⟩ = some (.int .i64 q))
         (first
           | go_keep
           | (go_split_ands;exact ⟨bc_ hb2 (by simpa using hlt) (by assumption),bc_ hb2 (by simpa using hlt) (by assumption)⟩))
         (first
           | (refine (HC.out _).mono ?_;rintro e w2 ⟨rfl,hb2⟩))
        have hbw:=((Below.refl wr.heap.size wr).drew).trans hb2
        have hR2:=hR.out.below hbw
        have g0:=hR2.c0
        have g1:=hR2.c1
        have HR2:=hid hR2
        have HBW:=hid hbw
        clear hR2 hbw hb2 d0 d1
        go_wp2_with fail
        go_quiet (fail)
        go_wp2_with fail
        go_ret
        rw [hN.out,hn,Nat.add_zero,show i + (q - i) = q by omega]
        exact ⟨by rw [← z7_];rfl,HR2.out,qC_ (hK.out.trans (Keep.of_below HBW.out)) _⟩
    · have a2:¬ (q:Int) - (i:Int) < (most:Int):=by omega
      have a3:decide ((q:Int) - (i:Int) < (most:Int)) = false:=decide_eq_false a2
      have hn:=zO_ (p:=p) (m:=most - (q - i)) (l:=t.drop q) (.inl (by omega))
      go_wp2_with fail
      go_quiet (fail)
      go_wp2_with fail
      go_quiet (fail)
      go_wp2_with fail
      go_ret
      rw [hN.out,hn,Nat.add_zero,show i + (q - i) = q by omega]
      exact ⟨by rw [← z7_];rfl,hR.out,qC_ (qC_ hK.out _) _⟩
  · have a1:¬ (q:Int) < (t.length:Int):=by omega
    have a3:decide ((q:Int) < (t.length:Int)) = false:=decide_eq_false a1
    have hn:=zO_ (p:=p) (m:=most - (q - i)) (l:=t.drop q) (.inr (List.drop_eq_nil_of_le (by omega)))
    go_wp2_with fail
    go_quiet (fail)
    go_wp2_with fail
    go_quiet (fail)
    go_wp2_with fail
    go_ret
    rw [hN.out,hn,Nat.add_zero,show i + (q - i) = q by omega]
    exact ⟨by rw [← z7_];rfl,hR.out,qC_ (qC_ hK.out _) _⟩
end Go.Proofs.LF
namespace Go.Proofs.LS
def fr (s:CS) (v:Nat):Int:=s.far.getD v 0
def cby (s:CS) (v:Nat):Cg:=s.by_.getD v Cg.z
def okc (ws:List Way) (s:CS) (c:Cg):Prop:=fr s (eT ws c) ≤ fr s (eF ws c) + eC ws c
structure CI (ws:List Way) (k:Nat) (s:CS) (τ L:Nat→Nat) (N:Nat):Prop where
 lf:s.far.length = 12
 lb:s.by_.length = 12
 tl:∀ v,τ v < N
 ll:∀ v,L v ≤ k
 ex:∀ v,1 ≤ L v→cby s v ∈ qM_ ws ws.length∧eT ws (cby s v) = v∧fr s (eF ws (cby s v)) + eC ws (cby s v) ≤ fr s v∧(τ v ≤ τ (eF ws (cby s v))→fr s (eF ws (cby s v)) + eC ws (cby s v) < fr s v)∧L v ≤ L (eF ws (cby s v)) + 1
 arc:∀ c ∈ qM_ ws ws.length,okc ws s c ∨ k ≤ L (eF ws c) + 1
structure CJ (ws:List Way) (k:Nat) (d:List Cg) (s:CS) (τ L:Nat→Nat) (N:Nat):Prop extends CI ws k s τ L N where
 done:∀ c ∈ d,okc ws s c ∨ k ≤ L (eF ws c)
 no:s.last < 0→∀ c ∈ d,okc ws s c
 yes:0 ≤ s.last→s.last.toNat < 12∧L s.last.toNat = k
theorem cStep_ok {ws:List Way} {k N:Nat} {d:List Cg} {s:CS} {τ L:Nat→Nat} {c:Cg} (h:Flow ws) (hc:c ∈ qM_ ws ws.length) (hJ:CJ ws k d s τ L N):∃ τ' L' N',CJ ws k (d ++ [c]) (wu_ ws s c) τ' L' N':=by
 obtain ⟨e1,e2,e3⟩:=ends_lt h hc
 rw [wu_,show s.far.getD (eF ws c) 0 = fr s (eF ws c) from rfl,show s.far.getD (eT ws c) 0 = fr s (eT ws c) from rfl]
 by_cases hq:fr s (eF ws c) + eC ws c < fr s (eT ws c)
 · rw [if_pos hq]
   have hf:∀ v,fr ⟨s.far.set (eT ws c) (fr s (eF ws c) + eC ws c),s.by_.set (eT ws c) c,(eT ws c:Nat)⟩ v = if v = eT ws c then fr s (eF ws c) + eC ws c else fr s v:=fun v=>zz_ _ _ _ _ _ (by rw [hJ.lf];exact e2)
   have hb:∀ v,cby ⟨s.far.set (eT ws c) (fr s (eF ws c) + eC ws c),s.by_.set (eT ws c) c,(eT ws c:Nat)⟩ v = if v = eT ws c then c else cby s v:=fun v=>zz_ _ _ _ _ _ (by rw [hJ.lb];exact e2)
   have hLu:k ≤ L (eF ws c) + 1:=by
    rcases hJ.arc c hc with h1 | h1
    · rw [okc] at h1;omega
    · exact h1
   have hok:∀ c':Cg,eF ws c' ≠ eT ws c→okc ws s c'→okc ws ⟨s.far.set (eT ws c) (fr s (eF ws c) + eC ws c),s.by_.set (eT ws c) c,(eT ws c:Nat)⟩ c':=fun c' hne h1=>by
    rw [okc] at h1 ⊢
    rw [hf,hf,if_neg hne]
    split
    · rename_i e;rw [e] at h1;omega
    · exact h1
   have hcc:okc ws ⟨s.far.set (eT ws c) (fr s (eF ws c) + eC ws c),s.by_.set (eT ws c) c,(eT ws c:Nat)⟩ c:=by
    rw [okc,hf,hf,if_pos rfl,if_neg e3];exact Int.le_refl _
   refine ⟨fun v=>if v = eT ws c then N else τ v,fun v=>if v = eT ws c then k else L v,N + 1,⟨⟨by simpa using hJ.lf,by simpa using hJ.lb,fun v=>?_,fun v=>?_,fun v hv=>?_,fun c' hc'=>?_⟩,fun c' hc'=>?_,fun hl=>?_,fun hl=>?_⟩⟩
   · show (if v = eT ws c then N else τ v) < N + 1
     have:=hJ.tl v
     split <;> omega
   · show (if v = eT ws c then k else L v) ≤ k
     have:=hJ.ll v
     split <;> omega
   · rw [hb]
     by_cases e:v = eT ws c
     · rw [if_pos e,hf,hf,if_pos e,if_neg e3,if_pos e,if_neg e3,if_pos e,if_neg e3]
       have:=hJ.tl (eF ws c)
       exact ⟨hc,e.symm,Int.le_refl _,fun h=>by omega,hLu⟩
     · rw [if_neg e] at hv ⊢
       obtain ⟨k1,k2,k3,k4,k5⟩:=hJ.ex v hv
       rw [if_neg e,if_neg e,hf,hf,if_neg e]
       by_cases e5:eF ws (cby s v) = eT ws c
       · rw [if_pos e5,if_pos e5,if_pos e5]
         rw [e5] at k3
         have:=hJ.ll v
         exact ⟨k1,k2,by omega,fun _=>by omega,by omega⟩
       · rw [if_neg e5,if_neg e5,if_neg e5]
         exact ⟨k1,k2,k3,k4,k5⟩
   · by_cases e:eF ws c' = eT ws c
     · right;rw [if_pos e];omega
     · rw [if_neg e]
       exact (hJ.arc c' hc').imp (hok c' e) id
   · by_cases e:eF ws c' = eT ws c
     · right;rw [if_pos e];omega
     · rw [if_neg e]
       rcases List.mem_append.1 hc' with h1 | h1
       · exact (hJ.done c' h1).imp (hok c' e) id
       · left;rw [List.mem_singleton.1 h1];exact hcc
   · exact absurd hl (by show ¬ ((eT ws c:Nat):Int) < 0;omega)
   · show ((eT ws c:Nat):Int).toNat < 12∧_
     rw [Int.toNat_natCast,if_pos rfl]
     exact ⟨e2,rfl⟩
 · rw [if_neg hq]
   have hcc:okc ws s c:=by rw [okc];omega
   refine ⟨τ,L,N,⟨hJ.toCI,fun c' hc'=>?_,fun hl c' hc'=>?_,hJ.yes⟩⟩
   · rcases List.mem_append.1 hc' with h1 | h1
     · exact hJ.done c' h1
     · left;rw [List.mem_singleton.1 h1];exact hcc
   · rcases List.mem_append.1 hc' with h1 | h1
     · exact hJ.no hl c' h1
     · rw [List.mem_singleton.1 h1];exact hcc
theorem jY_ {ws:List Way} {k:Nat} (h:Flow ws):∀ {l d:List Cg} {s:CS} {τ L:Nat→Nat} {N:Nat},(∀ c ∈ l,c ∈ qM_ ws ws.length)→CJ ws k d s τ L N→∃ τ' L' N',CJ ws k (d ++ l) (l.foldl (wu_ ws) s) τ' L' N'
 | [],d,s,τ,L,N,_,hJ=>⟨τ,L,N,by rw [List.append_nil];exact hJ⟩
 | c :: l,d,s,τ,L,N,hl,hJ=>by
   obtain ⟨τ',L',N',h1⟩:=cStep_ok h (hl c (List.mem_cons_self ..)) hJ
   have:=jY_ h (l:=l) (fun c hc=>hl c (List.mem_cons_of_mem _ hc)) h1
   rwa [List.append_assoc] at this
theorem cRound_ok {ws:List Way} {k N:Nat} {s:CS} {τ L:Nat→Nat} (h:Flow ws) (hJ:CI ws k s τ L N) (hd:∀ c ∈ qM_ ws ws.length,okc ws s c ∨ k ≤ L (eF ws c)):∃ τ' L' N',CJ ws (k + 1) (qM_ ws ws.length) (vq_ ws s) τ' L' N':=by
 have hJ':CJ ws (k + 1) [] { s with last := -1 } τ L N:=⟨⟨hJ.lf,hJ.lb,hJ.tl,fun v=>by have:=hJ.ll v;omega,hJ.ex,fun c hc=>(hd c hc).imp id fun h=>by omega⟩,by simp,fun _=>by simp,fun h=>by exact absurd h (by show ¬ (0:Int) ≤ -1;omega)⟩
 have:=jY_ h (fun c hc=>hc) hJ'
 rwa [List.nil_append] at this
theorem cIter_ok {ws:List Way} (h:Flow ws):∀ {n k N:Nat} {s:CS} {τ L:Nat→Nat},CJ ws k (qM_ ws ws.length) s τ L N→∃ τ' L' N',CJ ws (k + n) (qM_ ws ws.length) (iter (vq_ ws) n s) τ' L' N'
 | 0,_,N,_,τ,L,hJ=>⟨τ,L,N,hJ⟩
 | n + 1,k,_,_,_,_,hJ=>by
   obtain ⟨τ',L',N',h1⟩:=cRound_ok h hJ.toCI hJ.done
   have:=cIter_ok h (n:=n) h1
   rw [show k + 1 + n = k + (n + 1) by omega] at this
   exact this
theorem cAll_ok {ws:List Way} (h:Flow ws):∃ τ L N,CJ ws 13 (qM_ ws ws.length) (cAll ws) τ L N:=by
 obtain ⟨τ,L,N,h1⟩:=cRound_ok (ws:=ws) (k:=0) (s:=c0) (τ:=fun _=>0) (L:=fun _=>0) (N:=1) h ⟨by simp [c0],by simp [c0],fun v=>by omega,fun v=>by omega,fun v hv=>by omega,fun c _ => .inr (by omega)⟩ fun c _ => .inr (by omega)
 obtain ⟨τ',L',N',h2⟩:=cIter_ok h (n:=12) h1
 exact ⟨τ',L',N',h2⟩
theorem php:∀ {n:Nat} (g:Nat→Nat),(∀ k,k ≤ n→g k < n)→∃ i j,i < j∧j ≤ n∧g i = g j
 | 0,g,h=>absurd (h 0 (Nat.le_refl _)) (by omega)
 | n + 1,g,h=>by
   by_cases hd:∃ i,i ≤ n∧g i = g (n + 1)
   · obtain ⟨i,h1,h2⟩:=hd
     exact ⟨i,n + 1,by omega,by omega,h2⟩
   · have hn:∀ i,i ≤ n→g i ≠ g (n + 1):=fun i h1 h2=>hd ⟨i,h1,h2⟩
     obtain ⟨i,j,h1,h2,h3⟩:=php (n:=n) (fun k=>if g k = n then g (n + 1) else g k) fun k hk=>by
      have a1:=h k (by omega)
      have a2:=h (n + 1) (by omega)
      have a3:=hn k hk
      show (if g k = n then g (n + 1) else g k) < n
      split <;> omega
     have a1:=hn i (by omega)
     have a2:=hn j (by omega)
     refine ⟨i,j,h1,by omega,?_⟩
     have h4:(if g i = n then g (n + 1) else g i) = if g j = n then g (n + 1) else g j:=h3
     split at h4 <;> split at h4 <;> omega
theorem qX_ {α:Type} (f:α→α):∀ (m n:Nat) (a:α),iter f (m + n) a = iter f n (iter f m a)
 | 0,n,a=>by rw [Nat.zero_add];rfl
 | m + 1,n,a=>by rw [show m + 1 + n = (m + n) + 1 by omega];exact qX_ f m n (f a)
theorem qx_ {α:Type} (f:α→α) (n:Nat) (a:α):iter f (n + 1) a = f (iter f n a):=qX_ f n 1 a
inductive Rn (f:Nat→Nat) (a:Nat):Nat→List Nat→Prop
 | last {x:Nat}:f x = a→Rn f a x [x]
 | step {x:Nat} {l:List Nat}:f x ≠ a→Rn f a (f x) l→Rn f a x (x :: l)
theorem Rn.det {f:Nat→Nat} {a:Nat}:∀ {x:Nat} {l k:List Nat},Rn f a x l→Rn f a x k→l = k
 | _,_,_, .last _, .last _=>rfl
 | _,_,_, .last h, .step h' _=>absurd h h'
 | _,_,_, .step h _, .last h'=>absurd h' h
 | _,_,_, .step _ h, .step _ h'=>by rw [h.det h']
theorem Rn.suf {f:Nat→Nat} {a:Nat}:∀ {x:Nat} {l:List Nat},Rn f a x l→∀ z ∈ l,∃ k,Rn f a z k∧k.length ≤ l.length
 | _,_, .last h,z,hz=>by rw [List.mem_singleton.1 hz];exact ⟨_, .last h,Nat.le_refl _⟩
 | _,_, .step h h',z,hz=>by
   rcases List.mem_cons.1 hz with e | e
   · rw [e];exact ⟨_, .step h h',Nat.le_refl _⟩
   · obtain ⟨k,h1,h2⟩:=h'.suf z e
     exact ⟨k,h1,by rw [List.length_cons];omega⟩
theorem Rn.nodup {f:Nat→Nat} {a:Nat}:∀ {x:Nat} {l:List Nat},Rn f a x l→l.Pairwise (· ≠ ·)
 | _,_, .last _=>List.pairwise_cons.2 ⟨by simp,List.Pairwise.nil⟩
 | _,_, .step h h'=>List.pairwise_cons.2 ⟨fun z hz e=>by
    subst e
    obtain ⟨k,h1,h2⟩:=h'.suf _ hz
    have:=(Rn.step h h').det h1
    rw [← this,List.length_cons] at h2
    omega,h'.nodup⟩
theorem Rn.ex {f:Nat→Nat} {a:Nat}:∀ {m x:Nat},iter f (m + 1) x = a→∃ l,Rn f a x l∧l.length ≤ m + 1
 | 0,x,h=>⟨[x], .last h,Nat.le_refl _⟩
 | m + 1,x,h=>by
   by_cases e:f x = a
   · exact ⟨[x], .last e,by simp⟩
   · obtain ⟨l,h1,h2⟩:=Rn.ex (m:=m) (x:=f x) h
     exact ⟨x :: l, .step e h1,by rw [List.length_cons];omega⟩
theorem Rn.mem {f:Nat→Nat} {a:Nat}:∀ {x:Nat} {l:List Nat},Rn f a x l→∀ z ∈ l,∃ j,z = iter f j x
 | _,_, .last _,z,hz=>⟨0,List.mem_singleton.1 hz⟩
 | _,_, .step _ h',z,hz=>by
   rcases List.mem_cons.1 hz with e | e
   · exact ⟨0,e⟩
   · obtain ⟨j,h1⟩:=h'.mem z e
     exact ⟨j + 1,h1⟩
theorem Rn.ne {f:Nat→Nat} {a x:Nat} {l:List Nat} (h:Rn f a x l):x ∈ l:=by cases h <;> simp
theorem cycle_ok {ws:List Way} (h:Flow ws) (hl:0 ≤ (cAll ws).last):∃ l a,cycle ws (cAll ws) = some l∧l ≠ []∧l.length ≤ 13∧Chn ws l a a∧(∀ c ∈ l,c ∈ qM_ ws ws.length)∧Once l∧cs ws l < 0:=by
 obtain ⟨τ,L,N,hJ⟩:=cAll_ok h
 obtain ⟨hv,hL⟩:=hJ.yes hl
 obtain ⟨s,hs⟩:∃ s,cAll ws = s:=⟨_,rfl⟩
 rw [hs] at hJ hl hv hL ⊢
 obtain ⟨v,hv'⟩:∃ v,s.last.toNat = v:=⟨_,rfl⟩
 obtain ⟨f,hf⟩:∃ f:Nat→Nat,f = fun at_=>eF ws (cby s at_):=⟨_,rfl⟩
 have hfx:∀ x,eF ws (cby s x) = f x:=fun x=>by rw [hf]
 rw [hv'] at hv hL
 have hX:∀ j,j ≤ 12→13 ≤ L (iter f j v) + j∧iter f j v < 12:=by
  intro j
  induction j with
  | zero=>intro _;exact ⟨by show 13 ≤ L v + 0;omega,hv⟩
  | succ j ih=>
    intro hj
    obtain ⟨h1,h2⟩:=ih (by omega)
    obtain ⟨k1,k2,k3,k4,k5⟩:=hJ.ex (iter f j v) (by omega)
    rw [hfx] at k5
    rw [qx_]
    have:=ends_lt h k1
    rw [hfx] at this
    exact ⟨by omega,this.1⟩
 obtain ⟨i,j,hij,hj,he⟩:=php (n:=12) (fun k=>iter f k v) fun k hk=>(hX k hk).2
 have he:iter f i v = iter f j v:=he
 have hper:∀ n,∃ m,m ≤ 12∧iter f n v = iter f m v:=by
  intro n
  induction n with
  | zero=>exact ⟨0,by omega,rfl⟩
  | succ n ih=>
    obtain ⟨m,h1,h2⟩:=ih
    by_cases e:m = 12
    · refine ⟨i + (13 - j),by omega,?_⟩
      rw [qx_,h2,e,← qx_ f 12 v,show (12:Nat) + 1 = j + (13 - j) by omega,qX_,qX_,he]
    · exact ⟨m + 1,by omega,by rw [qx_,qx_,h2]⟩
 have hgood:∀ n,1 ≤ L (iter f n v):=fun n=>by
  obtain ⟨m,h1,h2⟩:=hper n
  have:=(hX m h1).1
  rw [h2];omega
 obtain ⟨a,ha⟩:∃ a,iter f 12 v = a:=⟨_,rfl⟩
 have hcyc:iter f (j - i - 1 + 1) a = a:=by
  rw [← ha,← qX_,show 12 + (j - i - 1 + 1) = j + (12 - i) by omega,qX_,← he,← qX_,show i + (12 - i) = 12 by omega]
 obtain ⟨l,hR,hlen⟩:=Rn.ex hcyc
 have hg:∀ z ∈ l,1 ≤ L z:=fun z hz=>by
  obtain ⟨q,h1⟩:=hR.mem z hz
  rw [h1,← ha,← qX_];exact hgood _
 have hga:1 ≤ L a:=by rw [← ha];exact hgood _
 have hchn:∀ {x:Nat} {l:List Nat},Rn f a x l→(∀ z ∈ l,1 ≤ L z)→Chn ws (l.map (cby s)) a x∧fr s a + cs ws (l.map (cby s)) ≤ fr s x∧(τ x ≤ τ a→fr s a + cs ws (l.map (cby s)) < fr s x):=by
  intro x l hR
  induction hR with
  | last h1=>
    intro hg
    obtain ⟨_,k2,k3,k4,_⟩:=hJ.ex _ (hg _ (List.mem_cons_self ..))
    rw [hfx,h1] at k3 k4
    refine ⟨⟨k2,by rw [hfx,h1];rfl⟩,?_,fun ht=>?_⟩
    · simp only [List.map_cons,List.map_nil,vJ_];simp [cs];exact k3
    · simp only [List.map_cons,List.map_nil,vJ_];simp [cs];exact k4 ht
  | @step x l h1 h2 ih=>
    intro hg
    obtain ⟨i1,i2,i3⟩:=ih fun z hz=>hg z (List.mem_cons_of_mem _ hz)
    obtain ⟨_,k2,k3,k4,_⟩:=hJ.ex x (hg _ (List.mem_cons_self ..))
    rw [hfx] at k3 k4
    refine ⟨⟨k2,by rw [hfx];exact i1⟩,?_,fun ht=>?_⟩
    · rw [List.map_cons,vJ_];omega
    · rw [List.map_cons,vJ_]
      by_cases e:τ x ≤ τ (f x)
      · have:=k4 e;omega
      · have:=i3 (by omega);omega
 obtain ⟨c1,_,c3⟩:=hchn hR hg
 have c3:=c3 (Nat.le_refl _)
 have hrd:∀ {n x:Nat} {l:List Nat},Rn f a x l→l.length ≤ n→round ws s.by_ a n x = some (l.map (cby s)):=by
  intro n
  induction n with
  | zero=>intro x l hR hn;cases hR <;> simp at hn
  | succ n ih=>
    intro x l hR hn
    rw [round,show (s.by_.getD x Cg.z) = cby s x from rfl,hfx]
    cases hR with
    | last h1=>rw [if_pos h1];rfl
    | step h1 h2=>rw [if_neg h1,ih h2 (by simpa using hn)];rfl
 refine ⟨l.map (cby s),a,?_,by have:=hR.ne;intro e;rw [List.map_eq_nil_iff] at e;rw [e] at this;simp at this,by rw [List.length_map];omega,c1,fun c hc=>?_,?_,by omega⟩
 · show round ws s.by_ (iter (fun at_=>eF ws (s.by_.getD at_ Cg.z)) 12 s.last.toNat) 13 _ = _
   rw [show (iter (fun at_=>eF ws (s.by_.getD at_ Cg.z)) 12 s.last.toNat) = a from by rw [hv',← ha,hf];rfl]
   exact hrd hR (by omega)
 · obtain ⟨z,hz,rfl⟩:=List.mem_map.1 hc
   exact (hJ.ex z (hg z hz)).1
 · have hnd:=hR.nodup
   refine List.pairwise_map.2 (hnd.imp_of_mem fun {x y} hx hy hne e=>?_)
   obtain ⟨p1,p2,p3,p4,_⟩:=hJ.ex x (hg x hx)
   obtain ⟨q1,q2,q3,q4,_⟩:=hJ.ex y (hg y hy)
   have hC:(cby s x).more = (cby s y).more ∨ (cby s x).more = !(cby s y).more:=by cases (cby s x).more <;> cases (cby s y).more <;> simp
   rcases hC with hC | hC
   · have:cby s x = cby s y:=by
      cases hcx:cby s x;cases hcy:cby s y
      rw [hcx,hcy] at hC e
      simp only at hC e
      rw [hC,e]
     rw [this,q2] at p2
     exact hne p2.symm
   · have e1:eC ws (cby s x) = -eC ws (cby s y)∧eF ws (cby s x) = eT ws (cby s y)∧eT ws (cby s x) = eF ws (cby s y):=by
      simp only [eC,eF,eT,hC,e]
      cases (cby s y).more <;> simp
     rw [e1.2.1,q2,e1.1] at p3 p4
     rw [← e1.2.2,p2] at q3 q4
     by_cases ht:τ x ≤ τ y
     · have:=p4 ht;omega
     · have:=q4 (by omega);omega
end Go.Proofs.LS