/- Parts of the proof of a law of layer 11 (file): LbF3. The conditions stand in each theorem. -/
import Derived.Test.YtffjknkcogmnbaaGreatDoorProg
import Derived.Test.YtffjknkcogmnbaaGreatDoorSpbf
set_option linter.all false
set_option linter.unusedVariables false
set_option linter.unusedSimpArgs false
namespace Go.Proofs.LS
open Go.RowKit Go.Sort Go.Proofs.LF Go.Proofs.LB
set_option maxHeartbeats 4000000
set_option maxRecDepth 100000
attribute [local go_sem] q1_ q2_ q6_
theorem yX_ {F:Fence} {n:Nat} {P:Program} {ops:Array Oper} {Q:Exit→Act→World→Prop} {md:Region.Mode} {S:World→Prop} {i j k:Nat} {oi oj ok:Oper} {fuel:Nat} {listed:Array Bool} {a:Act} {w:World} (hr:Region.ready md ops listed = [i,j,k]) (hi:ops[i]? = some oi) (hj:ops[j]? = some oj) (hk:ops[k]? = some ok)
 (hwi:Region.wanted oi (yielded ops a.tmps) = true) (hwj:Region.wanted oj (yielded ops a.tmps) = true) (hwk:Region.wanted ok (yielded ops a.tmps) = true)
 (h1:∀ K:Act→World→Prop,(∀ a w,S w∧k6_ F n P md ops Q S fuel (listed.setIfInBounds i true) a w→K a w)→Oper.wpIn F n P oi a w K Q)
 (h2:∀ K:Act→World→Prop,(∀ a w,S w∧k6_ F n P md ops Q S fuel (listed.setIfInBounds j true) a w→K a w)→Oper.wpIn F n P oj a w K Q)
 (h3:∀ K:Act→World→Prop,(∀ a w,S w∧k6_ F n P md ops Q S fuel (listed.setIfInBounds k true) a w→K a w)→Oper.wpIn F n P ok a w K Q):k6_ F n P md ops Q S (fuel + 1) listed a w:=
 ⟨fun h0=>(by rw [hr] at h0;cases h0),hr ▸ fun x hx=>by
   simp only [List.mem_cons,List.not_mem_nil,or_false] at hx
   rcases hx with rfl | rfl | rfl
   · unfold wpOpIn
     rw [hi]
     simp only [hwi,if_true]
     exact h1 _ fun _ _ h=>h
   · unfold wpOpIn
     rw [hj]
     simp only [hwj,if_true]
     exact h2 _ fun _ _ h=>h
   · unfold wpOpIn
     rw [hk]
     simp only [hwk,if_true]
     exact h3 _ fun _ _ h=>h⟩
theorem wv_ {fn:Func} {p u:Tmp} {ty:TypeId} (h:fn.results = #[.cell p ty, .tmp u]) (tmps:Array Value) (P:Program) (w:World):(results fn tmps).run P w = ((asAddr (tmps.getD p undef)).run P w).andThen fun a w₁=>((loadVar ty a).run P w₁).andThen fun x w₂ => .ok (.tuple #[x,tmps.getD u undef]) w₂:=by
 simp only [results,h]
 simp [Sem.run_bind,Result.andThen]
theorem ret60t {fn:Func} {p u:Tmp} (hr:fn.results = #[.cell p 60, .tmp u]) {tmps:Array Value} {W:World} {q:Nat} {a b x:Value} (h:W.heap[q]? = some (.cells #[a,b] 60 (0,0))) (h1:tmps.getD p undef = .pointer (some ⟨q,0,none⟩)) (h2:tmps.getD u undef = x):(results fn tmps).run Tryz.prog W = .ok (.tuple #[.agg #[a,b],x]) W:=by
 have e0:=cg_ h (k:=0) rfl
 have e1:=cg_ h (k:=1) rfl
 rw [wv_ hr,h1,h2]
 simp [go_sem,e0,e1]
theorem xu_ (C:List Sp):(zA_ C).length = C.length * 2:=by
 induction C with
 | nil=>rfl
 | cons x r ih=>simp only [zA_,List.flatMap_cons,List.length_append,List.length_cons] at ih ⊢;rw [ih];simp [spC];omega
theorem xh_ (v:Sp):∀ (C:List Sp) (t:Nat),((zA_ C).set (t * 2) (.int .i64 v.lo)).set (t * 2 + 1) (.int .i64 v.hi) = if t < C.length then zA_ (C.set t v) else (zA_ C)
 | [],t=>by simp [zA_]
 | x :: r,0=>by simp [zA_,spC]
 | x :: r,t + 1=>by
   have ih:=xh_ v r t
   have e:zA_ (x :: r) = .int .i64 x.lo :: .int .i64 x.hi :: zA_ r:=rfl
   have s2:∀ (a b:Value) (L:List Value) (m:Nat) (v:Value),(a :: b :: L).set (m + 2) v = a :: b :: L.set m v:=fun _ _ _ _ _=>rfl
   rw [e,show (t + 1) * 2 = t * 2 + 2 by omega,show t * 2 + 2 + 1 = (t * 2 + 1) + 2 by omega,s2,s2,ih]
   simp only [List.length_cons,Nat.add_lt_add_iff_right,List.set_cons_succ]
   split <;> rfl
theorem va_ {C:List Sp} {t:Nat} {x:Sp} (h:C[t]? = some x):(zA_ C)[t * 2]? = some (.int .i64 x.lo)∧(zA_ C)[t * 2 + 1]? = some (.int .i64 x.hi):=by
 induction C generalizing t with
 | nil=>simp at h
 | cons y r ih=>
   cases t with
   | zero=>
     obtain rfl:y = x:=by simpa using h
     exact ⟨rfl,rfl⟩
   | succ t=>
     have:=ih (by simpa using h)
     rw [show (t + 1) * 2 = t * 2 + 2 by omega,show t * 2 + 2 + 1 = t * 2 + 1 + 2 by omega]
     exact this
theorem Weigh_any (S:List St) (C:List Sp) (t:Nat) (x wa:Sp) (as_ ac:Option Addr) (cs_ cc:Nat) (w:World) (hs:LSl v3_ (fun b=>b < w.heap.size) w (.slice as_ S.length cs_) S) (hc:LSl vO_ (fun b=>b < w.heap.size) w (.slice ac C.length cc) C) (hO:OkSc S C) (ht:C[t]? = some wa) (hx:jq_ x = true∧x.lo ≤ x.hi) (hw:max wa.lo x.lo ≤ min wa.hi x.hi) :
 Calls Tryz.prog 19 #[.agg #[.slice as_ S.length cs_, .slice ac C.length cc], .int .i64 t, .agg (spC x)] w fun e w'=>∃ a c a' c',e = .returned (.tuple #[.agg #[.slice a S.length c, .slice a' C.length c'], .int .i64 0])∧LSl v3_ (fun b=>b < w'.heap.size) w' (.slice a S.length c) S∧LSl vO_ (fun b=>b < w'.heap.size) w' (.slice a' C.length c') (C.set t ⟨max wa.lo x.lo,min wa.hi x.hi⟩)∧Below w.heap.size w w':=by
 have hOs:=hO.s
 have hOc:=hO.c
 have htl:t < C.length:=(List.getElem?_eq_some_iff.1 ht).1
 obtain ⟨w3,hw3⟩:∃ y,((w.alloc (.cells #[.slice as_ S.length cs_, .slice ac C.length cc] 60)).alloc (.cells (spC x) 35)).alloc (.cells #[.slice none 0 0, .slice none 0 0] 60) = y:=⟨_,rfl⟩
 have hb3:Below w.heap.size w w3:=by rw [← hw3];exact (((Below.refl _ _).alloc (nl_ _) _).alloc (by simp) _).alloc (by simp;omega) _
 have r1:w3.heap[w.heap.size]? = some (.cells #[.slice as_ S.length cs_, .slice ac C.length cc] 60 (0,0)):=by rw [← hw3];exact qc_ _ (qc_ _ (ha_ _ _))
 have r2:w3.heap[w.heap.size + 1]? = some (.cells (spC x) 35 (0,0)):=by rw [← hw3];have:=qc_ (.cells #[.slice none 0 0, .slice none 0 0] 60) (ha_ (w.alloc (.cells #[.slice as_ S.length cs_, .slice ac C.length cc] 60)) (.cells (spC x) 35));simpa using this
 have r3:w3.heap[w.heap.size + 1 + 1]? = some (.cells #[.slice none 0 0, .slice none 0 0] 60 (0,0)):=by rw [← hw3];have:=ha_ ((w.alloc (.cells #[.slice as_ S.length cs_, .slice ac C.length cc] 60)).alloc (.cells (spC x) 35)) (.cells #[.slice none 0 0, .slice none 0 0] 60);simpa using this
 obtain ⟨b3,hb3'⟩:∃ y,w.heap.size = y:=⟨_,rfl⟩
 obtain ⟨b5,hb5'⟩:∃ y,b3 + 1 = y:=⟨_,rfl⟩
 obtain ⟨b6,hb6'⟩:∃ y,b5 + 1 = y:=⟨_,rfl⟩
 have HB3:=hid hb3'
 rw [hb3'] at r1 r2 r3 hb3
 rw [hb5'] at r2 r3
 rw [hb6'] at r3
 have hl3:=(ge_ r3).1
 have R1:=hid r1
 have R2:=hid r2
 have R3:=hid r3
 have BW:=hid hb3
 have HS:=hid (hs.on (HB3.out ▸ hb3))
 have HC:=hid (hc.on (HB3.out ▸ hb3))
 have CK:=hid (fun (W:World) (h:Below w3.heap.size w3 W)=>yL_ S C as_ ac cs_ cc (fun b=>b < W.heap.size) W (HS.out.on h) (HC.out.on h) (fun _ e=>e) hO)
 have h35:b3 < b5∧b5 < b6:=by omega
 have HO:=hid hO
 have HT:=hid ht
 have HX:=hid hx
 have HW:=hid hw
 have hxx:=hx.1
 clear hs hc hO ht hx hw r1 r2 r3 hb3
 have c0:=cg_ R1.out (k:=0) (v := .slice as_ S.length cs_) rfl
 have c1:=cg_ R1.out (k:=1) (v := .slice ac C.length cc) rfl
 have x0:=cg_ R2.out (k:=0) (v := .int .i64 x.lo) rfl
 have x1:=cg_ R2.out (k:=1) (v := .int .i64 x.hi) rfl
 go_enter Tryz.func19,Tryz.ntmps19
 unfold spC at hw3
 simp only [spC]
 go_upto_region 1 with fail
 try rw [hw3]
 try simp only [hb3',hb5',hb6']
 clear hw3 hb3' hb5' hb6'
 go_wp2_with fail
 refine (CK.out w3 (Below.refl _ _)).mono ?_
 rintro e w4 ⟨rfl,hb⟩
 have B4:=hid hb
 have TN:=hid (x8_ as_ ac S.length C.length cs_ cc t w4 (by omega) (by omega))
 replace c0:=bc_ hb (by omega) c0
 replace c1:=bc_ hb (by omega) c1
 replace x0:=bc_ hb (by omega) x0
 replace x1:=bc_ hb (by omega) x1
 clear CK hb
 go_wp2_with fail
 refine TN.out.mono ?_
 rintro e w5 ⟨rfl,hb⟩
 have hin:inI (t:Int) 0 ((C.length:Int) - 1) = true:=by simp [inI];omega
 rw [hin]
 have hz4:=B4.out.size
 replace c0:=bc_ hb (by omega) c0
 replace c1:=bc_ hb (by omega) c1
 replace x0:=bc_ hb (by omega) x0
 replace x1:=bc_ hb (by omega) x1
 have B5:=hid (B4.out.trans (hb.mono B4.out.size))
 have AL:=hid (vz_ x w5)
 rw [hxx] at AL
 unfold spC at AL
 clear TN hb B4 hin hz4
 go_wp2_with fail
 refine AL.out.mono ?_
 rintro e w6 ⟨rfl,hb⟩
 have hz5:=B5.out.size
 replace c0:=bc_ hb (by omega) c0
 replace c1:=bc_ hb (by omega) c1
 replace x0:=bc_ hb (by omega) x0
 replace x1:=bc_ hb (by omega) x1
 have B6:=hid (B5.out.trans (hb.mono B5.out.size))
 have hgt:¬ x.hi < x.lo:=by have:=HX.out.2;omega
 have hgt':decide (x.hi < x.lo) = false:=by simp;omega
 clear AL hb B5 hz5
 obtain ⟨gc,oc,rfl,hgc,p0,p1⟩:=sp_at (HC.out.on B6.out) HT.out
 have hti:(0:Int) ≤ (t:Int)∧(t:Int) < (C.length:Int):=by omega
 obtain ⟨w7,hw7⟩:∃ y,w6.alloc (.cells #[.int .i64 wa.lo, .int .i64 wa.hi] 35) = y:=⟨_,rfl⟩
 have hb7:Below w6.heap.size w6 w7:=by rw [← hw7];exact (Below.refl _ _).alloc (nl_ _) _
 have hn7:w7.heap[w6.heap.size]? = some (.cells #[.int .i64 wa.lo, .int .i64 wa.hi] 35 (0,0)):=by rw [← hw7];exact ha_ _ _
 obtain ⟨b9,hb9⟩:∃ y,w6.heap.size = y:=⟨_,rfl⟩
 rw [hb9] at hn7
 have hz6:=B6.out.size
 have B7:=hid (B6.out.trans (hb7.mono B6.out.size))
 have N7:=hid hn7
 have X0:=hid (bc_ hb7 (by omega) x0)
 have X1:=hid (bc_ hb7 (by omega) x1)
 have hl7:=(ge_ hn7).1
 clear hb7 hn7
 go_upto_region 11 with fail
 try rw [hw7]
 try simp only [hb9]
 have hb5l:b5 < w7.heap.size:=by have:=B7.out.size;omega
 clear hw7 hb9 p0 p1 x0 x1 c0 c1 hz6 hgt hgt'
 obtain ⟨lo,hlo⟩:∃ z:Int,max wa.lo x.lo = z:=⟨_,rfl⟩
 obtain ⟨hi,hhi⟩:∃ z:Int,min wa.hi x.hi = z:=⟨_,rfl⟩
 rw [hlo,hhi] at HW
 have HLO:=hid hlo
 have HHI:=hid hhi
 clear hlo hhi
 have SC:=hid (fun (V:World) (h:Below w7.heap.size w7 V)=>show V.cell? ⟨b9,0,none⟩ = some (.int .i64 wa.lo)∧V.cell? ⟨b9,1,none⟩ = some (.int .i64 wa.hi)∧V.cell? ⟨b5,0,none⟩ = some (.int .i64 x.lo)∧V.cell? ⟨b5,1,none⟩ = some (.int .i64 x.hi) from ⟨cg_ (q0_ N7.out h) (k:=0) rfl,cg_ (q0_ N7.out h) (k:=1) rfl,bc_ h hb5l X0.out,bc_ h hb5l X1.out⟩)
 go_cut [10] from 42 to 53 (fun v wx=>∃ b10,v = .pointer (some ⟨b10,0,none⟩)∧Hid (wx.heap[b10]? = some (.cells #[.int .i64 lo, .int .i64 hi] 35 (0,0)))∧Hid (Below w7.heap.size w7 wx))
 case first=>
  refine (wpIn_wide (n:=9)).1 ?_
  refine q8_ (fun V:World=>V.cell? ⟨b9,0,none⟩ = some (.int .i64 wa.lo)∧V.cell? ⟨b9,1,none⟩ = some (.int .i64 wa.hi)∧V.cell? ⟨b5,0,none⟩ = some (.int .i64 x.lo)∧V.cell? ⟨b5,1,none⟩ = some (.int .i64 x.hi)) (by kernel_rfl) ?_
  obtain ⟨W0,hW0⟩:∃ y,w7.drew = y:=⟨_,rfl⟩
  have hB0:Below w7.heap.size w7 W0:=by rw [← hW0];exact (Below.refl _ _).drew
  have B0:=hid hB0
  have hS0:=SC.out W0 hB0
  rw [hW0]
  clear hW0 hB0
  refine tkZ 0 42 (.pointer (some ⟨b9,0,none⟩)) rfl rfl hS0 ?_
  refine tkZ 1 43 (.int .i64 wa.lo) rfl rfl hS0 ?_
  refine tkZ 2 44 (.pointer (some ⟨b5,0,none⟩)) rfl rfl hS0 ?_
  refine tkZ 3 45 (.int .i64 x.lo) rfl rfl hS0 ?_
  refine tkY 4 46 (.int .i64 lo) rfl rfl hS0 (fun w' hs=>?_) ?_
  · obtain ⟨q0,q1,q2,q3⟩:=hs
    have:=HLO.out
    go_simp
  refine tkZ 5 47 (.pointer (some ⟨b9,1,none⟩)) rfl rfl hS0 ?_
  refine tkZ 6 48 (.int .i64 wa.hi) rfl rfl hS0 ?_
  refine tkZ 7 49 (.pointer (some ⟨b5,1,none⟩)) rfl rfl hS0 ?_
  refine tkZ 8 50 (.int .i64 x.hi) rfl rfl hS0 ?_
  clear hS0
  refine LF.yy_ (i:=9) (j:=12) (by kernel_rfl) rfl rfl (by kernel_rfl) (by kernel_rfl) (fun K hK=>?_) (fun K hK=>?_)
  · go_simp
    obtain ⟨W1,hnew⟩:∃ y,W0.alloc (.cells #[.int .i64 x.hi] 3) = y:=⟨_,rfl⟩
    have hb:Below W0.heap.size W0 W1:=by rw [← hnew];exact (Below.refl _ _).alloc (nl_ _) _
    have hn:W1.heap[W0.heap.size]? = some (.cells #[.int .i64 x.hi] 3 (0,0)):=by rw [← hnew];exact ha_ _ _
    obtain ⟨b51,hbn⟩:∃ b,W0.heap.size = b:=⟨_,rfl⟩
    rw [hbn] at hn
    rw [hnew]
    try simp only [hbn]
    have B1:=hid (B0.out.trans (hb.mono B0.out.size))
    have N51:=hid hn
    refine hK _ _ ⟨SC.out W1 B1.out,?_⟩
    clear hK hb hn hbn hnew
    refine LF.yy_ (i:=10) (j:=12) (by kernel_rfl) rfl rfl (by kernel_rfl) (by kernel_rfl) (fun K hK=>?_) (fun K hK=>?_)
    · have LE:=hid (xW_ wa.hi x.hi b51 0 1 W1 (cg_ N51.out (k:=0) rfl))
      go_simp
      refine ⟨trivial,(callsIn_wide.2 LE.out).mono ?_⟩
      rintro e W2 ⟨rfl,hWe⟩
      subst hWe
      refine hK _ _ ⟨SC.out _ B1.out,?_⟩
      clear hK LE
      have hSn:=SC.out W2 B1.out
      refine tkY 11 53 (.agg #[.int .i64 lo, .int .i64 hi]) rfl rfl hSn (fun w' hs=>?_) ?_
      · have:=HHI.out
        go_simp
      clear hSn
      refine aHO 12 rfl fun K hK=>?_
      go_simp
      obtain ⟨W3,hnew⟩:∃ y,W2.alloc (.cells #[.int .i64 0, .int .i64 0] 35) = y:=⟨_,rfl⟩
      have hb:Below W2.heap.size W2 W3:=by rw [← hnew];exact (Below.refl _ _).alloc (nl_ _) _
      have hn:W3.heap[W2.heap.size]? = some (.cells #[.int .i64 0, .int .i64 0] 35 (0,0)):=by rw [← hnew];exact ha_ _ _
      obtain ⟨b10,hbn⟩:∃ b,W2.heap.size = b:=⟨_,rfl⟩
      rw [hbn] at hn
      rw [hnew]
      try simp only [hbn]
      have B3:=hid (B1.out.trans (hb.mono B1.out.size))
      have Nx3:=hid hn
      have hz10:w7.heap.size ≤ b10:=by have:=B1.out.size;omega
      have M3:=hid (q0_ N51.out hb)
      refine hK _ _ ⟨SC.out W3 B3.out,?_⟩
      clear hK hb hn hbn hnew
      refine aHO 13 rfl fun K hK=>?_
      have z0:=cg_ Nx3.out (k:=0) (v := .int .i64 0) rfl
      have z1:=cg_ Nx3.out (k:=1) (v := .int .i64 0) rfl
      have f0:=cells_frz Nx3.out (k:=0)
      have f1:=cells_frz Nx3.out (k:=1)
      go_simp
      obtain ⟨W4,hnew⟩:∃ y,(W3.setCell ⟨b10,0,none⟩ (.int .i64 lo)).setCell ⟨b10,1,none⟩ (.int .i64 hi) = y:=⟨_,rfl⟩
      have B4:=hid (show Below w7.heap.size w7 W4 by rw [← hnew];exact Below.setCell (Below.setCell B3.out (p:=⟨b10,0,none⟩) hz10 _) (p:=⟨b10,1,none⟩) hz10 _)
      have Nx4:=hid (show W4.heap[b10]? = some (.cells #[.int .i64 lo, .int .i64 hi] 35 (0,0)) by rw [← hnew];exact (q4_ (q4_ Nx3.out)).trans (by rfl))
      rw [hnew]
      refine hK _ _ ⟨SC.out W4 B4.out,?_⟩
      clear hK z0 z1 f0 f1 hnew
      refine q7_ (by kernel_rfl) ?_
      go_simp
      go_wp2_with fail
      go_meet
      case rel=>exact ⟨b10,rfl,Nx4,B4⟩
    · go_simp
      obtain ⟨W5,hnew⟩:∃ y,W1.alloc (.cells #[.int .i64 0, .int .i64 0] 35) = y:=⟨_,rfl⟩
      have hb:Below W1.heap.size W1 W5:=by rw [← hnew];exact (Below.refl _ _).alloc (nl_ _) _
      have hn:W5.heap[W1.heap.size]? = some (.cells #[.int .i64 0, .int .i64 0] 35 (0,0)):=by rw [← hnew];exact ha_ _ _
      obtain ⟨b10,hbn⟩:∃ b,W1.heap.size = b:=⟨_,rfl⟩
      rw [hbn] at hn
      rw [hnew]
      try simp only [hbn]
      have B5:=hid (B1.out.trans (hb.mono B1.out.size))
      have Nx5:=hid hn
      have hz10:w7.heap.size ≤ b10:=by have:=B1.out.size;omega
      have M5:=hid (q0_ N51.out hb)
      refine hK _ _ ⟨SC.out W5 B5.out,?_⟩
      clear hK hb hn hbn hnew
      refine aHO 10 rfl fun K hK=>?_
      have LE:=hid (xW_ wa.hi x.hi b51 0 1 W5 (cg_ M5.out (k:=0) rfl))
      go_simp
      refine ⟨trivial,(callsIn_wide.2 LE.out).mono ?_⟩
      rintro e W6 ⟨rfl,hWe⟩
      subst hWe
      refine hK _ _ ⟨SC.out _ B5.out,?_⟩
      clear hK LE
      have hSn:=SC.out W6 B5.out
      refine tkY 11 53 (.agg #[.int .i64 lo, .int .i64 hi]) rfl rfl hSn (fun w' hs=>?_) ?_
      · have:=HHI.out
        go_simp
      clear hSn
      refine aHO 13 rfl fun K hK=>?_
      have z0:=cg_ Nx5.out (k:=0) (v := .int .i64 0) rfl
      have z1:=cg_ Nx5.out (k:=1) (v := .int .i64 0) rfl
      have f0:=cells_frz Nx5.out (k:=0)
      have f1:=cells_frz Nx5.out (k:=1)
      go_simp
      obtain ⟨W7,hnew⟩:∃ y,(W6.setCell ⟨b10,0,none⟩ (.int .i64 lo)).setCell ⟨b10,1,none⟩ (.int .i64 hi) = y:=⟨_,rfl⟩
      have B7:=hid (show Below w7.heap.size w7 W7 by rw [← hnew];exact Below.setCell (Below.setCell B5.out (p:=⟨b10,0,none⟩) hz10 _) (p:=⟨b10,1,none⟩) hz10 _)
      have Nx7:=hid (show W7.heap[b10]? = some (.cells #[.int .i64 lo, .int .i64 hi] 35 (0,0)) by rw [← hnew];exact (q4_ (q4_ Nx5.out)).trans (by rfl))
      rw [hnew]
      refine hK _ _ ⟨SC.out W7 B7.out,?_⟩
      clear hK z0 z1 f0 f1 hnew
      refine q7_ (by kernel_rfl) ?_
      go_simp
      go_wp2_with fail
      go_meet
      case rel=>exact ⟨b10,rfl,Nx7,B7⟩
  · go_simp
    obtain ⟨W8,hnew⟩:∃ y,W0.alloc (.cells #[.int .i64 0, .int .i64 0] 35) = y:=⟨_,rfl⟩
    have hb:Below W0.heap.size W0 W8:=by rw [← hnew];exact (Below.refl _ _).alloc (nl_ _) _
    have hn:W8.heap[W0.heap.size]? = some (.cells #[.int .i64 0, .int .i64 0] 35 (0,0)):=by rw [← hnew];exact ha_ _ _
    obtain ⟨b10,hbn⟩:∃ b,W0.heap.size = b:=⟨_,rfl⟩
    rw [hbn] at hn
    rw [hnew]
    try simp only [hbn]
    have B8:=hid (B0.out.trans (hb.mono B0.out.size))
    have Nx8:=hid hn
    have hz10:w7.heap.size ≤ b10:=by have:=B0.out.size;omega
    refine hK _ _ ⟨SC.out W8 B8.out,?_⟩
    clear hK hb hn hbn hnew
    refine aHO 9 rfl fun K hK=>?_
    go_simp
    obtain ⟨W9,hnew⟩:∃ y,W8.alloc (.cells #[.int .i64 x.hi] 3) = y:=⟨_,rfl⟩
    have hb:Below W8.heap.size W8 W9:=by rw [← hnew];exact (Below.refl _ _).alloc (nl_ _) _
    have hn:W9.heap[W8.heap.size]? = some (.cells #[.int .i64 x.hi] 3 (0,0)):=by rw [← hnew];exact ha_ _ _
    obtain ⟨b51,hbn⟩:∃ b,W8.heap.size = b:=⟨_,rfl⟩
    rw [hbn] at hn
    rw [hnew]
    try simp only [hbn]
    have B9:=hid (B8.out.trans (hb.mono B8.out.size))
    have N51:=hid hn
    have Nx9:=hid (q0_ Nx8.out hb)
    refine hK _ _ ⟨SC.out W9 B9.out,?_⟩
    clear hK hb hn hbn hnew
    refine aHO 10 rfl fun K hK=>?_
    have LE:=hid (xW_ wa.hi x.hi b51 0 1 W9 (cg_ N51.out (k:=0) rfl))
    go_simp
    refine ⟨trivial,(callsIn_wide.2 LE.out).mono ?_⟩
    rintro e W10 ⟨rfl,hWe⟩
    subst hWe
    refine hK _ _ ⟨SC.out _ B9.out,?_⟩
    clear hK LE
    have hSn:=SC.out W10 B9.out
    refine tkY 11 53 (.agg #[.int .i64 lo, .int .i64 hi]) rfl rfl hSn (fun w' hs=>?_) ?_
    · have:=HHI.out
      go_simp
    clear hSn
    refine aHO 13 rfl fun K hK=>?_
    have z0:=cg_ Nx9.out (k:=0) (v := .int .i64 0) rfl
    have z1:=cg_ Nx9.out (k:=1) (v := .int .i64 0) rfl
    have f0:=cells_frz Nx9.out (k:=0)
    have f1:=cells_frz Nx9.out (k:=1)
    go_simp
    obtain ⟨W11,hnew⟩:∃ y,(W10.setCell ⟨b10,0,none⟩ (.int .i64 lo)).setCell ⟨b10,1,none⟩ (.int .i64 hi) = y:=⟨_,rfl⟩
    have B11:=hid (show Below w7.heap.size w7 W11 by rw [← hnew];exact Below.setCell (Below.setCell B9.out (p:=⟨b10,0,none⟩) hz10 _) (p:=⟨b10,1,none⟩) hz10 _)
    have Nx11:=hid (show W11.heap[b10]? = some (.cells #[.int .i64 lo, .int .i64 hi] 35 (0,0)) by rw [← hnew];exact (q4_ (q4_ Nx9.out)).trans (by rfl))
    rw [hnew]
    refine hK _ _ ⟨SC.out W11 B11.out,?_⟩
    clear hK z0 z1 f0 f1 hnew
    refine q7_ (by kernel_rfl) ?_
    go_simp
    go_wp2_with fail
    go_meet
    case rel=>exact ⟨b10,rfl,Nx11,B11⟩
 case rest=>
  obtain ⟨b10,rfl,N10,B8⟩:=hcut
  obtain ⟨w8,hw8⟩:∃ v,v = wc:=⟨_,rfl⟩
  subst hw8
  have hng:¬ hi < lo:=by have:=HW.out;omega
  have hng':decide (hi < lo) = false:=by simp;exact HW.out
  have c0:=cg_ N10.out (k:=0) (v := .int .i64 lo) rfl
  have c1:=cg_ N10.out (k:=1) (v := .int .i64 hi) rfl
  have B9:=hid (B7.out.trans (B8.out.mono B7.out.size))
  have hz8:=B9.out.size
  have hb10:=(ge_ N10.out).1
  clear SC X0 X1 N7 B7
  go_upto_region 14 with fail
  clear c0 c1 hng hng'
  have s0:=cg_ (q0_ R1.out B9.out) (k:=0) (v := .slice as_ S.length cs_) rfl
  have s1:=cg_ (q0_ R1.out B9.out) (k:=1) (v := .slice (some ⟨gc,oc,none⟩) C.length cc) rfl
  have hb3l:b3 < w8.heap.size:=by omega
  have HLS:=hid (fun (V:World) (h:Below w8.heap.size w8 V)=>(show SlC (fun q=>q < V.heap.size) V 7 (.slice as_ S.length cs_) S.length (stL S) from by obtain ⟨cs,h1,h2⟩:=HS.out.on (B9.out.trans (h.mono B9.out.size));rwa [vB_ h2] at h1))
  have SC:=hid (fun (V:World) (h:Below w8.heap.size w8 V)=>show V.cell? ⟨b3,0,none⟩ = some (.slice as_ S.length cs_)∧V.cell? ⟨b3,1,none⟩ = some (.slice (some ⟨gc,oc,none⟩) C.length cc) from ⟨bc_ h hb3l s0,bc_ h hb3l s1⟩)
  obtain ⟨i35,hi35,hy0,hy1,hy2⟩:=info_parts Tryz.info35
  have MK:=hid (fun W=>zH_ (P:=Tryz.prog) 50 35 i35 _ Tryz.underlying50 hi35 hy0 .i64 .i64 C.length C.length (nl_ _) (by rw [hy2];omega) (by omega) W)
  rw [hy1] at MK
  clear s0 s1
  go_cut [11] from 60 to 67 (fun v wx=>∃ (b11 bm:Nat) (a:Option Addr) (c:Nat) (cur:Array Value),v = .pointer (some ⟨b11,0,none⟩)∧cur.size = C.length * 2∧(w8.heap.size ≤ b11∧w8.heap.size ≤ bm∧bm ≠ b11)∧((Value.slice a S.length c).ownBlock ≠ some bm∧(Value.slice a S.length c).ownBlock ≠ some b11)∧Hid (wx.heap[b11]? = some (.cells #[.slice a S.length c, .slice (some ⟨bm,0,none⟩) C.length C.length] 60 (0,0)))∧Hid (wx.heap[bm]? = some (.cells cur 35 (0,0)))∧Hid (wx.ownsRow w8.heap.size 72 7 (.slice a S.length c) S.length (stL S))∧Hid (Below w8.heap.size w8 wx))
  case first=>
   refine (wpIn_wide (n:=9)).1 ?_
   refine q8_ (fun V:World=>V.cell? ⟨b3,0,none⟩ = some (.slice as_ S.length cs_)∧V.cell? ⟨b3,1,none⟩ = some (.slice (some ⟨gc,oc,none⟩) C.length cc)) (by kernel_rfl) ?_
   obtain ⟨W0,hW0⟩:∃ y,w8.drew = y:=⟨_,rfl⟩
   have hB0:Below w8.heap.size w8 W0:=by rw [← hW0];exact (Below.refl _ _).drew
   have B0:=hid hB0
   have hS0:=SC.out W0 hB0
   rw [hW0]
   clear hW0 hB0
   refine tkZ 0 60 (.pointer (some ⟨b3,0,none⟩)) rfl rfl hS0 ?_
   refine tkZ 1 61 (.slice as_ S.length cs_) rfl rfl hS0 ?_
   refine tkZ 3 63 (.pointer (some ⟨b3,1,none⟩)) rfl rfl hS0 ?_
   refine tkZ 4 64 (.slice (some ⟨gc,oc,none⟩) C.length cc) rfl rfl hS0 ?_
   refine tkZ 5 65 (.int .i64 C.length) rfl rfl hS0 ?_
   clear hS0
   refine yX_ (i:=2) (j:=6) (k:=8) (by kernel_rfl) rfl rfl rfl (by kernel_rfl) (by kernel_rfl) (by kernel_rfl) (fun K hK=>?_) (fun K hK=>?_) (fun K hK=>?_)
   · have CL:=hid (zq_ S as_ cs_ W0 (HLS.out W0 B0.out) (by omega) (by omega))
     go_simp
     refine ⟨trivial,(callsIn_wide.2 CL.out).mono ?_⟩
     rintro e W101 ⟨a,c,rfl,ho,hb⟩
     have B101:=hid (B0.out.trans (hb.mono B0.out.size))
     have O101:=hid (qp_ (base':=w8.heap.size) ho (fun g hg=>by have:=(ho.lt g hg).1;have:=B0.out.size;omega))
     refine hK _ _ ⟨SC.out W101 B101.out,?_⟩
     clear hK CL ho hb
     refine LF.yy_ (i:=6) (j:=8) (by kernel_rfl) rfl rfl (by kernel_rfl) (by kernel_rfl) (fun K hK=>?_) (fun K hK=>?_)
     · have mk:=MK.out W101
       go_simp
       obtain ⟨cur,hcur⟩:∃ z,madeCells #[.int .i64 0, .int .i64 0] (C.length * 2) = z:=⟨_,rfl⟩
       have hcs:cur.size = C.length * 2:=by rw [← hcur,qs_]
       rw [hcur]
       obtain ⟨W102,hnew⟩:∃ y,W101.alloc (.cells cur 35) = y:=⟨_,rfl⟩
       have hb:Below W101.heap.size W101 W102:=by rw [← hnew];exact (Below.refl _ _).alloc (nl_ _) _
       have hn:W102.heap[W101.heap.size]? = some (.cells cur 35 (0,0)):=by rw [← hnew];exact ha_ _ _
       obtain ⟨bm,hbn⟩:∃ b,W101.heap.size = b:=⟨_,rfl⟩
       rw [hbn] at hn
       rw [hnew]
       try simp only [hbn]
       clear mk hcur
       have B102:=hid (B101.out.trans (hb.mono B101.out.size))
       have hbm:w8.heap.size ≤ bm:=by have:=B101.out.size;omega
       have hvm:(Value.slice a S.length c).ownBlock ≠ some bm:=fun e=>by have:=(O101.out.lt bm e).2;omega
       have Ox102:=hid (ob_ O101.out hb (nl_ _))
       have Mx102:=hid hn
       refine hK _ _ ⟨SC.out W102 B102.out,?_⟩
       clear hK hb hn hbn hnew
       have hSn:=SC.out W102 B102.out
       refine tkY 7 67 (.agg #[.slice a S.length c, .slice (some ⟨bm,0,none⟩) C.length C.length]) rfl rfl hSn (fun w' hs=>?_) ?_
       · go_simp
       clear hSn
       refine aHO 8 rfl fun K hK=>?_
       go_simp
       obtain ⟨W103,hnew⟩:∃ y,W102.alloc (.cells #[.slice none 0 0, .slice none 0 0] 60) = y:=⟨_,rfl⟩
       have hb:Below W102.heap.size W102 W103:=by rw [← hnew];exact (Below.refl _ _).alloc (nl_ _) _
       have hn:W103.heap[W102.heap.size]? = some (.cells #[.slice none 0 0, .slice none 0 0] 60 (0,0)):=by rw [← hnew];exact ha_ _ _
       obtain ⟨b11,hbn⟩:∃ b,W102.heap.size = b:=⟨_,rfl⟩
       rw [hbn] at hn
       rw [hnew]
       try simp only [hbn]
       have B103:=hid (B102.out.trans (hb.mono B102.out.size))
       have hb11:w8.heap.size ≤ b11:=by have:=B102.out.size;omega
       have hne:bm ≠ b11:=by have:=(ge_ Mx102.out).1;omega
       have Mx103:=hid (q0_ Mx102.out hb)
       have hvn:(Value.slice a S.length c).ownBlock ≠ some b11:=fun e=>by have:=(Ox102.out.lt b11 e).2;omega
       have Ox103:=hid (ob_ Ox102.out hb (nl_ _))
       have Nx103:=hid hn
       refine hK _ _ ⟨SC.out W103 B103.out,?_⟩
       clear hK hb hn hbn hnew
       refine aHO 9 rfl fun K hK=>?_
       have z0:=cg_ Nx103.out (k:=0) (v := .slice none 0 0) rfl
       have z1:=cg_ Nx103.out (k:=1) (v := .slice none 0 0) rfl
       have f0:=cells_frz Nx103.out (k:=0)
       have f1:=cells_frz Nx103.out (k:=1)
       go_simp
       obtain ⟨W104,hnew⟩:∃ y,(W103.setCell ⟨b11,0,none⟩ (.slice a S.length c)).setCell ⟨b11,1,none⟩ (.slice (some ⟨bm,0,none⟩) C.length C.length) = y:=⟨_,rfl⟩
       have hkb:Keep (· = b11) W103 W104:=by rw [← hnew];exact (Keep.setCell (O:=(· = b11)) (A:=W103) (p:=⟨b11,0,none⟩) rfl).trans (Keep.setCell (p:=⟨b11,1,none⟩) rfl)
       have B104:=hid (show Below w8.heap.size w8 W104 from B103.out.trans (hkb.below B103.out.size (fun b hb e=>by omega)))
       have Nx104:=hid (show W104.heap[b11]? = some (.cells #[.slice a S.length c, .slice (some ⟨bm,0,none⟩) C.length C.length] 60 (0,0)) by rw [← hnew];exact (q4_ (q4_ Nx103.out)).trans (by rfl))
       have Mx104:=hid ((hkb.block bm (ge_ Mx103.out).1 hne).trans Mx103.out)
       have Ox104:=hid (owns_agree Ox103.out fun g hg=>hkb.block g (Ox103.out.lt g hg).2 (fun e=>hvn (e ▸ hg)))
       rw [hnew]
       refine hK _ _ ⟨SC.out W104 B104.out,?_⟩
       clear hK z0 z1 f0 f1 hnew hkb
       refine q7_ (by kernel_rfl) ?_
       go_simp
       go_wp2_with fail
       go_meet
       case rel=>exact ⟨b11,bm,a,c,cur,rfl,hcs,⟨hb11,hbm,hne⟩,⟨hvm,hvn⟩,Nx104,Mx104,Ox104,B104⟩
     · go_simp
       obtain ⟨W105,hnew⟩:∃ y,W101.alloc (.cells #[.slice none 0 0, .slice none 0 0] 60) = y:=⟨_,rfl⟩
       have hb:Below W101.heap.size W101 W105:=by rw [← hnew];exact (Below.refl _ _).alloc (nl_ _) _
       have hn:W105.heap[W101.heap.size]? = some (.cells #[.slice none 0 0, .slice none 0 0] 60 (0,0)):=by rw [← hnew];exact ha_ _ _
       obtain ⟨b11,hbn⟩:∃ b,W101.heap.size = b:=⟨_,rfl⟩
       rw [hbn] at hn
       rw [hnew]
       try simp only [hbn]
       have B105:=hid (B101.out.trans (hb.mono B101.out.size))
       have hb11:w8.heap.size ≤ b11:=by have:=B101.out.size;omega
       have hvn:(Value.slice a S.length c).ownBlock ≠ some b11:=fun e=>by have:=(O101.out.lt b11 e).2;omega
       have Ox105:=hid (ob_ O101.out hb (nl_ _))
       have Nx105:=hid hn
       refine hK _ _ ⟨SC.out W105 B105.out,?_⟩
       clear hK hb hn hbn hnew
       refine aHO 6 rfl fun K hK=>?_
       have mk:=MK.out W105
       go_simp
       obtain ⟨cur,hcur⟩:∃ z,madeCells #[.int .i64 0, .int .i64 0] (C.length * 2) = z:=⟨_,rfl⟩
       have hcs:cur.size = C.length * 2:=by rw [← hcur,qs_]
       rw [hcur]
       obtain ⟨W106,hnew⟩:∃ y,W105.alloc (.cells cur 35) = y:=⟨_,rfl⟩
       have hb:Below W105.heap.size W105 W106:=by rw [← hnew];exact (Below.refl _ _).alloc (nl_ _) _
       have hn:W106.heap[W105.heap.size]? = some (.cells cur 35 (0,0)):=by rw [← hnew];exact ha_ _ _
       obtain ⟨bm,hbn⟩:∃ b,W105.heap.size = b:=⟨_,rfl⟩
       rw [hbn] at hn
       rw [hnew]
       try simp only [hbn]
       clear mk hcur
       have B106:=hid (B105.out.trans (hb.mono B105.out.size))
       have hbm:w8.heap.size ≤ bm:=by have:=B105.out.size;omega
       have hne:bm ≠ b11:=by have:=(ge_ Nx105.out).1;omega
       have Nx106:=hid (q0_ Nx105.out hb)
       have hvm:(Value.slice a S.length c).ownBlock ≠ some bm:=fun e=>by have:=(Ox105.out.lt bm e).2;omega
       have Ox106:=hid (ob_ Ox105.out hb (nl_ _))
       have Mx106:=hid hn
       refine hK _ _ ⟨SC.out W106 B106.out,?_⟩
       clear hK hb hn hbn hnew
       have hSn:=SC.out W106 B106.out
       refine tkY 7 67 (.agg #[.slice a S.length c, .slice (some ⟨bm,0,none⟩) C.length C.length]) rfl rfl hSn (fun w' hs=>?_) ?_
       · go_simp
       clear hSn
       refine aHO 9 rfl fun K hK=>?_
       have z0:=cg_ Nx106.out (k:=0) (v := .slice none 0 0) rfl
       have z1:=cg_ Nx106.out (k:=1) (v := .slice none 0 0) rfl
       have f0:=cells_frz Nx106.out (k:=0)
       have f1:=cells_frz Nx106.out (k:=1)
       go_simp
       obtain ⟨W107,hnew⟩:∃ y,(W106.setCell ⟨b11,0,none⟩ (.slice a S.length c)).setCell ⟨b11,1,none⟩ (.slice (some ⟨bm,0,none⟩) C.length C.length) = y:=⟨_,rfl⟩
       have hkb:Keep (· = b11) W106 W107:=by rw [← hnew];exact (Keep.setCell (O:=(· = b11)) (A:=W106) (p:=⟨b11,0,none⟩) rfl).trans (Keep.setCell (p:=⟨b11,1,none⟩) rfl)
       have B107:=hid (show Below w8.heap.size w8 W107 from B106.out.trans (hkb.below B106.out.size (fun b hb e=>by omega)))
       have Nx107:=hid (show W107.heap[b11]? = some (.cells #[.slice a S.length c, .slice (some ⟨bm,0,none⟩) C.length C.length] 60 (0,0)) by rw [← hnew];exact (q4_ (q4_ Nx106.out)).trans (by rfl))
       have Mx107:=hid ((hkb.block bm (ge_ Mx106.out).1 hne).trans Mx106.out)
       have Ox107:=hid (owns_agree Ox106.out fun g hg=>hkb.block g (Ox106.out.lt g hg).2 (fun e=>hvn (e ▸ hg)))
       rw [hnew]
       refine hK _ _ ⟨SC.out W107 B107.out,?_⟩
       clear hK z0 z1 f0 f1 hnew hkb
       refine q7_ (by kernel_rfl) ?_
       go_simp
       go_wp2_with fail
       go_meet
       case rel=>exact ⟨b11,bm,a,c,cur,rfl,hcs,⟨hb11,hbm,hne⟩,⟨hvm,hvn⟩,Nx107,Mx107,Ox107,B107⟩
   · have mk:=MK.out W0
     go_simp
     obtain ⟨cur,hcur⟩:∃ z,madeCells #[.int .i64 0, .int .i64 0] (C.length * 2) = z:=⟨_,rfl⟩
     have hcs:cur.size = C.length * 2:=by rw [← hcur,qs_]
     rw [hcur]
     obtain ⟨W108,hnew⟩:∃ y,W0.alloc (.cells cur 35) = y:=⟨_,rfl⟩
     have hb:Below W0.heap.size W0 W108:=by rw [← hnew];exact (Below.refl _ _).alloc (nl_ _) _
     have hn:W108.heap[W0.heap.size]? = some (.cells cur 35 (0,0)):=by rw [← hnew];exact ha_ _ _
     obtain ⟨bm,hbn⟩:∃ b,W0.heap.size = b:=⟨_,rfl⟩
     rw [hbn] at hn
     rw [hnew]
     try simp only [hbn]
     clear mk hcur
     have B108:=hid (B0.out.trans (hb.mono B0.out.size))
     have hbm:w8.heap.size ≤ bm:=by have:=B0.out.size;omega
     have Mx108:=hid hn
     refine hK _ _ ⟨SC.out W108 B108.out,?_⟩
     clear hK hb hn hbn hnew
     refine LF.yy_ (i:=2) (j:=8) (by kernel_rfl) rfl rfl (by kernel_rfl) (by kernel_rfl) (fun K hK=>?_) (fun K hK=>?_)
     · have CL:=hid (zq_ S as_ cs_ W108 (HLS.out W108 B108.out) (by omega) (by omega))
       go_simp
       refine ⟨trivial,(callsIn_wide.2 CL.out).mono ?_⟩
       rintro e W109 ⟨a,c,rfl,ho,hb⟩
       have B109:=hid (B108.out.trans (hb.mono B108.out.size))
       have O109:=hid (qp_ (base':=w8.heap.size) ho (fun g hg=>by have:=(ho.lt g hg).1;have:=B108.out.size;omega))
       have hvm:(Value.slice a S.length c).ownBlock ≠ some bm:=fun e=>by have:=(ho.lt bm e).1;have:=(ge_ Mx108.out).1;omega
       have Mx109:=hid (q0_ Mx108.out hb)
       refine hK _ _ ⟨SC.out W109 B109.out,?_⟩
       clear hK CL ho hb
       have hSn:=SC.out W109 B109.out
       refine tkY 7 67 (.agg #[.slice a S.length c, .slice (some ⟨bm,0,none⟩) C.length C.length]) rfl rfl hSn (fun w' hs=>?_) ?_
       · go_simp
       clear hSn
       refine aHO 8 rfl fun K hK=>?_
       go_simp
       obtain ⟨W110,hnew⟩:∃ y,W109.alloc (.cells #[.slice none 0 0, .slice none 0 0] 60) = y:=⟨_,rfl⟩
       have hb:Below W109.heap.size W109 W110:=by rw [← hnew];exact (Below.refl _ _).alloc (nl_ _) _
       have hn:W110.heap[W109.heap.size]? = some (.cells #[.slice none 0 0, .slice none 0 0] 60 (0,0)):=by rw [← hnew];exact ha_ _ _
       obtain ⟨b11,hbn⟩:∃ b,W109.heap.size = b:=⟨_,rfl⟩
       rw [hbn] at hn
       rw [hnew]
       try simp only [hbn]
       have B110:=hid (B109.out.trans (hb.mono B109.out.size))
       have hb11:w8.heap.size ≤ b11:=by have:=B109.out.size;omega
       have hne:bm ≠ b11:=by have:=(ge_ Mx109.out).1;omega
       have Mx110:=hid (q0_ Mx109.out hb)
       have hvn:(Value.slice a S.length c).ownBlock ≠ some b11:=fun e=>by have:=(O109.out.lt b11 e).2;omega
       have Ox110:=hid (ob_ O109.out hb (nl_ _))
       have Nx110:=hid hn
       refine hK _ _ ⟨SC.out W110 B110.out,?_⟩
       clear hK hb hn hbn hnew
       refine aHO 9 rfl fun K hK=>?_
       have z0:=cg_ Nx110.out (k:=0) (v := .slice none 0 0) rfl
       have z1:=cg_ Nx110.out (k:=1) (v := .slice none 0 0) rfl
       have f0:=cells_frz Nx110.out (k:=0)
       have f1:=cells_frz Nx110.out (k:=1)
       go_simp
       obtain ⟨W111,hnew⟩:∃ y,(W110.setCell ⟨b11,0,none⟩ (.slice a S.length c)).setCell ⟨b11,1,none⟩ (.slice (some ⟨bm,0,none⟩) C.length C.length) = y:=⟨_,rfl⟩
       have hkb:Keep (· = b11) W110 W111:=by rw [← hnew];exact (Keep.setCell (O:=(· = b11)) (A:=W110) (p:=⟨b11,0,none⟩) rfl).trans (Keep.setCell (p:=⟨b11,1,none⟩) rfl)
       have B111:=hid (show Below w8.heap.size w8 W111 from B110.out.trans (hkb.below B110.out.size (fun b hb e=>by omega)))
       have Nx111:=hid (show W111.heap[b11]? = some (.cells #[.slice a S.length c, .slice (some ⟨bm,0,none⟩) C.length C.length] 60 (0,0)) by rw [← hnew];exact (q4_ (q4_ Nx110.out)).trans (by rfl))
       have Mx111:=hid ((hkb.block bm (ge_ Mx110.out).1 hne).trans Mx110.out)
       have Ox111:=hid (owns_agree Ox110.out fun g hg=>hkb.block g (Ox110.out.lt g hg).2 (fun e=>hvn (e ▸ hg)))
       rw [hnew]
       refine hK _ _ ⟨SC.out W111 B111.out,?_⟩
       clear hK z0 z1 f0 f1 hnew hkb
       refine q7_ (by kernel_rfl) ?_
       go_simp
       go_wp2_with fail
       go_meet
       case rel=>exact ⟨b11,bm,a,c,cur,rfl,hcs,⟨hb11,hbm,hne⟩,⟨hvm,hvn⟩,Nx111,Mx111,Ox111,B111⟩
     · go_simp
       obtain ⟨W112,hnew⟩:∃ y,W108.alloc (.cells #[.slice none 0 0, .slice none 0 0] 60) = y:=⟨_,rfl⟩
       have hb:Below W108.heap.size W108 W112:=by rw [← hnew];exact (Below.refl _ _).alloc (nl_ _) _
       have hn:W112.heap[W108.heap.size]? = some (.cells #[.slice none 0 0, .slice none 0 0] 60 (0,0)):=by rw [← hnew];exact ha_ _ _
       obtain ⟨b11,hbn⟩:∃ b,W108.heap.size = b:=⟨_,rfl⟩
       rw [hbn] at hn
       rw [hnew]
       try simp only [hbn]
       have B112:=hid (B108.out.trans (hb.mono B108.out.size))
       have hb11:w8.heap.size ≤ b11:=by have:=B108.out.size;omega
       have hne:bm ≠ b11:=by have:=(ge_ Mx108.out).1;omega
       have Mx112:=hid (q0_ Mx108.out hb)
       have Nx112:=hid hn
       refine hK _ _ ⟨SC.out W112 B112.out,?_⟩
       clear hK hb hn hbn hnew
       refine aHO 2 rfl fun K hK=>?_
       have CL:=hid (zq_ S as_ cs_ W112 (HLS.out W112 B112.out) (by omega) (by omega))
       go_simp
       refine ⟨trivial,(callsIn_wide.2 CL.out).mono ?_⟩
       rintro e W113 ⟨a,c,rfl,ho,hb⟩
       have B113:=hid (B112.out.trans (hb.mono B112.out.size))
       have O113:=hid (qp_ (base':=w8.heap.size) ho (fun g hg=>by have:=(ho.lt g hg).1;have:=B112.out.size;omega))
       have hvm:(Value.slice a S.length c).ownBlock ≠ some bm:=fun e=>by have:=(ho.lt bm e).1;have:=(ge_ Mx112.out).1;omega
       have Mx113:=hid (q0_ Mx112.out hb)
       have hvn:(Value.slice a S.length c).ownBlock ≠ some b11:=fun e=>by have:=(ho.lt b11 e).1;have:=(ge_ Nx112.out).1;omega
       have Nx113:=hid (q0_ Nx112.out hb)
       refine hK _ _ ⟨SC.out W113 B113.out,?_⟩
       clear hK CL ho hb
       have hSn:=SC.out W113 B113.out
       refine tkY 7 67 (.agg #[.slice a S.length c, .slice (some ⟨bm,0,none⟩) C.length C.length]) rfl rfl hSn (fun w' hs=>?_) ?_
       · go_simp
       clear hSn
       refine aHO 9 rfl fun K hK=>?_
       have z0:=cg_ Nx113.out (k:=0) (v := .slice none 0 0) rfl
       have z1:=cg_ Nx113.out (k:=1) (v := .slice none 0 0) rfl
       have f0:=cells_frz Nx113.out (k:=0)
       have f1:=cells_frz Nx113.out (k:=1)
       go_simp
       obtain ⟨W114,hnew⟩:∃ y,(W113.setCell ⟨b11,0,none⟩ (.slice a S.length c)).setCell ⟨b11,1,none⟩ (.slice (some ⟨bm,0,none⟩) C.length C.length) = y:=⟨_,rfl⟩
       have hkb:Keep (· = b11) W113 W114:=by rw [← hnew];exact (Keep.setCell (O:=(· = b11)) (A:=W113) (p:=⟨b11,0,none⟩) rfl).trans (Keep.setCell (p:=⟨b11,1,none⟩) rfl)
       have B114:=hid (show Below w8.heap.size w8 W114 from B113.out.trans (hkb.below B113.out.size (fun b hb e=>by omega)))
       have Nx114:=hid (show W114.heap[b11]? = some (.cells #[.slice a S.length c, .slice (some ⟨bm,0,none⟩) C.length C.length] 60 (0,0)) by rw [← hnew];exact (q4_ (q4_ Nx113.out)).trans (by rfl))
       have Mx114:=hid ((hkb.block bm (ge_ Mx113.out).1 hne).trans Mx113.out)
       have Ox114:=hid (owns_agree O113.out fun g hg=>hkb.block g (O113.out.lt g hg).2 (fun e=>hvn (e ▸ hg)))
       rw [hnew]
       refine hK _ _ ⟨SC.out W114 B114.out,?_⟩
       clear hK z0 z1 f0 f1 hnew hkb
       refine q7_ (by kernel_rfl) ?_
       go_simp
       go_wp2_with fail
       go_meet
       case rel=>exact ⟨b11,bm,a,c,cur,rfl,hcs,⟨hb11,hbm,hne⟩,⟨hvm,hvn⟩,Nx114,Mx114,Ox114,B114⟩
   · go_simp
     obtain ⟨W115,hnew⟩:∃ y,W0.alloc (.cells #[.slice none 0 0, .slice none 0 0] 60) = y:=⟨_,rfl⟩
     have hb:Below W0.heap.size W0 W115:=by rw [← hnew];exact (Below.refl _ _).alloc (nl_ _) _
     have hn:W115.heap[W0.heap.size]? = some (.cells #[.slice none 0 0, .slice none 0 0] 60 (0,0)):=by rw [← hnew];exact ha_ _ _
     obtain ⟨b11,hbn⟩:∃ b,W0.heap.size = b:=⟨_,rfl⟩
     rw [hbn] at hn
     rw [hnew]
     try simp only [hbn]
     have B115:=hid (B0.out.trans (hb.mono B0.out.size))
     have hb11:w8.heap.size ≤ b11:=by have:=B0.out.size;omega
     have Nx115:=hid hn
     refine hK _ _ ⟨SC.out W115 B115.out,?_⟩
     clear hK hb hn hbn hnew
     refine LF.yy_ (i:=2) (j:=6) (by kernel_rfl) rfl rfl (by kernel_rfl) (by kernel_rfl) (fun K hK=>?_) (fun K hK=>?_)
     · have CL:=hid (zq_ S as_ cs_ W115 (HLS.out W115 B115.out) (by omega) (by omega))
       go_simp
       refine ⟨trivial,(callsIn_wide.2 CL.out).mono ?_⟩
       rintro e W116 ⟨a,c,rfl,ho,hb⟩
       have B116:=hid (B115.out.trans (hb.mono B115.out.size))
       have O116:=hid (qp_ (base':=w8.heap.size) ho (fun g hg=>by have:=(ho.lt g hg).1;have:=B115.out.size;omega))
       have hvn:(Value.slice a S.length c).ownBlock ≠ some b11:=fun e=>by have:=(ho.lt b11 e).1;have:=(ge_ Nx115.out).1;omega
       have Nx116:=hid (q0_ Nx115.out hb)
       refine hK _ _ ⟨SC.out W116 B116.out,?_⟩
       clear hK CL ho hb
       refine aHO 6 rfl fun K hK=>?_
       have mk:=MK.out W116
       go_simp
       obtain ⟨cur,hcur⟩:∃ z,madeCells #[.int .i64 0, .int .i64 0] (C.length * 2) = z:=⟨_,rfl⟩
       have hcs:cur.size = C.length * 2:=by rw [← hcur,qs_]
       rw [hcur]
       obtain ⟨W117,hnew⟩:∃ y,W116.alloc (.cells cur 35) = y:=⟨_,rfl⟩
       have hb:Below W116.heap.size W116 W117:=by rw [← hnew];exact (Below.refl _ _).alloc (nl_ _) _
       have hn:W117.heap[W116.heap.size]? = some (.cells cur 35 (0,0)):=by rw [← hnew];exact ha_ _ _
       obtain ⟨bm,hbn⟩:∃ b,W116.heap.size = b:=⟨_,rfl⟩
       rw [hbn] at hn
       rw [hnew]
       try simp only [hbn]
       clear mk hcur
       have B117:=hid (B116.out.trans (hb.mono B116.out.size))
       have hbm:w8.heap.size ≤ bm:=by have:=B116.out.size;omega
       have hne:bm ≠ b11:=by have:=(ge_ Nx116.out).1;omega
       have Nx117:=hid (q0_ Nx116.out hb)
       have hvm:(Value.slice a S.length c).ownBlock ≠ some bm:=fun e=>by have:=(O116.out.lt bm e).2;omega
       have Ox117:=hid (ob_ O116.out hb (nl_ _))
       have Mx117:=hid hn
       refine hK _ _ ⟨SC.out W117 B117.out,?_⟩
       clear hK hb hn hbn hnew
       have hSn:=SC.out W117 B117.out
       refine tkY 7 67 (.agg #[.slice a S.length c, .slice (some ⟨bm,0,none⟩) C.length C.length]) rfl rfl hSn (fun w' hs=>?_) ?_
       · go_simp
       clear hSn
       refine aHO 9 rfl fun K hK=>?_
       have z0:=cg_ Nx117.out (k:=0) (v := .slice none 0 0) rfl
       have z1:=cg_ Nx117.out (k:=1) (v := .slice none 0 0) rfl
       have f0:=cells_frz Nx117.out (k:=0)
       have f1:=cells_frz Nx117.out (k:=1)
       go_simp
       obtain ⟨W118,hnew⟩:∃ y,(W117.setCell ⟨b11,0,none⟩ (.slice a S.length c)).setCell ⟨b11,1,none⟩ (.slice (some ⟨bm,0,none⟩) C.length C.length) = y:=⟨_,rfl⟩
       have hkb:Keep (· = b11) W117 W118:=by rw [← hnew];exact (Keep.setCell (O:=(· = b11)) (A:=W117) (p:=⟨b11,0,none⟩) rfl).trans (Keep.setCell (p:=⟨b11,1,none⟩) rfl)
       have B118:=hid (show Below w8.heap.size w8 W118 from B117.out.trans (hkb.below B117.out.size (fun b hb e=>by omega)))
       have Nx118:=hid (show W118.heap[b11]? = some (.cells #[.slice a S.length c, .slice (some ⟨bm,0,none⟩) C.length C.length] 60 (0,0)) by rw [← hnew];exact (q4_ (q4_ Nx117.out)).trans (by rfl))
       have Mx118:=hid ((hkb.block bm (ge_ Mx117.out).1 hne).trans Mx117.out)
       have Ox118:=hid (owns_agree Ox117.out fun g hg=>hkb.block g (Ox117.out.lt g hg).2 (fun e=>hvn (e ▸ hg)))
       rw [hnew]
       refine hK _ _ ⟨SC.out W118 B118.out,?_⟩
       clear hK z0 z1 f0 f1 hnew hkb
       refine q7_ (by kernel_rfl) ?_
       go_simp
       go_wp2_with fail
       go_meet
       case rel=>exact ⟨b11,bm,a,c,cur,rfl,hcs,⟨hb11,hbm,hne⟩,⟨hvm,hvn⟩,Nx118,Mx118,Ox118,B118⟩
     · have mk:=MK.out W115
       go_simp
       obtain ⟨cur,hcur⟩:∃ z,madeCells #[.int .i64 0, .int .i64 0] (C.length * 2) = z:=⟨_,rfl⟩
       have hcs:cur.size = C.length * 2:=by rw [← hcur,qs_]
       rw [hcur]
       obtain ⟨W119,hnew⟩:∃ y,W115.alloc (.cells cur 35) = y:=⟨_,rfl⟩
       have hb:Below W115.heap.size W115 W119:=by rw [← hnew];exact (Below.refl _ _).alloc (nl_ _) _
       have hn:W119.heap[W115.heap.size]? = some (.cells cur 35 (0,0)):=by rw [← hnew];exact ha_ _ _
       obtain ⟨bm,hbn⟩:∃ b,W115.heap.size = b:=⟨_,rfl⟩
       rw [hbn] at hn
       rw [hnew]
       try simp only [hbn]
       clear mk hcur
       have B119:=hid (B115.out.trans (hb.mono B115.out.size))
       have hbm:w8.heap.size ≤ bm:=by have:=B115.out.size;omega
       have hne:bm ≠ b11:=by have:=(ge_ Nx115.out).1;omega
       have Nx119:=hid (q0_ Nx115.out hb)
       have Mx119:=hid hn
       refine hK _ _ ⟨SC.out W119 B119.out,?_⟩
       clear hK hb hn hbn hnew
       refine aHO 2 rfl fun K hK=>?_
       have CL:=hid (zq_ S as_ cs_ W119 (HLS.out W119 B119.out) (by omega) (by omega))
       go_simp
       refine ⟨trivial,(callsIn_wide.2 CL.out).mono ?_⟩
       rintro e W120 ⟨a,c,rfl,ho,hb⟩
       have B120:=hid (B119.out.trans (hb.mono B119.out.size))
       have O120:=hid (qp_ (base':=w8.heap.size) ho (fun g hg=>by have:=(ho.lt g hg).1;have:=B119.out.size;omega))
       have hvm:(Value.slice a S.length c).ownBlock ≠ some bm:=fun e=>by have:=(ho.lt bm e).1;have:=(ge_ Mx119.out).1;omega
       have Mx120:=hid (q0_ Mx119.out hb)
       have hvn:(Value.slice a S.length c).ownBlock ≠ some b11:=fun e=>by have:=(ho.lt b11 e).1;have:=(ge_ Nx119.out).1;omega
       have Nx120:=hid (q0_ Nx119.out hb)
       refine hK _ _ ⟨SC.out W120 B120.out,?_⟩
       clear hK CL ho hb
       have hSn:=SC.out W120 B120.out
       refine tkY 7 67 (.agg #[.slice a S.length c, .slice (some ⟨bm,0,none⟩) C.length C.length]) rfl rfl hSn (fun w' hs=>?_) ?_
       · go_simp
       clear hSn
       refine aHO 9 rfl fun K hK=>?_
       have z0:=cg_ Nx120.out (k:=0) (v := .slice none 0 0) rfl
       have z1:=cg_ Nx120.out (k:=1) (v := .slice none 0 0) rfl
       have f0:=cells_frz Nx120.out (k:=0)
       have f1:=cells_frz Nx120.out (k:=1)
       go_simp
       obtain ⟨W121,hnew⟩:∃ y,(W120.setCell ⟨b11,0,none⟩ (.slice a S.length c)).setCell ⟨b11,1,none⟩ (.slice (some ⟨bm,0,none⟩) C.length C.length) = y:=⟨_,rfl⟩
       have hkb:Keep (· = b11) W120 W121:=by rw [← hnew];exact (Keep.setCell (O:=(· = b11)) (A:=W120) (p:=⟨b11,0,none⟩) rfl).trans (Keep.setCell (p:=⟨b11,1,none⟩) rfl)
       have B121:=hid (show Below w8.heap.size w8 W121 from B120.out.trans (hkb.below B120.out.size (fun b hb e=>by omega)))
       have Nx121:=hid (show W121.heap[b11]? = some (.cells #[.slice a S.length c, .slice (some ⟨bm,0,none⟩) C.length C.length] 60 (0,0)) by rw [← hnew];exact (q4_ (q4_ Nx120.out)).trans (by rfl))
       have Mx121:=hid ((hkb.block bm (ge_ Mx120.out).1 hne).trans Mx120.out)
       have Ox121:=hid (owns_agree O120.out fun g hg=>hkb.block g (O120.out.lt g hg).2 (fun e=>hvn (e ▸ hg)))
       rw [hnew]
       refine hK _ _ ⟨SC.out W121 B121.out,?_⟩
       clear hK z0 z1 f0 f1 hnew hkb
       refine q7_ (by kernel_rfl) ?_
       go_simp
       go_wp2_with fail
       go_meet
       case rel=>exact ⟨b11,bm,a,c,cur,rfl,hcs,⟨hb11,hbm,hne⟩,⟨hvm,hvn⟩,Nx121,Mx121,Ox121,B121⟩
  case rest=>
   obtain ⟨b11,bm,a,c,cur,rfl,hcs,⟨hb11,hbm,hne⟩,⟨hvm,hvn⟩,N11,M11,O11,B11⟩:=hcut
   obtain ⟨w9,hw9⟩:∃ v,v = wc:=⟨_,rfl⟩
   subst hw9
   obtain ⟨s0,s1⟩:=SC.out w9 B11.out
   have k1:=cg_ N11.out (k:=1) (v := .slice (some ⟨bm,0,none⟩) C.length C.length) rfl
   have hcl:=xu_ C
   have hcr:SlC (fun q=>q < w9.heap.size) w9 2 (.slice (some ⟨gc,oc,none⟩) C.length cc) C.length (zA_ C):=by obtain ⟨cs,h1,h2⟩:=HC.out.on (B9.out.trans (B11.out.mono B9.out.size));rwa [kw_ h2] at h1
   have hsrc:∀ j v,(zA_ C)[j]? = some v→w9.cell? ((⟨gc,oc,none⟩:Addr).add j) = some v:=SlC.news hcr (fun _ _=>rfl) _ rfl
   have hsz35:(Tryz.prog.info? 35).map (·.size) = some 2:=by rw [hi35];simp [hy1]
   have hb69:b6 < w8.heap.size:=by omega
   go_upto_region 16 with (refine kZ_ rfl (.tmp 69) (.tmp 71) 50 50 rfl 35 2 Tryz.underlying50 hsz35 bm 0 C.length C.length C.length ⟨gc,oc,none⟩ C.length cc rfl rfl cur 35 M11.out (zA_ C) (Nat.min_self _).symm (by rw [hcl];omega) hsrc (by rw [hcl];omega) (one_sp C) ?_)
   obtain ⟨w10,hw10⟩:∃ y,w9.setRow bm (cur.toList.take 0 ++ (zA_ C ++ cur.toList.drop (0 + (zA_ C).length))).toArray = y:=⟨_,rfl⟩
   have M12:=hid (show w10.heap[bm]? = some (.cells (zA_ C).toArray 35 (0,0)) by
    rw [← hw10]
    refine (zt_ M11.out).trans ?_
    rw [List.drop_eq_nil_of_le (by simp [hcl,hcs])]
    simp)
   have hk10:Keep (· = bm) w9 w10:=by rw [← hw10];exact Keep.grown (v1_ w9 bm _) (fun b e=>(Option.some.inj e).symm)
   rw [hw10]
   have N12:=hid ((hk10.block b11 (ge_ N11.out).1 (by omega)).trans N11.out)
   have P12:=hid ((hk10.block b10 (by have:=B11.out.size;omega) (by omega)).trans ((B11.out.block b10 hb10).trans N10.out))
   have j1:=cg_ N12.out (k:=1) (v := .slice (some ⟨bm,0,none⟩) C.length C.length) rfl
   have l0:=cg_ P12.out (k:=0) (v := .int .i64 lo) rfl
   have l1:=cg_ P12.out (k:=1) (v := .int .i64 hi) rfl
   have m0:=cg_ M12.out (k:=t * 2) (v := .int .i64 wa.lo) (by simpa using (va_ HT.out).1)
   have m1:=cg_ M12.out (k:=t * 2 + 1) (v := .int .i64 wa.hi) (by simpa using (va_ HT.out).2)
   have f0:=cells_frz M12.out (k:=t * 2)
   have f1:=cells_frz M12.out (k:=t * 2 + 1)
   clear hw10 s0 s1 k1 hcr hsrc
   go_upto_region 17 with fail
   obtain ⟨w11,hw11⟩:∃ y,(w10.setCell ⟨bm,t * 2,none⟩ (.int .i64 lo)).setCell ⟨bm,t * 2 + 1,none⟩ (.int .i64 hi) = y:=⟨_,rfl⟩
   have hk11:Keep (· = bm) w10 w11:=by rw [← hw11];exact (Keep.setCell (O:=(· = bm)) (A:=w10) (p:=⟨bm,t * 2,none⟩) rfl).trans (Keep.setCell (p:=⟨bm,t * 2 + 1,none⟩) rfl)
   have M13:=hid (show w11.heap[bm]? = some (.cells (zA_ (C.set t ⟨lo,hi⟩)).toArray 35 (0,0)) by
    rw [← hw11]
    refine (q4_ (q4_ M12.out)).trans ?_
    have h:=xh_ ⟨lo,hi⟩ C t
    rw [if_pos htl] at h
    rw [← h]
    simp)
   rw [hw11]
   have hk1011:=hk10.trans hk11
   have N13:=hid ((hk11.block b11 (ge_ N12.out).1 (by omega)).trans N12.out)
   have R13:=hid (show w11.heap[b6]? = some (.cells #[.slice none 0 0, .slice none 0 0] 60 (0,0)) from (hk1011.block b6 (by have:=B11.out.size;omega) (by omega)).trans ((B11.out.block b6 hb69).trans (q0_ R3.out B9.out)))
   have j0:=cg_ N13.out (k:=0) (v := .slice a S.length c) rfl
   have j1:=cg_ N13.out (k:=1) (v := .slice (some ⟨bm,0,none⟩) C.length C.length) rfl
   have z0:=cg_ R13.out (k:=0) (v := .slice none 0 0) rfl
   have z1:=cg_ R13.out (k:=1) (v := .slice none 0 0) rfl
   have f0:=cells_frz R13.out (k:=0)
   have f1:=cells_frz R13.out (k:=1)
   clear hw11 l0 l1 m0 m1
   go_wp2_with fail
   obtain ⟨w12,hw12⟩:∃ y,(w11.setCell ⟨b6,0,none⟩ (.slice a S.length c)).setCell ⟨b6,1,none⟩ (.slice (some ⟨bm,0,none⟩) C.length C.length) = y:=⟨_,rfl⟩
   have hk12:Keep (· = b6) w11 w12:=by rw [← hw12];exact (Keep.setCell (O:=(· = b6)) (A:=w11) (p:=⟨b6,0,none⟩) rfl).trans (Keep.setCell (p:=⟨b6,1,none⟩) rfl)
   have h12:w12.heap[b6]? = some (.cells #[.slice a S.length c, .slice (some ⟨bm,0,none⟩) C.length C.length] 60 (0,0)):=by rw [← hw12];exact (q4_ (q4_ R13.out)).trans (by rfl)
   rw [hw12]
   refine bodyPost_ret (ret60t rfl h12 rfl rfl) rfl ?_
   have hz9:=B11.out.size
   have hbm9:=(ge_ M11.out).1
   have hz10:=hk10.size
   have hz11:=hk11.size
   have ho:w12.ownsRow w8.heap.size 72 7 (.slice a S.length c) S.length (stL S):=owns_agree O11.out fun g hg=>by
    have h1:=O11.out.lt g hg
    exact (hk12.block g (by omega) (by omega)).trans (hk1011.block g h1.2 (fun e=>hvm (e ▸ hg)))
   have hm:w12.ownsRow 0 35 2 (.slice (some ⟨bm,0,none⟩) C.length C.length) C.length (zA_ (C.set t ⟨lo,hi⟩)):=qB_ (Nat.zero_le _) ((hk12.block bm (by omega) (by omega)).trans M13.out) (nl_ _) (by unfold maxLen;omega) (by simp [xu_]) (List.take_of_length_le (by simp [xu_]))
   have hm2:=own_sp (l:=C.set t ⟨lo,hi⟩) (by rw [List.length_set];exact hm)
   rw [← HLO.out,← HHI.out] at hm2
   have b3w:=HB3.out
   have BA:Below b3 w w9:=BW.out.trans ((B9.out.trans (B11.out.mono B9.out.size)).mono (by have:=BW.out.size;omega))
   have BB:Below b3 w w12:=(BA.trans (hk1011.below (by omega) (fun b hb e=>by omega))).trans (hk12.below (by omega) (fun b hb e=>by omega))
   exact ⟨a,c,_,_,rfl,yC_ ho,hm2,b3w ▸ BB⟩
end Go.Proofs.LS