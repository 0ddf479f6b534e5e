/- Parts of the proof of a law of layer 11 (file): LbSMap, LbB13, LbS5, LbB14, LbS6, LbB15, LbS7, LbS8a, LbB16, LbS8. The conditions stand in each theorem. -/
import Derived.ChangeKeys
import Derived.DeepKeys4
import Derived.Test.YtffjknkcogmnbaaGreatDoorProg
import Derived.Test.YtffjknkcogmnbaaGreatDoorSpaz
set_option linter.all false
set_option linter.unusedVariables false
set_option linter.unusedSimpArgs false
namespace Go.Proofs.LS
open Go.RowKit Go.Proofs.LF Go.Proofs.LB
def pk (t k:Nat):Lit := .string (keyBytes [.int .i64 t, .int .i64 k])
theorem vU_ {n:Nat} (h:n ≤ 1000):(Lit.int .i64 (n:Int)).wf = true:=by simp [Lit.wf,IntKind.min,IntKind.max,IntKind.signed,IntKind.bits];omega
theorem keyT:Tryz.prog.keyType 223 = true:=by kernel_rfl
theorem yn_:Tryz.prog.cellsOf 223 = 2:=by kernel_rfl
theorem cells3:Tryz.prog.cellsOf 3 = 1:=by kernel_rfl
theorem size_t:Tryz.prog.types.size + 1 = Tryz.prog.types.size - 1 + 2:=by kernel_rfl
theorem lawP:Maps.Keyed Tryz.prog 223:=Maps.Keyed.of_law (deep_law_laid (by kernel_rfl) (m:=3) (by omega) (of_decide_eq_true (by kernel_rfl)) (by kernel_rfl) (by kernel_rfl))
theorem keyP (t k:Nat) (ht:t ≤ 1000) (hk:k ≤ 1000):keyOf Tryz.prog 223 (.agg #[.int .i64 t, .int .i64 k]) = some (pk t k):=by
 have h1:=vU_ ht
 have h2:=vU_ hk
 have hf:(Value.agg #[.int .i64 (t:Int), .int .i64 (k:Int)]).formed Tryz.prog 223 = true:=by
  simp [Value.formed,Tryz.underlying223,yn_]
 unfold keyOf
 rw [Tryz.underlying223]
 simp only [keyT,hf,Bool.and_self,if_true,Value.cells]
 rw [size_t]
 obtain ⟨m,hm⟩:∃ m,Tryz.prog.types.size - 1 = m:=⟨_,rfl⟩
 rw [hm]
 simp [Program.keyLits,Tryz.underlying223,Tryz.underlying3,yn_,cells3,h1,h2,pk]
theorem pk_inj {t k t' k':Nat} (ht:t ≤ 1000) (hk:k ≤ 1000) (ht':t' ≤ 1000) (hk':k' ≤ 1000) (h:pk t k = pk t' k'):t = t'∧k = k':=by
 have e:=keyBytes_inj (l:=[.int .i64 t, .int .i64 k]) (l':=[.int .i64 t', .int .i64 k']) ⟨rfl,rfl,trivial⟩ (by
  intro a ha
  simp at ha
  rcases ha with rfl | rfl
  · exact vU_ ht
  · exact vU_ hk) (by
  intro a ha
  simp at ha
  rcases ha with rfl | rfl
  · exact vU_ ht'
  · exact vU_ hk') (by simpa [pk] using h)
 simp at e
 omega
def v4_ (b n:Nat) (f:Nat→Nat→Bool) (w:World):Prop:=
 ∃ D:DataW Value,w.ownsMap Tryz.prog 223 heldI b n D∧∀ t k:Nat,t ≤ 1000→k ≤ 1000→Maps.has D (pk t k) = f t k∧(f t k = true→∀ z,D.atKey (pk t k) z = .held (.bool true))
theorem v4_.made (w:World):v4_ w.heap.size 0 (fun _ _=>false) (w.alloc (.map #[] 0)):=
 ⟨_,World.ownsMap_made _ _ _ _,fun s _ _ _=>⟨by simp [Maps.has],fun h=>by cases h⟩⟩
theorem v4_.kept {b n:Nat} {f:Nat→Nat→Bool} {w w':World} (h:v4_ b n f w) (hb:w'.heap[b]? = w.heap[b]?):v4_ b n f w':=by
 obtain ⟨D,⟨es,clock,h1,h2⟩,h3⟩:=h
 exact ⟨D,⟨es,clock,hb.trans h1,h2⟩,h3⟩
theorem v4_.lt {b n:Nat} {f:Nat→Nat→Bool} {w:World} (h:v4_ b n f w):b < w.heap.size:=let ⟨_,h1,_⟩:=h;h1.lt
theorem zero4 (w:World):(zeroValue 4).run Tryz.prog w = .ok (.bool false) w:=by kernel_rfl
theorem v4_.look {b n:Nat} {f:Nat→Nat→Bool} {w:World} (h:v4_ b n f w) (t k:Nat) (ht:t ≤ 1000) (hk:k ≤ 1000):(Instr.lookup 219 (.map (some b)) (.agg #[.int .i64 t, .int .i64 k]) false).run Tryz.prog w = .ok (.bool (f t k)) w:=by
 obtain ⟨D,h1,h2⟩:=h
 obtain ⟨v,ps,hrun,hv⟩:=h1.lookup lawP Tryz.underlying219 (zd := .held (.bool false)) (zp:=[]) (zero4 w) rfl (keyP t k ht hk)
 obtain ⟨h3,h4⟩:=h2 t k ht hk
 rw [hrun]
 simp only [heldI,Option.some.injEq,Prod.mk.injEq] at hv
 cases hf:f t k with
 | false=>
   rw [hf] at h3
   rw [Maps.atKey_of_not_has h3] at hv
   have:v = .bool false:=by simpa using hv.1
   rw [this]
 | true=>
   rw [h4 hf] at hv
   have:v = .bool true:=by simpa using hv.1
   rw [this]
theorem v4_.put {b n:Nat} {f:Nat→Nat→Bool} {w:World} (h:v4_ b n f w) (t k:Nat) (ht:t ≤ 1000) (hk:k ≤ 1000) (hn:n < maxLen):∃ w',(Instr.mapUpdate 219 (.map (some b)) (.agg #[.int .i64 t, .int .i64 k]) (.bool true)).run Tryz.prog w = .ok () w'∧v4_ b (n + 1) (fun t' k'=>f t' k' || (decide (t' = t) && decide (k' = k))) w'∧w.grownBy w' (some b):=by
 obtain ⟨D,h1,h2⟩:=h
 obtain ⟨w',hrun,h3,h4⟩:=h1.update lawP Tryz.underlying219 hn (keyP t k ht hk) (val := .bool true) (d := .held (.bool true)) (ps:=[]) rfl
 refine ⟨w',hrun,⟨_,h3,fun t' k' ht' hk'=>?_⟩,h4⟩
 by_cases hq:t' = t∧k' = k
 · obtain ⟨rfl,rfl⟩:=hq
   refine ⟨by rw [Maps.has_put_same h1.isMap (by trivial)];simp,fun _ z=>?_⟩
   rw [Maps.atKey_put_same h1.isMap (by trivial)]
 · obtain ⟨h5,h6⟩:=h2 t' k' ht' hk'
   have hne:pk t' k' ≠ pk t k:=fun e=>hq (pk_inj ht' hk' ht hk e)
   have hd:(decide (t' = t) && decide (k' = k)) = false:=by
    rw [Bool.and_eq_false_iff,decide_eq_false_iff_not,decide_eq_false_iff_not]
    by_cases e:t' = t
    · exact .inr fun e2=>hq ⟨e,e2⟩
    · exact .inl e
   simp only [hd,Bool.or_false]
   refine ⟨by rw [Maps.has_put_other hne,h5],fun hu z=>?_⟩
   rw [Maps.atKey_put_other hne,h6 hu]
end Go.Proofs.LS
namespace Go.Proofs.LB
open Go.RowKit Go.Sort Go.Proofs.LF
set_option maxHeartbeats 4000000
set_option maxRecDepth 100000
attribute [local go_sem] q1_ q2_ q6_
def Dfs (n0:Nat):List Deferred→World→Prop
 | [],_=>True
 | d :: ds,w=>(∃ D,d = { target := .collected D,args:=#[] }∧n0 ≤ D∧w.heap[D]? = some (.deferred (some []))∧∀ d' ∈ ds,∀ D',d'.target = .collected D'→D' < D)∧Dfs n0 ds w
theorem Dfs.lt {n0:Nat}:∀ {ds:List Deferred} {w:World},Dfs n0 ds w→∀ d ∈ ds,∀ D,d.target = .collected D→n0 ≤ D∧D < w.heap.size∧w.heap[D]? = some (.deferred (some []))
 | d :: ds,w,⟨⟨D,h1,h2,h3,h4⟩,h5⟩,d',hd,D',hD=>by
   rcases List.mem_cons.1 hd with rfl | hd
   · rw [h1] at hD;cases hD
     exact ⟨h2,(ge_ h3).1,h3⟩
   · exact Dfs.lt h5 d' hd D' hD
theorem Dfs.kept {n0:Nat} {w w':World}:∀ {ds:List Deferred},Dfs n0 ds w→(∀ d ∈ ds,∀ D,d.target = .collected D→w'.heap[D]? = w.heap[D]?)→Dfs n0 ds w'
 | [],_,_=>trivial
 | d :: ds,⟨⟨D,h1,h2,h3,h4⟩,h5⟩,hk=>⟨⟨D,h1,h2,(hk d (List.mem_cons_self ..) D (by rw [h1])).trans h3,h4⟩,Dfs.kept h5 fun d' hd=>hk d' (List.mem_cons_of_mem _ hd)⟩
theorem Dfs.keep {n0:Nat} {w w':World} {ds:List Deferred} {O:Nat→Prop} (h:Dfs n0 ds w) (hk:Keep O w w') (hO:∀ b:Nat,O b→∀ h,w.heap[b]? ≠ some (Obj.deferred h)):Dfs n0 ds w':=
 h.kept fun d hd D hD=>by
  obtain ⟨_,h2,h3⟩:=h.lt d hd D hD
  exact hk.block D h2 fun ho=>hO D ho _ h3
theorem Dfs.below {n0:Nat} {w w':World} {ds:List Deferred} (h:Dfs n0 ds w) (hb:Below w.heap.size w w'):Dfs n0 ds w':=
 h.kept fun d hd D hD=>hb.block D (h.lt d hd D hD).2.1
theorem Dfs.more {n0 D:Nat} {w w':World} {ds:List Deferred} (h:Dfs n0 ds w') (hD:w'.heap[D]? = some (.deferred (some []))) (hn:n0 ≤ D) (hl:w.heap.size ≤ D) (h0:∀ d ∈ ds,∀ D',d.target = .collected D'→D' < w.heap.size):Dfs n0 ({ target := .collected D,args:=#[] } :: ds) w':=
 ⟨⟨D,rfl,hn,hD,fun d hd D' hD'=>by have:=h0 d hd D' hD';omega⟩,h⟩
structure Shut (w w':World):Prop where
 size:w'.heap.size = w.heap.size
 block:∀ b:Nat,(∀ h,w.heap[b]? ≠ some (Obj.deferred h))→w'.heap[b]? = w.heap[b]?
theorem kW_ {F:Fence} {n:Nat} {P:Program} {fn:Func} {tmps:Array Value} {R:Ending→World→Prop} {n0:Nat}:∀ (ds:List Deferred) (w:World),Dfs n0 ds w →
 (∀ w',Shut w w'→Below n0 w w'→LeavesInM F n P fn tmps R [] .returning w')→LeavesInM F n P fn tmps R ds .returning w
 | [],w,_,hR=>hR w ⟨rfl,fun _ _=>rfl⟩ (Below.refl _ _)
 | d :: ds,w,⟨⟨D,h1,h2,h3,h4⟩,h5⟩,hR=>by
   refine ⟨by simp, .inl ⟨D,w.putObj D (.deferred none),by rw [h1],run_takeDeferred h3,kW_ ds _ (h5.kept fun d' hd' D' hD'=>?_) fun w' hs hb=>hR w' ?_ ((z3_ (Below.refl n0 w) h2).trans hb)⟩⟩
   · have:=h4 d' hd' D' hD'
     exact World.putObj_heap_other (by omega)
   · refine ⟨by rw [hs.size];simp,fun b hn=>?_⟩
     have hbD:b ≠ D:=fun e=>hn _ (e ▸ h3)
     have hp:(w.putObj D (.deferred none)).heap[b]? = w.heap[b]?:=World.putObj_heap_other hbD
     exact (hs.block b (fun h=>by rw [hp];exact hn h)).trans hp
def bl (N:Nat) (f:Nat→Bool):Array Value:=((List.range N).map fun i=>Value.bool (f i)).toArray
theorem js_ {p:Nat→Prop}:(∃ j,p j)→∃ j,p j∧∀ i,p i→j ≤ i:=by
 rintro ⟨j,hj⟩
 induction j using Nat.strongRecOn with
 | _ j ih=>
   by_cases h:∃ i,i < j∧p i
   · obtain ⟨i,hi,hp⟩:=h
     exact ih i hi hp
   · exact ⟨j,hj,fun i hi=>by
      by_cases hl:i < j
      · exact absurd ⟨i,hl,hi⟩ h
      · omega⟩
theorem ko_ {F:Fence} {n:Nat} {P:Program} {Q:Exit→Act→World→Prop} {a:Act} {w:World} {c:Code} (I:Nat→Act→World→Prop) (j0:Nat) (h0:I j0 a w)
 (round:∀ j a w,I j a w→c.wpIn F n P (Exit.then (fun a' w'=>∃ j',j' < j∧I j' a' w') Q) a w):(Code.loop c).wpIn F n P Q a w:=by
 classical
 refine wpIn_loop (fun a w=>∃ j,I j a w) (fun a w=>if h:∃ j,I j a w then Classical.choose (js_ h) else 0) ⟨j0,h0⟩ ?_
 rintro a w h
 obtain ⟨hm,hmin⟩:=Classical.choose_spec (js_ h)
 refine wpIn_mono (round _ a w hm) ?_
 intro e a' w' hq
 cases e with
 | normal=>
   obtain ⟨j',hj',hI⟩:=hq
   have h':∃ j,I j a' w':=⟨j',hI⟩
   refine ⟨h',?_⟩
   simp only [dif_pos h,dif_pos h']
   exact Nat.lt_of_le_of_lt ((Classical.choose_spec (js_ h')).2 j' hI) hj'
 | _=>exact hq
def noPan (Q:Exit→Act→World→Prop):Exit→Act→World→Prop
 | .panic _,_,_=>False
 | e,a,w=>Q e a w
theorem wd_ {F:Fence} {n:Nat} {P:Program} {Q:Exit→Act→World→Prop} {a:Act} {w:World} {c:Code} (h:c.wpIn F n P (noPan Q) a w):c.wpIn F n P Q a w:=by
 refine wpIn_mono h ?_
 intro e a w h
 cases e with
 | panic _=>exact h.elim
 | _=>exact h
end Go.Proofs.LB
namespace Go.Proofs.LS
open Go.RowKit Go.Sort Go.Proofs.LF Go.Proofs.LB
set_option maxHeartbeats 4000000
set_option maxRecDepth 100000
attribute [local go_sem] q1_ q2_ q6_
def st0:St:=⟨0,0,0,0,0,0,0⟩
def rchN (S:List St) (n t k:Nat):Bool:=(List.range n).any fun i=>decide ((S.getD i st0).t = (t:Int)) && decide (i ≤ k + 1) && decide (k ≤ i + 1)
def fM (S:List St) (n t k:Nat):Bool:=decide (k < S.length) && rchN S n t k
def fI (S:List St) (i j t k:Nat):Bool:=decide (k < S.length) && (rchN S i t k || (decide ((S.getD i st0).t = (t:Int)) && decide (i ≤ k + 1) && decide (k + 1 < i + j)))
theorem fI_zero (S:List St) (i t k:Nat):fI S i 0 t k = fM S i t k:=by
 rw [fI,fM]
 by_cases h:i ≤ k + 1
 · have h2:decide (k + 1 < i + 0) = false:=decide_eq_false (by omega)
   rw [h2,Bool.and_false,Bool.or_false]
 · rw [decide_eq_false h,Bool.and_false,Bool.false_and,Bool.or_false]
theorem fI_three (S:List St) (i t k:Nat):fI S i 3 t k = fM S (i + 1) t k:=by
 rw [fI,fM,rchN,rchN,List.range_succ,List.any_append]
 congr 1
 rw [show decide (k + 1 < i + 3) = decide (k ≤ i + 1) from decide_eq_decide.2 (by omega)]
 simp
theorem fI_put (S:List St) (i j tn kn:Nat) (ht:(S.getD i st0).t = (tn:Int)) (hk:kn < S.length) (hj:i + j = kn + 1) (t k:Nat):(fI S i j t k || (decide (t = tn) && decide (k = kn))) = fI S i (j + 1) t k:=by
 rw [fI,fI,ht]
 by_cases e:k = kn
 · subst e
   have h1:¬ k + 1 < i + j:=by omega
   have h2:k + 1 < i + (j + 1):=by omega
   by_cases e2:t = tn
   · subst e2
     by_cases h3:i ≤ k + 1
     · simp [hk,h2,h3]
     · omega
   · have e3:¬ (tn:Int) = (t:Int):=by omega
     simp [e2,e3]
 · have h1:decide (k + 1 < i + j) = decide (k + 1 < i + (j + 1)):=decide_eq_decide.2 (by omega)
   simp [e,h1]
theorem fI_skip (S:List St) (i j t k:Nat) (h:∀ kn:Nat,i + j = kn + 1→¬ kn < S.length):fI S i j t k = fI S i (j + 1) t k:=by
 rw [fI,fI]
 by_cases hk:k < S.length
 · have h1:decide (k + 1 < i + j) = decide (k + 1 < i + (j + 1)):=decide_eq_decide.2 (by
    have:=h k
    omega)
   rw [h1]
 · simp [hk]
theorem opened_ok (S:List St) (C:List Sp) (as_ ac:Option Addr) (cs_ cc:Nat) (B:Nat→Prop) (w:World) (hs:LSl v3_ B w (.slice as_ S.length cs_) S) (hc:LSl vO_ B w (.slice ac C.length cc) C) (hB:∀ b,B b→b < w.heap.size) (hO:OkSc S C) :
 Calls Tryz.prog 66 #[.agg #[.slice as_ S.length cs_, .slice ac C.length cc]] w fun e w'=>∃ M,e = .returned (.tuple #[.pointer (some ⟨M + 1,0,none⟩), .int .i64 0])∧w.heap.size ≤ M∧w'.heap[M + 1]? = some (.cells #[.slice as_ S.length cs_, .slice ac C.length cc, .map (some M)] 221 (0,0))∧(∃ n,v4_ M n (fM S S.length) w')∧Below w.heap.size w w':=by
 obtain ⟨w1,hw1⟩:∃ w1,w.alloc (.cells #[.slice as_ S.length cs_, .slice ac C.length cc] 60) = w1:=⟨_,rfl⟩
 have hb1:Below w.heap.size w w1:=by rw [← hw1];exact (Below.refl _ _).alloc (nl_ _) _
 have BN:=hid (show w1.heap[w.heap.size]? = some (.cells #[.slice as_ S.length cs_, .slice ac C.length cc] 60 (0,0)) by rw [← hw1];exact ha_ _ _)
 have CK:=hid (yL_ S C as_ ac cs_ cc B w1 (hs.agree (q9_ hb1 hB)) (hc.agree (q9_ hb1 hB)) (fun b hb=>by have:=hB b hb;have:=hb1.size;omega) hO)
 have BW:=hid hb1
 have HSs:=hid hs
 have HB:=hid hB
 have HO:=hid hO
 have h6:=hO.s
 have h5:=hO.c
 clear hb1 hs hc hB hO
 obtain ⟨ba,hba⟩:∃ b,w.heap.size = b:=⟨_,rfl⟩
 rw [hba] at BN
 have hlba:ba < w1.heap.size:=(ge_ BN.out).1
 have b0:=cg_ BN.out (k:=0) (v := .slice as_ S.length cs_) rfl
 have b1:=cg_ BN.out (k:=1) (v := .slice ac C.length cc) rfl
 go_enter Tryz.func66,Tryz.ntmps66
 go_upto_region 1 with fail
 try rw [hw1]
 try simp only [hba]
 clear hw1
 go_wp2_with fail
 refine CK.out.mono ?_
 rintro e w2 ⟨rfl,hb⟩
 clear b0 b1 CK
 replace BN:=hid (q0_ BN.out hb)
 replace BW:=hid (BW.out.trans (hb.mono BW.out.size))
 have hlb2:ba < w2.heap.size:=Nat.lt_of_lt_of_le hlba hb.size
 clear hb
 obtain ⟨w3,hw3⟩:∃ w3,w2.alloc (.map #[] 0) = w3:=⟨_,rfl⟩
 have hb3:Below w2.heap.size w2 w3:=by rw [← hw3];exact (Below.refl _ _).alloc (nl_ _) _
 have hM3:=v4_.made w2
 rw [hw3] at hM3
 obtain ⟨M,hM⟩:∃ M,w2.heap.size = M:=⟨_,rfl⟩
 rw [hM] at hM3
 have hz3:w3.heap.size = M + 1:=by rw [← hw3,← hM];simp
 obtain ⟨w4,hw4⟩:∃ w4,w3.alloc (.cells #[.slice as_ S.length cs_, .slice ac C.length cc, .map (some M)] 221) = w4:=⟨_,rfl⟩
 have hb4:Below w3.heap.size w3 w4:=by rw [← hw4];exact (Below.refl _ _).alloc (nl_ _) _
 have hz4:w4.heap.size = M + 2:=by rw [← hw4];simp [hz3]
 have DN:Hid (w4.heap[M + 1]? = some (.cells #[.slice as_ S.length cs_, .slice ac C.length cc, .map (some M)] 221 (0,0))):=by rw [← hw4,← hz3];exact ha_ _ _
 have ML4:Hid (v4_ M 0 (fM S 0) w4):=by
  have:=hM3.kept (hb4.block M hM3.lt)
  rwa [show (fun _ _=>false) = fM S 0 from by funext t k;simp [fM,rchN]] at this
 have BB:Hid (Below M w2 w4):=by rw [← hM];exact hb3.trans (hb4.mono (by rw [hz3];omega))
 have b0:=cg_ BN.out (k:=0) (v := .slice as_ S.length cs_) rfl
 have b1:=cg_ BN.out (k:=1) (v := .slice ac C.length cc) rfl
 have BN4:=hid ((BB.out.block ba (by omega)).trans BN.out)
 have hz3':=hid hz3
 have hz4':=hid hz4
 have HM:=hid hM
 clear hz3 hz4 hb3 hb4 hM3
 have hmm:=@run_makeMap Tryz.prog
 go_upto_region 5 with fail
 rw [hz3'.out]
 clear hmm b0 b1 BN hw3 hw4 hM hba hz3'
 have b0:=cg_ BN4.out (k:=0) (v := .slice as_ S.length cs_) rfl
 obtain ⟨_,_,he,_,hmm,hat⟩:=LSl.at HSs.out
 cases he
 unfold maxLen at hmm
 have HAT:=hid hat
 clear hat
 go_wp2_with fail
 go_loopw [21] (fun vi wr=>∃ i n:Nat,i ≤ S.length∧vi = .int .i64 i∧n ≤ 3 * i∧Hid (v4_ M n (fM S i) wr)∧Hid (wr.heap[M + 1]? = some (.cells #[.slice as_ S.length cs_, .slice ac C.length cc, .map (some M)] 221 (0,0)))∧Hid (wr.heap[ba]? = some (.cells #[.slice as_ S.length cs_, .slice ac C.length cc] 60 (0,0)))∧Hid (M + 2 ≤ wr.heap.size)∧Hid (Below M w2 wr)) (fun vi _=>S.length - (intOf vi).toNat)
 case atStart=>exact ⟨0,0,by omega,rfl,by omega,ML4,DN,BN4,by have:=hz4'.out;exact Nat.le_of_eq this.symm,BB⟩
 case round=>
  obtain ⟨i,n,hi,rfl,hni,HML,HDN,HBN,HZ,HBb⟩:=hrel
  have i1:(0:Int) ≤ (i:Int):=by omega
  by_cases hlt:i < S.length
  · have hlt':(i:Int) < (S.length:Int):=by omega
    obtain ⟨g,o,cs1,rfl,hg,hc,hcell⟩:=HAT.out i hlt
    have hc:cs1 = (stC S[i]).toList:=hc
    have hgd:S.getD i st0 = S[i]:=by simp [List.getD_eq_getElem?_getD,List.getElem?_eq_getElem hlt]
    have hte:=HO.out.te S[i] (List.getElem_mem hlt)
    obtain ⟨x,hx⟩:∃ x,S[i] = x:=⟨_,rfl⟩
    rw [hx] at hc hgd hte
    subst hc
    obtain ⟨tn,htn0⟩:∃ tn:Nat,x.t = (tn:Int):=⟨x.t.toNat,by omega⟩
    have htn5:tn ≤ 1000:=by omega
    have htn:=hid htn0
    clear htn0
    have hgl:=HB.out g hg
    have hwM:w.heap.size ≤ M:=by rw [← HM.out];exact BW.out.size
    have hbw:=BW.out.trans (HBb.out.mono hwM)
    have e0:=hcell 0 _ rfl
    have e1:=hcell 1 _ rfl
    have e2:=hcell 2 _ rfl
    have e3:=hcell 3 _ rfl
    have e4:=hcell 4 _ rfl
    have e5:=hcell 5 _ rfl
    have e6:=hcell 6 _ rfl
    rw [Nat.add_zero] at e0
    rw [← Nat.add_assoc] at e1 e2 e3 e4 e5 e6
    have c0:=bc_ hbw hgl e0
    have c1:=bc_ hbw hgl e1
    have c2:=bc_ hbw hgl e2
    have c3:=bc_ hbw hgl e3
    have c4:=bc_ hbw hgl e4
    have c5:=bc_ hbw hgl e5
    have c6:=bc_ hbw hgl e6
    clear hcell e0 e1 e2 e3 e4 e5 e6 hbw
    have HTN:=hid (show (S.getD i st0).t = (tn:Int) by rw [hgd];exact htn.out)
    obtain ⟨w5,hw5⟩:∃ w5,wr.alloc (.cells #[.int .i64 x.t, .int .i64 x.ll, .int .i64 x.lh, .int .i64 x.sl, .int .i64 x.sh, .int .i64 x.el, .int .i64 x.eh] 72) = w5:=⟨_,rfl⟩
    have hb5:Below wr.heap.size wr w5:=by rw [← hw5];exact (Below.refl _ _).alloc (nl_ _) _
    have XN:=hid (show w5.heap[wr.heap.size]? = some (.cells #[.int .i64 x.t, .int .i64 x.ll, .int .i64 x.lh, .int .i64 x.sl, .int .i64 x.sh, .int .i64 x.el, .int .i64 x.eh] 72 (0,0)) by rw [← hw5];exact ha_ _ _)
    obtain ⟨bx,hbx⟩:∃ b,wr.heap.size = b:=⟨_,rfl⟩
    have hbxM:M + 2 ≤ bx:=by rw [← hbx];exact HZ.out
    have ML5:=hid (HML.out.kept (hb5.block M HML.out.lt))
    have DN5:=hid (q0_ HDN.out hb5)
    have BN5:=hid (q0_ HBN.out hb5)
    have BB5:=hid (HBb.out.trans (hb5.mono (by have:=HZ.out;omega)))
    have hz5:=hb5.size
    have ML5':Hid (v4_ M n (fI S i 0) w5):=by rw [show fI S i 0 = fM S i from by funext t k;exact fI_zero S i t k];exact ML5.out
    rw [hbx] at XN hz5
    clear hb5 HML HDN HBN HBb ML5 hgd hx HZ
    go_upto_block 2 with fail
    try rw [hw5]
    try simp only [hbx]
    clear hw5 hbx c0 c1 c2 c3 c4 c5 c6
    go_wp2_with fail
    go_loopw [8] (fun vk wk=>∃ j m:Nat,j ≤ 3∧vk = .int .i64 ((i:Int) - 1 + j)∧m ≤ n + j∧Hid (v4_ M m (fI S i j) wk)∧Hid (wk.heap[M + 1]? = some (.cells #[.slice (some ⟨g,o,none⟩) S.length cs_, .slice ac C.length cc, .map (some M)] 221 (0,0)))∧Hid (wk.heap[ba]? = some (.cells #[.slice (some ⟨g,o,none⟩) S.length cs_, .slice ac C.length cc] 60 (0,0)))∧Hid (wk.heap[bx]? = some (.cells #[.int .i64 x.t, .int .i64 x.ll, .int .i64 x.lh, .int .i64 x.sl, .int .i64 x.sh, .int .i64 x.el, .int .i64 x.eh] 72 (0,0)))∧Hid (M + 2 ≤ wk.heap.size)∧Hid (Below M w2 wk)) (fun vk _=>((i:Int) + 2 - intOf vk).toNat)
    case atStart=>exact ⟨0,n,by omega,by go_num,by omega,ML5',DN5,BN5,XN,hid (by omega),BB5⟩
    case round=>
     obtain ⟨j,m,hj,rfl,hm,HML,HDN,HBN,HXN,HZ,HBb⟩:=hrel
     by_cases hj3:j < 3
     · have hle:((i:Int) - 1 + j) ≤ (i:Int) + 1:=by omega
       have hb0:=cg_ HBN.out (k:=0) (v := .slice (some ⟨g,o,none⟩) S.length cs_) rfl
       have hb1:=cg_ HBN.out (k:=1) (v := .slice ac C.length cc) rfl
       have SK:=hid (strip_any (some ⟨g,o,none⟩) ac S.length C.length cs_ cc ((i:Int) - 1 + j) wr (by omega) (by omega))
       go_wp2_with fail
       refine SK.out.mono ?_
       rintro e w6 ⟨rfl,hb6⟩
       have h66:=hb6.size
       have ML6:=hid (HML.out.kept (hb6.block M HML.out.lt))
       have DN6:=hid (q0_ HDN.out hb6)
       have BN6:=hid (q0_ HBN.out hb6)
       have XN6:=hid (q0_ HXN.out hb6)
       have BB6:=hid (HBb.out.trans (hb6.mono (by have:=HZ.out;omega)))
       have HZ6:=hid (show M + 2 ≤ w6.heap.size by have:=HZ.out;omega)
       clear HML HDN HBN HXN HZ HBb SK hb6 hb0 hb1
       by_cases hin:0 ≤ (i:Int) - 1 + j∧(i:Int) - 1 + j ≤ (S.length:Int) - 1
       · obtain ⟨kn,hkn⟩:∃ kn:Nat,(i:Int) - 1 + j = (kn:Int):=⟨((i:Int) - 1 + j).toNat,by omega⟩
         have hII:inI ((i:Int) - 1 + j) 0 ((S.length:Int) - 1) = true:=by rw [inI,decide_eq_true hin.1,decide_eq_true hin.2];rfl
         have hkS:kn < S.length:=by omega
         have hk5:kn ≤ 1000:=by omega
         have hij:i + j = kn + 1:=by omega
         rw [hII]
         simp only [hkn]
         clear hII
         go_upto_region 12 with fail
         have SC:=hid (fun (W:World) (h1:W.heap[M + 1]? = some (.cells #[.slice (some ⟨g,o,none⟩) S.length cs_, .slice ac C.length cc, .map (some M)] 221 (0,0))) (h2:W.heap[bx]? = some (.cells #[.int .i64 x.t, .int .i64 x.ll, .int .i64 x.lh, .int .i64 x.sl, .int .i64 x.sh, .int .i64 x.el, .int .i64 x.eh] 72 (0,0)))=>show W.cell? ⟨M + 1,2,none⟩ = some (.map (some M))∧W.cell? ⟨bx,0,none⟩ = some (.int .i64 tn) from ⟨cg_ h1 (k:=2) rfl,by rw [← htn.out];exact cg_ h2 (k:=0) rfl⟩)
         obtain ⟨W0,hW0⟩:∃ W0,w6.drew = W0:=⟨_,rfl⟩
         have hb:Below w6.heap.size w6 W0:=by rw [← hW0];exact (Below.refl _ w6).drew
         have hS0:=SC.out W0 (q0_ DN6.out hb) (q0_ XN6.out hb)
         have MF:=hid (ML6.out.kept (hb.block M ML6.out.lt))
         replace DN6:=hid (q0_ DN6.out hb)
         replace BN6:=hid (q0_ BN6.out hb)
         replace XN6:=hid (q0_ XN6.out hb)
         replace BB6:=hid (BB6.out.trans (hb.mono (by have:=HZ6.out;omega)))
         replace HZ6:=hid (show M + 2 ≤ W0.heap.size by have:=hb.size;have:=HZ6.out;omega)
         refine (wpIn_wide (n:=9)).1 ?_
         refine q8_ (fun W:World=>W.cell? ⟨M + 1,2,none⟩ = some (.map (some M))∧W.cell? ⟨bx,0,none⟩ = some (.int .i64 tn)) (by kernel_rfl) ?_
         rw [hW0]
         clear hW0 hb ML6
         refine tkZ 0 37 (.pointer (some ⟨M + 1,0,none⟩)) rfl rfl hS0 ?_
         refine tkZ 1 38 (.pointer (some ⟨M + 1,0,none⟩)) rfl rfl hS0 ?_
         refine tkZ 2 39 (.pointer (some ⟨M + 1,2,none⟩)) rfl rfl hS0 ?_
         refine tkZ 3 40 (.map (some M)) rfl rfl hS0 ?_
         refine tkZ 4 41 (.pointer (some ⟨bx,0,none⟩)) rfl rfl hS0 ?_
         refine tkZ 5 42 (.int .i64 tn) rfl rfl hS0 ?_
         refine tkZ 6 43 (.int .i64 kn) rfl rfl hS0 ?_
         refine tkZ 7 44 (.agg #[.int .i64 tn, .int .i64 kn]) rfl rfl hS0 ?_
         clear hS0
         go_simp
         refine aHO 8 rfl fun K hK=>?_
         obtain ⟨W1,hr,h7,hg7⟩:=v4_.put MF.out tn kn htn5 hk5 (by unfold maxLen;omega)
         refine LB.wpIn_skip (fun _=>trivial) rfl (LB.exec_mput rfl rfl rfl rfl hr) ?_
         have nb1:=hg7.block (M + 1) (by have:=HZ6.out;omega) (fun e=>by simp at e)
         have nb2:=hg7.block bx (ge_ XN6.out).1 (fun e=>by simp at e;omega)
         have nb3:=hg7.block ba (ge_ BN6.out).1 (fun e=>by simp at e;have:=HM.out;omega)
         have hfp:(fun t' k'=>fI S i j t' k' || (decide (t' = tn) && decide (k' = kn))) = fI S i (j + 1):=funext fun t=>funext fun k=>fI_put S i j tn kn HTN.out hkS hij t k
         rw [hfp] at h7
         have MF7:=hid h7
         replace DN6:=hid (nb1.trans DN6.out)
         replace XN6:=hid (nb2.trans XN6.out)
         replace BN6:=hid (nb3.trans BN6.out)
         replace BB6:=hid (BB6.out.grown hg7 (by have:=HZ6.out;omega) (fun b hb=>by simp at hb;omega))
         replace HZ6:=hid (Nat.le_trans HZ6.out hg7.size)
         refine hK _ _ ⟨SC.out _ DN6.out XN6.out,?_⟩
         clear hK hr h7 hg7 hfp nb1 nb2 nb3 MF
         refine q7_ (by kernel_rfl) ?_
         go_simp
         go_wp2_with fail
         go_roundw
         case rel=>exact ⟨j + 1,m + 1,by omega,by go_num,by omega,MF7,DN6,BN6,XN6,HZ6,BB6⟩
         case measure=>simp [intOf];omega
       · have hII:inI ((i:Int) - 1 + j) 0 ((S.length:Int) - 1) = false:=by
          rw [inI,Bool.and_eq_false_iff,decide_eq_false_iff_not,decide_eq_false_iff_not];omega
         rw [hII]
         clear hII
         have hfp:fI S i j = fI S i (j + 1):=funext fun t=>funext fun k=>fI_skip S i j t k fun kn h=>by omega
         have ML7:Hid (v4_ M m (fI S i (j + 1)) w6):=by rw [← hfp];exact ML6.out
         clear ML6 hfp
         go_wp2_with fail
         go_roundw
         case rel=>exact ⟨j + 1,m,by omega,by go_num,by omega,ML7,DN6,BN6,XN6,HZ6,BB6⟩
         case measure=>simp [intOf];omega
     · obtain rfl:j = 3:=by omega
       have hle:¬ ((i:Int) - 1 + (3:Nat)) ≤ (i:Int) + 1:=by omega
       have ML7:Hid (v4_ M m (fM S (i + 1)) wr):=by rw [show fM S (i + 1) = fI S i 3 from by funext t k;exact (fI_three S i t k).symm];exact HML.out
       clear HML
       go_wp2_with fail
       go_roundw
       case rel=>exact ⟨i + 1,m,by omega,by go_num,by omega,ML7,HDN,HBN,HZ,HBb⟩
       case measure=>simp [intOf];omega
  · obtain rfl:i = S.length:=by omega
    go_wp2_with fail
    refine bodyPost_ret (v := .tuple #[.pointer (some ⟨M + 1,0,none⟩), .int .i64 0]) (by simp [results,Tryz.results66,go_sem]) rfl ?_
    exact ⟨M,rfl,by rw [← HM.out];exact BW.out.size,HDN.out,⟨n,HML.out⟩,BW.out.trans (HBb.out.mono (by rw [← HM.out];exact BW.out.size))⟩
end Go.Proofs.LS
namespace Go.Proofs.LB
open Go.RowKit Go.Sort Go.Proofs.LF
set_option maxHeartbeats 4000000
set_option maxRecDepth 100000
attribute [local go_sem] q1_ q2_ q6_
end Go.Proofs.LB
namespace Go.Proofs.LS
open Go.RowKit Go.Sort Go.Proofs.LF Go.Proofs.LB
set_option maxHeartbeats 4000000
set_option maxRecDepth 100000
attribute [local go_sem] q1_ q2_ q6_
structure ReR (S:List St) (n m:Nat) (as_ ac:Option Addr) (cs_ cc M D p1 p2 t:Nat) (W:World):Prop where
 d:W.heap[D]? = some (.cells #[.slice as_ n cs_, .slice ac m cc, .map (some M)] 221 (0,0))
 p1:W.heap[p1]? = some (.cells #[.pointer (some ⟨D,0,none⟩)] 159 (0,0))
 p2:W.heap[p2]? = some (.cells #[.int .i64 t] 3 (0,0))
 mp:∃ N,v4_ M N (fM S n) W
theorem ReR.kept {S:List St} {n m:Nat} {as_ ac:Option Addr} {cs_ cc M D p1 p2 t:Nat} {W W':World} (h:ReR S n m as_ ac cs_ cc M D p1 p2 t W) (hk:∀ b,(b = D ∨ b = p1 ∨ b = p2 ∨ b = M)→W'.heap[b]? = W.heap[b]?):ReR S n m as_ ac cs_ cc M D p1 p2 t W':=
 let ⟨N,hN⟩:=h.mp
 ⟨(hk _ (.inl rfl)).trans h.d,(hk _ (.inr (.inl rfl))).trans h.p1,(hk _ (.inr (.inr (.inl rfl)))).trans h.p2,⟨N,hN.kept (hk _ (.inr (.inr (.inr rfl))))⟩⟩
theorem ReR.lt {S:List St} {n m:Nat} {as_ ac:Option Addr} {cs_ cc M D p1 p2 t:Nat} {W:World} (h:ReR S n m as_ ac cs_ cc M D p1 p2 t W):∀ b,(b = D ∨ b = p1 ∨ b = p2 ∨ b = M)→b < W.heap.size:=by
 rintro b (rfl | rfl | rfl | rfl)
 · exact (ge_ h.d).1
 · exact (ge_ h.p1).1
 · exact (ge_ h.p2).1
 · exact h.mp.choose_spec.lt
theorem ReR.below {S:List St} {n m:Nat} {as_ ac:Option Addr} {cs_ cc M D p1 p2 t:Nat} {W W':World} (h:ReR S n m as_ ac cs_ cc M D p1 p2 t W) (hb:Below W.heap.size W W'):ReR S n m as_ ac cs_ cc M D p1 p2 t W':=
 h.kept fun b hB=>hb.block b (h.lt b hB)
theorem reach_any (S:List St) (n m:Nat) (as_ ac:Option Addr) (cs_ cc M D N t:Nat) (w:World) (hD:w.heap[D]? = some (.cells #[.slice as_ n cs_, .slice ac m cc, .map (some M)] 221 (0,0))) (hM:v4_ M N (fM S n) w) :
 Calls Tryz.prog 157 #[.pointer (some ⟨D,0,none⟩), .int .i64 t] w fun e w'=>e = .returned (.func (.func 202) #[] #[.pointer (some ⟨w.heap.size,0,none⟩), .pointer (some ⟨(w.heap.size + 1),0,none⟩)])∧ReR S n m as_ ac cs_ cc M D w.heap.size (w.heap.size + 1) t w'∧w'.heap.size = w.heap.size + 2∧Below w.heap.size w w':=by
 obtain ⟨w3,hw3⟩:∃ w3,(w.alloc (.cells #[.pointer (some ⟨D,0,none⟩)] 159)).alloc (.cells #[.int .i64 t] 3) = w3:=⟨_,rfl⟩
 have hz3:w3.heap.size = w.heap.size + 2:=by rw [← hw3];simp
 have hb3:Below w.heap.size w w3:=by rw [← hw3];exact ((Below.refl _ _).alloc (nl_ _) _).alloc (by simp) _
 have r1:w3.heap[w.heap.size]? = some (.cells #[.pointer (some ⟨D,0,none⟩)] 159 (0,0)):=by rw [← hw3];exact qc_ _ (ha_ _ _)
 have r2:w3.heap[w.heap.size + 1]? = some (.cells #[.int .i64 t] 3 (0,0)):=by rw [← hw3];have:=ha_ (w.alloc (.cells #[.pointer (some ⟨D,0,none⟩)] 159)) (.cells #[.int .i64 t] 3);simpa using this
 have HB:=hid hb3
 have RR:=hid (show ReR S n m as_ ac cs_ cc M D w.heap.size (w.heap.size + 1) t w3 from ⟨q0_ hD hb3,r1,r2,N,hM.kept (hb3.block M hM.lt)⟩)
 have HZ:=hid hz3
 clear hz3 hb3 r1 r2 hD hM
 go_enter Tryz.func157,Tryz.ntmps157
 go_wp2_with fail
 try rw [hw3]
 go_ret
 exact ⟨rfl,RR.out,HZ.out,HB.out⟩
theorem vm_:LF.z5_ 202:=by intro args W;simp [go_sem]
def rchL (S:List St) (n t:Nat):Nat→List Int
 | 0=>[]
 | k + 1=>rchL S n t k ++ if fM S n t k then [(k:Int)] else []
theorem ys_ (S:List St) (n t k:Nat):∀ d,rchL S n t k <+: rchL S n t (k + d)
 | 0=>List.prefix_refl _
 | d + 1=>(ys_ S n t k d).trans (List.prefix_append _ _)
theorem reach_seq (S:List St) (n m:Nat) (as_ ac:Option Addr) (cs_ cc M D p1 p2 t:Nat) (w:World) (hR:ReR S n m as_ ac cs_ cc M D p1 p2 t w) (hn:n ≤ 100) (ht:t ≤ 1000) :
 SeqI Tryz.prog 202 #[.pointer (some ⟨p1,0,none⟩), .pointer (some ⟨p2,0,none⟩)] (fun k:Int=>k) (fun k=>#[.int .i64 k]) (fun _ _ _=>True) (rchL S n t n) w (fun b=>b = D ∨ b = p1 ∨ b = p2 ∨ b = M):=by
 intro l J Jx O W hb hT hOw hJ hJx hY h0 N
 refine callsIn_of_wp Tryz.func202 rfl trivial ?_ rfl
 simp only [Tryz.ntmps202,List.size_toArray,List.length_cons,List.length_nil,Nat.reduceAdd,Nat.reduceSub,Array.replicate_succ,Array.replicate_zero,List.push_toArray,List.append_toArray,List.nil_append,List.cons_append]
 have HT:=hid hT
 have HOw:=hid hOw
 have HJ:=hid hJ
 have HY:=hid hY
 have LR:=hid (hR.below hb)
 have H0:=hid h0
 clear hb hT hOw hJ hJx hY hR h0
 have q1:=cg_ LR.out.p1 (k:=0) (v := .pointer (some ⟨D,0,none⟩)) rfl
 have q2:=cg_ LR.out.d (k:=0) (v := .slice as_ n cs_) rfl
 gi_wp2_with fail
 gi_loopw [11] (fun v wr=>∃ (k:Nat) (O':Nat→Prop),v = .int .i64 (k:Int)∧k ≤ n∧Hid (J (rchL S n t k) O' wr)∧Hid (∀ b,(b = D ∨ b = p1 ∨ b = p2 ∨ b = M)→¬ O' b)∧Hid (∀ b,O' b→b < wr.heap.size)∧Hid (qd_ (fun b=>b = D ∨ b = p1 ∨ b = p2 ∨ b = M) W wr)∧W.heap.size ≤ wr.heap.size) (fun v _=>n - (intOf v).toNat)
 case atStart=>exact ⟨0,O,rfl,by omega,H0.out,HT.out,HOw.out,fun b h=>rfl,nl_ _⟩
 case round=>
  obtain ⟨k,O',rfl,hk1,JK,TK,OK,AK,hz⟩:=hrel
  by_cases hlt:k < n
  · have hlt':(k:Int) < (n:Int):=by omega
    have LR2:=hid (LR.out.kept (W':=wr) fun b hb=>AK.out b hb)
    clear q1 q2
    have TD:=hid (fun b (h:b = D ∨ b = p1 ∨ b = p2 ∨ b = M)=>show b < W.heap.size from LR.out.lt b h)
    gi_wp2_with fail
    have SC:=hid (fun (V:World) (h:ReR S n m as_ ac cs_ cc M D p1 p2 t V)=>show V.cell? ⟨p1,0,none⟩ = some (.pointer (some ⟨D,0,none⟩))∧V.cell? ⟨D,2,none⟩ = some (.map (some M))∧V.cell? ⟨p2,0,none⟩ = some (.int .i64 t)∧(Instr.lookup 219 (.map (some M)) (.agg #[.int .i64 t, .int .i64 k]) false).run Tryz.prog V = .ok (.bool (fM S n t k)) V from ⟨cg_ h.p1 (k:=0) rfl,cg_ h.d (k:=2) rfl,cg_ h.p2 (k:=0) rfl,h.mp.choose_spec.look t k ht (by omega)⟩)
    have BX:=hid (show Below wr.heap.size wr wr.drew from (Below.refl _ wr).drew)
    have hS0:=LR2.out.below BX.out
    have hrk:rchL S n t (k + 1) = rchL S n t k ++ (if fM S n t k then [(k:Int)] else []):=rfl
    obtain ⟨b,hb⟩:∃ b,fM S n t k = b:=⟨_,rfl⟩
    rw [hb] at SC hrk
    have HRK:=hid hrk
    clear hrk
    refine q8_ (fun V:World=>ReR S n m as_ ac cs_ cc M D p1 p2 t V) (by kernel_rfl) ?_
    refine tkY 0 14 (.pointer (some ⟨D,0,none⟩)) rfl rfl hS0 (fun w' hs=>?_) ?_
    · obtain ⟨q0,q1,q2,q3⟩:=SC.out _ hs
      go_simp
    refine tkY 1 15 (.pointer (some ⟨D,0,none⟩)) rfl rfl hS0 (fun w' hs=>?_) ?_
    · obtain ⟨q0,q1,q2,q3⟩:=SC.out _ hs
      go_simp
    refine tkY 2 16 (.pointer (some ⟨D,2,none⟩)) rfl rfl hS0 (fun w' hs=>?_) ?_
    · obtain ⟨q0,q1,q2,q3⟩:=SC.out _ hs
      go_simp
    refine tkY 3 17 (.map (some M)) rfl rfl hS0 (fun w' hs=>?_) ?_
    · obtain ⟨q0,q1,q2,q3⟩:=SC.out _ hs
      go_simp
    refine tkY 4 18 (.int .i64 t) rfl rfl hS0 (fun w' hs=>?_) ?_
    · obtain ⟨q0,q1,q2,q3⟩:=SC.out _ hs
      go_simp
    refine tkY 5 19 (.int .i64 k) rfl rfl hS0 (fun w' hs=>?_) ?_
    · obtain ⟨q0,q1,q2,q3⟩:=SC.out _ hs
      go_simp
    refine tkY 6 20 (.agg #[.int .i64 t, .int .i64 k]) rfl rfl hS0 (fun w' hs=>?_) ?_
    · obtain ⟨q0,q1,q2,q3⟩:=SC.out _ hs
      go_simp
    refine tkY 7 21 (.bool b) rfl rfl hS0 (fun w' hs=>?_) ?_
    · obtain ⟨q0,q1,q2,q3⟩:=SC.out _ hs
      go_simp
    cases b with
    | false=>
      refine tkY 8 22 (.bool false) rfl rfl hS0 (fun w' hs=>?_) ?_
      · obtain ⟨q0,q1,q2,q3⟩:=SC.out _ hs
        go_simp
      refine tkN 9 23 rfl rfl hS0 ?_
      refine tkN 10 24 rfl rfl hS0 ?_
      refine tkN 11 25 rfl rfl hS0 ?_
      refine tkN 12 26 rfl rfl hS0 ?_
      refine tkY 13 27 (.bool false) rfl rfl hS0 (fun w' hs=>?_) ?_
      · obtain ⟨q0,q1,q2,q3⟩:=SC.out _ hs
        go_simp
      refine q7_ (by kernel_rfl) ?_
      go_simp
      have JK2:=hid (HJ.out _ _ _ _ JK.out BX.out)
      gi_wp2_with fail
      go_roundw
      case rel=>exact ⟨k + 1,O',by go_num,by omega,hid (by rw [HRK.out];simpa using JK2.out),TK.out,fun b h=>OK.out b h,AK.out,hz⟩
      case measure=>simp [intOf];omega
    | true=>
      have HRK2:=hid (show rchL S n t k ++ [(k:Int)] = rchL S n t (k + 1) from HRK.out.symm)
      obtain ⟨v3,hv3⟩:∃ v3,wr.drew = v3:=⟨_,rfl⟩
      rw [hv3] at BX hS0 ⊢
      clear hv3
      have JK2:=hid (HJ.out _ _ _ _ JK.out BX.out)
      have hpx:rchL S n t k ++ [(k:Int)] <+: rchL S n t n:=by
       rw [HRK2.out]
       have:=ys_ S n t (k + 1) (n - (k + 1))
       rwa [show k + 1 + (n - (k + 1)) = n by omega] at this
      have HPX:=hid hpx
      obtain ⟨fn,tmps,assign,body,hy,hRR⟩:=HY.out (N - 1) _ (k:Int) _ _ JK2.out hpx trivial
      have HR:=hid hRR
      clear hRR hpx
      refine tkY 8 22 (.bool true) rfl rfl hS0 (fun w' hs=>?_) ?_
      · obtain ⟨q0,q1,q2,q3⟩:=SC.out _ hs
        go_simp
      refine tkY 9 23 (.func (.yield l) #[] #[]) rfl rfl hS0 (fun w' hs=>?_) ?_
      · obtain ⟨q0,q1,q2,q3⟩:=SC.out _ hs
        go_simp
      refine tkY 10 24 (.int .i64 k) rfl rfl hS0 (fun w' hs=>?_) ?_
      · obtain ⟨q0,q1,q2,q3⟩:=SC.out _ hs
        go_simp
      refine aHO 11 rfl fun K hK=>?_
      go_simp
      refine ⟨fun h=>(by cases h),HR.out.mono ?_⟩
      have BZ:=BX.out.size
      rintro e W5 (⟨rfl,O2,hJ5,hk5,hO5,hO6⟩ | ⟨rfl,O2,hJ5,hk5⟩)
      · have hkz:=hk5.size
        have hag5:∀ b,(b = D ∨ b = p1 ∨ b = p2 ∨ b = M)→W5.heap[b]? = W.heap[b]?:=fun b h=>by
         have hd:=TD.out b h
         exact (hk5.block b (by omega) (TK.out b h)).trans ((BX.out.block b (by omega)).trans (AK.out b h))
        have hS5:=LR.out.kept (W':=W5) hag5
        refine hK _ _ ⟨hS5,?_⟩
        rw [HRK2.out] at hJ5
        have J5:=hid hJ5
        have A5:=hid hag5
        have O5:=hid hO5
        have O6:=hid hO6
        clear hK hJ5 hk5 hO5 hO6 hS0 hag5
        refine tkY 12 26 (.bool false) rfl rfl hS5 (fun w' hs=>?_) ?_
        · obtain ⟨q0,q1,q2,q3⟩:=SC.out _ hs
          go_simp
        refine tkY 13 27 (.bool false) rfl rfl hS5 (fun w' hs=>?_) ?_
        · obtain ⟨q0,q1,q2,q3⟩:=SC.out _ hs
          go_simp
        refine q7_ (by kernel_rfl) ?_
        go_simp
        clear hS5
        gi_wp2_with fail
        go_roundw
        case rel=>
         refine ⟨k + 1,O2,by go_num,by omega,J5.out,fun b h h2=>?_,O6.out,A5.out,by omega⟩
         rcases O5.out b h2 with h3 | h3
         · exact TK.out b h h3
         · have:=TD.out b h;omega
        case measure=>simp [intOf];omega
      · have hkz:=hk5.size
        have hag5:∀ b,(b = D ∨ b = p1 ∨ b = p2 ∨ b = M)→W5.heap[b]? = W.heap[b]?:=fun b h=>by
         have hd:=TD.out b h
         exact (hk5.block b (by omega) (TK.out b h)).trans ((BX.out.block b (by omega)).trans (AK.out b h))
        have hS5:=LR.out.kept (W':=W5) hag5
        refine hK _ _ ⟨hS5,?_⟩
        have J5:=hid hJ5
        clear hK hJ5 hk5 hS0 hag5
        refine tkY 12 26 (.bool true) rfl rfl hS5 (fun w' hs=>?_) ?_
        · obtain ⟨q0,q1,q2,q3⟩:=SC.out _ hs
          go_simp
        refine tkY 13 27 (.bool true) rfl rfl hS5 (fun w' hs=>?_) ?_
        · obtain ⟨q0,q1,q2,q3⟩:=SC.out _ hs
          go_simp
        refine q7_ (by kernel_rfl) ?_
        go_simp
        clear hS5
        gi_wp2_with fail
        refine bodyPost_ret (results_none rfl _ _ _) rfl ?_
        first
         | exact ⟨⟨_,rfl⟩, .inr ⟨_,O2,HPX.out,J5.out⟩⟩
         | exact ⟨⟨_,rfl⟩, .inr ⟨_,HPX.out,O2,J5.out⟩⟩
  · gi_wp2_with fail
    go_end0
    obtain rfl:k = n:=by omega
    exact ⟨⟨_,rfl⟩, .inl ⟨O',JK.out⟩⟩
end Go.Proofs.LS
namespace Go.Proofs.LB
open Go.RowKit Go.Sort Go.Proofs.LF
set_option maxHeartbeats 4000000
set_option maxRecDepth 100000
attribute [local go_sem] q1_ q2_ q6_
end Go.Proofs.LB
namespace Go.Proofs.LS
open Go.RowKit Go.Sort Go.Proofs.LF Go.Proofs.LB
set_option maxHeartbeats 4000000
set_option maxRecDepth 100000
attribute [local go_sem] q1_ q2_ q6_
theorem ret169 {f:Func} {r:Nat} (hr:f.results = #[.cell r 169]) {tmps:Array Value} {W:World} {b:Nat} {x:Value} (h:W.heap[b]? = some (.cells #[x] 169 (0,0))) (h2:tmps.getD r undef = .pointer (some ⟨b,0,none⟩)) :
 (results f tmps).run Tryz.prog W = .ok (.agg #[x]) W:=by
 have h0:=cg_ h (k:=0) rfl
 rw [zx_ hr,h2]
 simp [go_sem,h0]
theorem set1 {W:World} {b:Nat} {t:TypeId} {x x':Value} (h:W.heap[b]? = some (.cells #[x] t (0,0))):(W.setCell ⟨b,0,none⟩ x').heap[b]? = some (.cells #[x'] t (0,0)):=by
 simp [World.setCell,Array.getElem?_modify,h]
theorem some_any (D:Nat) (w:World):Calls Tryz.prog 118 #[.func (.func 119) #[.pointer (some ⟨D,0,none⟩)] #[]] w fun e w'=>e = .returned (.agg #[.func (.func 162) #[] #[.pointer (some ⟨w.heap.size,0,none⟩)]])∧w'.heap[w.heap.size]? = some (.cells #[.func (.func 119) #[.pointer (some ⟨D,0,none⟩)] #[]] 240 (0,0))∧Below w.heap.size w w':=by
 obtain ⟨w1,hw1⟩:∃ w1,w.alloc (.cells #[.func (.func 119) #[.pointer (some ⟨D,0,none⟩)] #[]] 240) = w1:=⟨_,rfl⟩
 have hb1:Below w.heap.size w w1:=by rw [← hw1];exact (Below.refl _ _).alloc (nl_ _) _
 have hn:w1.heap[w.heap.size]? = some (.cells #[.func (.func 119) #[.pointer (some ⟨D,0,none⟩)] #[]] 240 (0,0)):=by rw [← hw1];exact ha_ _ _
 obtain ⟨w2,hw2⟩:∃ w2,w1.alloc (.cells #[.nilFunc] 169) = w2:=⟨_,rfl⟩
 have hz1:=hb1.size
 have hlt:w.heap.size < w1.heap.size:=(ge_ hn).1
 have hb2:Below w.heap.size w w2:=by rw [← hw2];exact hb1.alloc hz1 _
 have hn2:w2.heap[w.heap.size]? = some (.cells #[.func (.func 119) #[.pointer (some ⟨D,0,none⟩)] #[]] 240 (0,0)):=by rw [← hw2];exact (heap_alloc_old _ _ hlt).trans hn
 have hr2:w2.heap[w1.heap.size]? = some (.cells #[.nilFunc] 169 (0,0)):=by rw [← hw2];exact ha_ _ _
 have p0:=cg_ hr2 (k:=0) rfl
 have f0:=cells_frz hr2 (k:=0)
 have HR2:=hid hr2
 have HB2:=hid hb2
 have HN2:=hid hn2
 have HZ:=hid hz1
 have HLT:=hid hlt
 clear hn hn2 hr2 hb1 hb2 hz1 hlt
 go_enter Tryz.func118,Tryz.ntmps118
 go_wp2_with fail
 refine bodyPost_ret (v := .agg #[.func (.func 162) #[] #[.pointer (some ⟨w.heap.size,0,none⟩)]]) (ret169 rfl (set1 HR2.out) rfl) rfl ?_
 exact ⟨rfl,(Below.heap_setCell _ _ _ _ (by have:=HLT.out;simp;omega)).trans HN2.out,Below.setCell HB2.out (p:=⟨w1.heap.size,0,none⟩) HZ.out _⟩
theorem theft_any (D:Nat) (w:World):Calls Tryz.prog 68 #[.pointer (some ⟨D,0,none⟩)] w fun e w'=>∃ b1,e = .returned (.agg #[.func (.func 162) #[] #[.pointer (some ⟨b1,0,none⟩)]])∧w.heap.size ≤ b1∧w'.heap[b1]? = some (.cells #[.func (.func 119) #[.pointer (some ⟨D,0,none⟩)] #[]] 240 (0,0))∧Below w.heap.size w w':=by
 obtain ⟨w2,hw2⟩:∃ w2,w.alloc (.cells #[.nilFunc] 169) = w2:=⟨_,rfl⟩
 have hb2:Below w.heap.size w w2:=by rw [← hw2];exact (Below.refl _ _).alloc (nl_ _) _
 have hr2:w2.heap[w.heap.size]? = some (.cells #[.nilFunc] 169 (0,0)):=by rw [← hw2];exact ha_ _ _
 have HR2:=hid hr2
 have HB2:=hid hb2
 have SA:=hid (some_any D w2)
 clear hr2 hb2
 go_enter Tryz.func68,Tryz.ntmps68
 go_wp2_with fail
 refine SA.out.mono ?_
 rintro e w3 ⟨rfl,h1,hb3⟩
 have hr3:=q0_ HR2.out hb3
 have p0:=cg_ hr3 (k:=0) rfl
 have f0:=cells_frz hr3 (k:=0)
 have HR3:=hid hr3
 have H1:=hid h1
 have HB3:=hid hb3
 have hz2:w.heap.size < w2.heap.size:=(ge_ HR2.out).1
 have HZ2:=hid hz2
 clear hr3 h1 hb3 hz2
 go_wp2_with fail
 refine bodyPost_ret (v := .agg #[.func (.func 162) #[] #[.pointer (some ⟨w2.heap.size,0,none⟩)]]) (ret169 rfl (set1 HR3.out) rfl) rfl ?_
 exact ⟨w2.heap.size,rfl,HB2.out.size,(Below.heap_setCell _ _ _ _ (by have:=HZ2.out;simp;omega)).trans H1.out,Below.setCell (HB2.out.trans (HB3.out.mono HB2.out.size)) (p:=⟨w.heap.size,0,none⟩) (nl_ _) _⟩
theorem other_any (S:List St) (m M D:Nat) (as_ ac:Option Addr) (cs_ cc:Nat) (B:Nat→Prop) (t k:Nat) (w:World) (hs:LSl v3_ B w (.slice as_ S.length cs_) S) (hB:∀ b,B b→b < w.heap.size) (hD:w.heap[D]? = some (.cells #[.slice as_ S.length cs_, .slice ac m cc, .map (some M)] 221 (0,0))) (hk:k < S.length) (h6:S.length ≤ 100) :
 Calls Tryz.prog 119 #[.pointer (some ⟨D,0,none⟩), .agg #[.int .i64 t, .int .i64 k]] w fun e w'=>e = .returned (.bool (((S.getD k st0).t != (t:Int))))∧Below w.heap.size w w':=by
 obtain ⟨_,_,he,_,hmm,hat⟩:=LSl.at hs
 cases he
 obtain ⟨g,o,cs1,rfl,hg,hc,hcell⟩:=hat k hk
 have hc:cs1 = (stC S[k]).toList:=hc
 have hgd:S.getD k st0 = S[k]:=by simp [List.getD_eq_getElem?_getD,List.getElem?_eq_getElem hk]
 obtain ⟨x,hx⟩:∃ x,S[k] = x:=⟨_,rfl⟩
 rw [hx] at hc hgd
 subst hc
 have e0:=hcell 0 _ rfl
 rw [Nat.add_zero] at e0
 have hgl:=hB g hg
 have hDl:=(ge_ hD).1
 unfold maxLen at hmm
 obtain ⟨w1,hw1⟩:∃ w1,w.alloc (.cells #[.int .i64 t, .int .i64 k] 223) = w1:=⟨_,rfl⟩
 have hb1:Below w.heap.size w w1:=by rw [← hw1];exact (Below.refl _ _).alloc (nl_ _) _
 have hn:w1.heap[w.heap.size]? = some (.cells #[.int .i64 t, .int .i64 k] 223 (0,0)):=by rw [← hw1];exact ha_ _ _
 have c0:=bc_ hb1 hgl e0
 have hD1:=q0_ hD hb1
 have d0:=cg_ hD1 (k:=0) (v := .slice (some ⟨g,o,none⟩) S.length cs_) rfl
 have p0:=cg_ hn (k:=0) (v := .int .i64 t) rfl
 have p1:=cg_ hn (k:=1) (v := .int .i64 k) rfl
 have hk':(k:Int) < (S.length:Int):=by omega
 have hk0:(0:Int) ≤ (k:Int):=by omega
 rw [hgd]
 have HB:=hid hb1
 clear hat hcell e0 hb1 hn hD hD1 hs hB hx hgd
 go_enter Tryz.func119,Tryz.ntmps119
 go_upto_region 1 with fail
 try rw [hw1]
 clear hw1
 have hS0:w1.drew.cell? ⟨D,0,none⟩ = some (.slice (some ⟨g,o,none⟩) S.length cs_)∧w1.drew.cell? ⟨w.heap.size,0,none⟩ = some (.int .i64 t)∧w1.drew.cell? ⟨w.heap.size,1,none⟩ = some (.int .i64 k)∧w1.drew.cell? ⟨g,o + k * 7,none⟩ = some (.int .i64 x.t):=⟨d0,p0,p1,c0⟩
 refine (wpIn_wide (n:=9)).1 ?_
 refine q8_ (fun V:World=>V.cell? ⟨D,0,none⟩ = some (.slice (some ⟨g,o,none⟩) S.length cs_)∧V.cell? ⟨w.heap.size,0,none⟩ = some (.int .i64 t)∧V.cell? ⟨w.heap.size,1,none⟩ = some (.int .i64 k)∧V.cell? ⟨g,o + k * 7,none⟩ = some (.int .i64 x.t)) (by kernel_rfl) ?_
 refine tkZ 0 5 (.pointer (some ⟨D,0,none⟩)) rfl rfl hS0 ?_
 refine tkZ 1 6 (.pointer (some ⟨D,0,none⟩)) rfl rfl hS0 ?_
 refine tkZ 2 7 (.pointer (some ⟨D,0,none⟩)) rfl rfl hS0 ?_
 refine tkZ 3 8 (.pointer (some ⟨D,0,none⟩)) rfl rfl hS0 ?_
 refine tkZ 4 9 (.slice (some ⟨g,o,none⟩) S.length cs_) rfl rfl hS0 ?_
 refine tkZ 5 10 (.pointer (some ⟨w.heap.size,1,none⟩)) rfl rfl hS0 ?_
 refine tkZ 6 11 (.int .i64 k) rfl rfl hS0 ?_
 refine tkZ 7 12 (.pointer (some ⟨g,o + k * 7,none⟩)) rfl rfl hS0 ?_
 refine tkZ 8 13 (.pointer (some ⟨g,o + k * 7,none⟩)) rfl rfl hS0 ?_
 refine tkZ 9 14 (.int .i64 x.t) rfl rfl hS0 ?_
 refine tkZ 10 15 (.pointer (some ⟨w.heap.size,0,none⟩)) rfl rfl hS0 ?_
 refine tkZ 11 16 (.int .i64 t) rfl rfl hS0 ?_
 refine tkZ 12 17 (.bool (x.t != (t:Int))) rfl rfl hS0 ?_
 refine tkZ 13 4 (.bool (x.t != (t:Int))) rfl rfl hS0 ?_
 refine q7_ (by kernel_rfl) ?_
 go_simp
 go_wp2_with fail
 go_ret
 exact ⟨rfl,HB.out.drew⟩
theorem some1_any (S:List St) (m M D b1:Nat) (as_ ac:Option Addr) (cs_ cc:Nat) (B:Nat→Prop) (t k:Nat) (w:World) (hs:LSl v3_ B w (.slice as_ S.length cs_) S) (hB:∀ b,B b→b < w.heap.size) (hD:w.heap[D]? = some (.cells #[.slice as_ S.length cs_, .slice ac m cc, .map (some M)] 221 (0,0))) (h1:w.heap[b1]? = some (.cells #[.func (.func 119) #[.pointer (some ⟨D,0,none⟩)] #[]] 240 (0,0))) (hk:k < S.length) (h6:S.length ≤ 100) :
 Calls Tryz.prog 162 #[.agg #[.int .i64 t, .int .i64 k], .pointer (some ⟨b1,0,none⟩)] w fun e w'=>e = .returned (.int .i64 (oth S t k))∧Below w.heap.size w w':=by
 obtain ⟨w1,hw1⟩:∃ w1,w.alloc (.cells #[.int .i64 t, .int .i64 k] 223) = w1:=⟨_,rfl⟩
 have hb1:Below w.heap.size w w1:=by rw [← hw1];exact (Below.refl _ _).alloc (nl_ _) _
 have hn:w1.heap[w.heap.size]? = some (.cells #[.int .i64 t, .int .i64 k] 223 (0,0)):=by rw [← hw1];exact ha_ _ _
 have OT:=hid (other_any S m M D as_ ac cs_ cc B t k w1 (hs.agree (q9_ hb1 hB)) (fun b hb=>by have:=hB b hb;have:=hb1.size;omega) (q0_ hD hb1) hk h6)
 have f0:=cg_ (q0_ h1 hb1) (k:=0) (v := .func (.func 119) #[.pointer (some ⟨D,0,none⟩)] #[]) rfl
 have p0:=cg_ hn (k:=0) (v := .int .i64 t) rfl
 have p1:=cg_ hn (k:=1) (v := .int .i64 k) rfl
 have HB:=hid hb1
 have HO:=hid (show oth S t k = if ((S.getD k st0).t != (t:Int)) then 1 else 0 by rw [oth,show (⟨0,0,0,0,0,0,0⟩:St) = st0 from rfl];by_cases h:(S.getD k st0).t = (t:Int) <;> simp only [bne,h,beq_self_eq_true,if_true,Bool.not_true,Bool.false_eq_true,if_false,beq_iff_eq,Bool.not_eq_true',beq_eq_false_iff_ne,ne_eq,not_false_eq_true,not_true_eq_false])
 obtain ⟨b,hb⟩:∃ b,((S.getD k st0).t != (t:Int)) = b:=⟨_,rfl⟩
 rw [hb] at OT HO
 clear hb1 hn hb hD h1 hs
 cases b with
 | true=>
   go_enter Tryz.func162,Tryz.ntmps162
   go_wp2_with fail
   refine OT.out.mono ?_
   rintro e w2 ⟨rfl,hb2⟩
   go_wp2_with fail
   go_ret
   rw [HO.out]
   exact ⟨rfl,HB.out.trans (hb2.mono HB.out.size)⟩
 | false=>
   go_enter Tryz.func162,Tryz.ntmps162
   go_wp2_with fail
   refine OT.out.mono ?_
   rintro e w2 ⟨rfl,hb2⟩
   go_wp2_with fail
   go_ret
   rw [HO.out]
   exact ⟨rfl,HB.out.trans (hb2.mono HB.out.size)⟩
theorem vL_ (S:List St):∀ k,(zI_ S k).length = k
 | 0=>rfl
 | k + 1=>by rw [zI_,List.length_append,vL_ S k];rfl
def wayR (S:List St) (t:Nat) (k:Int):Way:=⟨1 + k.toNat,7 + t,0,1000000,oth S t k.toNat,0⟩
theorem xH_ (S:List St) (t:Nat):laidR S t = (rchL S S.length t S.length).map (wayR S t):=by
 have:∀ m,m ≤ S.length→(((List.range m).filter fun k=>rch S t k).map fun k=>(⟨1 + k,7 + t,0,1000000,oth S t k,0⟩:Way)) = (rchL S S.length t m).map (wayR S t):=by
  intro m
  induction m with
  | zero=>intro _;rfl
  | succ m ih=>
    intro hm
    have h1:fM S S.length t m = rch S t m:=by
     rw [fM,decide_eq_true (by omega),Bool.true_and];rfl
    rw [List.range_succ,List.filter_append,List.map_append,ih (by omega),rchL,List.map_append,h1]
    congr 1
    by_cases h2:rch S t m = true
    · simp [h2,wayR]
    · simp [h2]
 exact this _ (nl_ _)
theorem rchL_mem (S:List St) (n t:Nat):∀ {m:Nat} {k:Int},k ∈ rchL S n t m→∃ kk:Nat,k = (kk:Int)∧kk < m
 | 0,_,h=>by simp [rchL] at h
 | m + 1,k,h=>by
   rw [rchL,List.mem_append] at h
   rcases h with h | h
   · obtain ⟨kk,h1,h2⟩:=rchL_mem S n t h
     exact ⟨kk,h1,by omega⟩
   · split at h
     · exact ⟨m,List.mem_singleton.1 h,by omega⟩
     · simp at h
theorem xv_ (S:List St) (n t:Nat):∀ m,(rchL S n t m).length ≤ m
 | 0=>by simp [rchL]
 | m + 1=>by
   have:=xv_ S n t m
   rw [rchL,List.length_append]
   split <;> simp <;> omega
theorem vc_ (S:List St) (C:List Sp):∀ t,(laidT S C t).length ≤ S.length + t * (S.length + 1)
 | 0=>by rw [laidT,vL_];omega
 | t + 1=>by
   have:=vc_ S C t
   have h2:=xv_ S S.length t S.length
   rw [laidT,List.length_append,List.length_append,xH_,List.length_map,List.length_singleton,Nat.add_mul];omega
end Go.Proofs.LS
namespace Go.Proofs.LB
open Go.RowKit Go.Sort Go.Proofs.LF
set_option maxHeartbeats 4000000
set_option maxRecDepth 100000
attribute [local go_sem] q1_ q2_ q6_
theorem wpIn_val {F:Fence} {n:Nat} {P:Program} {Q:Exit→Act→World→Prop} {o:Oper} {a:Act} {w w':World} {v:Value} {K:Act→World→Prop} (hF:∀ f,F.fn f) (hnd:qk_ o = true) (h:(execOp a.eval o).run P w = .ok (.value v) w') (hk:K (a.put o.dst v) w'):Oper.wpIn F n P o a w K Q:=by
 simp only [Oper.wpIn,zP_ hnd,h,Oper.uponIn]
 exact ⟨fun f _=>hF f,hk⟩
theorem exec_load {P:Program} {o:Oper} {a:Act} {w w':World} {x:Operand} {v r:Value} (t:TypeId) (ho:o.op = .load t x) (hx:a.eval x = v) (hr:(Instr.loadAt t v).run P w = .ok r w'):(execOp a.eval o).run P w = .ok (.value r) w':=by
 unfold execOp
 simp [ho,hx,hr,Result.andThen]
end Go.Proofs.LB
namespace Go.Proofs.LS
open Go.RowKit Go.Sort Go.Proofs.LF Go.Proofs.LB
set_option maxHeartbeats 4000000
set_option maxRecDepth 100000
attribute [local go_sem] q1_ q2_ q6_
attribute [local go_sem] yh_ y9_
def wC (x:Way):Array Value:=#[.int .i64 x.f, .int .i64 x.t, .int .i64 x.lo, .int .i64 x.hi, .int .i64 x.cost, .int .i64 x.goes]
def wV (l:List Way):List Value:=l.flatMap fun x=>(wC x).toList
theorem wV_app (l m:List Way):wV (l ++ m) = wV l ++ wV m:=by simp [wV]
theorem wV_one (l:List Way):∀ u ∈ wV l,u.oneCell' = true:=by
 intro u hu
 obtain ⟨x,_,h⟩:=List.mem_flatMap.1 hu
 simp [wC] at h
 rcases h with rfl | rfl | rfl | rfl | rfl | rfl <;> rfl
theorem Tryz.info229:(Tryz.prog.info? 229).map (fun i=>(i.zero,i.size,i.bytes)) = some (some (.agg #[.int .i64 0, .int .i64 0, .int .i64 0, .int .i64 0, .int .i64 0, .int .i64 0]),6,48):=by kernel_rfl
theorem k8_ {w:World} {base e k n b:Nat} {v:Value} {xs:List Value} (h:w.ownsRow base e k v n xs) (hb:v.ownBlock = some b) (x:Option (List Deferred)) (he:w.heap[b]? = some (Obj.deferred x)):False:=by
 obtain ⟨_,⟨rfl,_⟩ | ⟨g,cap,cur,rfl,_,hg,_⟩⟩:=h
 · cases hb
 · obtain rfl:g = b:=by simpa [Value.ownBlock] using hb
   rw [hg] at he;cases he
structure LdS (q b1:Nat) (w:World) (ws:List Way) (v:Value) (W:World):Prop where
 c:W.heap[q]? = some (.cells #[.func (.func 162) #[] #[.pointer (some ⟨b1,0,none⟩)]] 169 (0,0))
 n:W.heap[q + 1]? = some (.cells #[v] 227 (0,0))
 p:W.heap[q + 2]? = some (.cells #[.pointer (some ⟨(q + 1),0,none⟩)] 162 (0,0))
 own:W.ownsRow (q + 3) 229 6 v ws.length (wV ws)
 bel:Below q w W
 sz:q + 3 ≤ W.heap.size
theorem LdS.below {q b1:Nat} {w:World} {ws:List Way} {v:Value} {W W':World} (h:LdS q b1 w ws v W) (hb:Below W.heap.size W W'):LdS q b1 w ws v W':=
 ⟨q0_ h.c hb,q0_ h.n hb,q0_ h.p hb,ob_ h.own hb (nl_ _),h.bel.trans (hb.mono (by have:=h.sz;omega)),by have:=h.sz;have:=hb.size;omega⟩
theorem LdS.push {q b1:Nat} {w:World} {ws:List Way} {v v':Value} {x:Way} {W W':World} (h:LdS q b1 w ws v W) (ho:W'.ownsRow (q + 3) 229 6 v' (ws.length + 1) (wV ws ++ wV [x])) (hg:W.grownBy W' v.ownBlock):LdS q b1 w (ws ++ [x]) v' (W'.setCell ⟨q + 1,0,none⟩ v'):=by
 have hs:=h.sz
 have hgz:=hg.size
 have hnb:∀ b,b < q + 3→W'.heap[b]? = W.heap[b]?:=fun b hb=>hg.block b (by omega) fun e=>by have:=(h.own.lt _ e.symm).1;omega
 have hst:∀ b,b ≠ q + 1→(W'.setCell ⟨q + 1,0,none⟩ v').heap[b]? = W'.heap[b]?:=fun b hb=>Below.heap_setCell _ _ _ _ hb
 refine ⟨(hst _ (by omega)).trans ((hnb _ (by omega)).trans h.c),set1 ((hnb _ (by omega)).trans h.n),(hst _ (by omega)).trans ((hnb _ (by omega)).trans h.p),?_,?_,by simp [World.setCell];omega⟩
 · rw [List.length_append,wV_app]
   exact owns_agree ho fun g hg=>hst g (by have:=(ho.lt _ hg).1;omega)
 · exact Below.setCell (h.bel.grown hg (by omega) fun b hb=>by have:=(h.own.lt _ hb).1;omega) (p:=⟨q + 1,0,none⟩) (by simp) _
theorem laid_any (S:List St) (C:List Sp) (M D b1 N:Nat) (as_ ac:Option Addr) (cs_ cc:Nat) (B:Nat→Prop) (w:World) (hs:LSl v3_ B w (.slice as_ S.length cs_) S) (hc:LSl vO_ B w (.slice ac C.length cc) C) (hB:∀ b,B b→b < w.heap.size)
 (hD:w.heap[D]? = some (.cells #[.slice as_ S.length cs_, .slice ac C.length cc, .map (some M)] 221 (0,0))) (hM:v4_ M N (fM S S.length) w) (h1:w.heap[b1]? = some (.cells #[.func (.func 119) #[.pointer (some ⟨D,0,none⟩)] #[]] 240 (0,0))) (hO:OkSc S C) :
 Calls Tryz.prog 113 #[.pointer (some ⟨D,0,none⟩), .agg #[.func (.func 162) #[] #[.pointer (some ⟨b1,0,none⟩)]]] w fun e w'=>∃ v,e = .returned (.pointer (some ⟨(w.heap.size + 1),0,none⟩))∧w'.heap[w.heap.size + 1]? = some (.cells #[v] 227 (0,0))∧w'.ownsRow (w.heap.size + 3) 229 6 v (laid S C).length (wV (laid S C))∧Below w.heap.size w w':=by
 obtain ⟨w3,hw3⟩:∃ w3,((w.alloc (.cells #[.func (.func 162) #[] #[.pointer (some ⟨b1,0,none⟩)]] 169)).alloc (.cells #[.slice none 0 0] 227)).alloc (.cells #[.pointer (some ⟨(w.heap.size + 1),0,none⟩)] 162) = w3:=⟨_,rfl⟩
 have hz3:w3.heap.size = w.heap.size + 3:=by rw [← hw3];simp
 have hb3:Below w.heap.size w w3:=by rw [← hw3];exact (((Below.refl _ _).alloc (nl_ _) _).alloc (by simp) _).alloc (by simp;omega) _
 have r1:w3.heap[w.heap.size]? = some (.cells #[.func (.func 162) #[] #[.pointer (some ⟨b1,0,none⟩)]] 169 (0,0)):=by rw [← hw3];exact qc_ _ (qc_ _ (ha_ _ _))
 have r2:w3.heap[w.heap.size + 1]? = some (.cells #[.slice none 0 0] 227 (0,0)):=by rw [← hw3];have:=qc_ (.cells #[.pointer (some ⟨(w.heap.size + 1),0,none⟩)] 162) (ha_ (w.alloc (.cells #[.func (.func 162) #[] #[.pointer (some ⟨b1,0,none⟩)]] 169)) (.cells #[.slice none 0 0] 227));simpa using this
 have r3:w3.heap[w.heap.size + 2]? = some (.cells #[.pointer (some ⟨(w.heap.size + 1),0,none⟩)] 162 (0,0)):=by rw [← hw3];have:=ha_ ((w.alloc (.cells #[.func (.func 162) #[] #[.pointer (some ⟨b1,0,none⟩)]] 169)).alloc (.cells #[.slice none 0 0] 227)) (.cells #[.pointer (some ⟨(w.heap.size + 1),0,none⟩)] 162);simpa using this
 have HSs:=hid hs
 have HCs:=hid hc
 have HB:=hid hB
 have HD:=hid hD
 have HM:=hid hM
 have H1:=hid h1
 have HO:=hid hO
 have h6:=hO.s
 have h5:=hO.c
 obtain ⟨q,hq⟩:∃ q,w.heap.size = q:=⟨_,rfl⟩
 rw [hq] at r1 r2 r3
 have L0:=hid (show LdS q b1 w [] (.slice none 0 0) w3 from ⟨r1,r2,r3,World.ownsRow_nil _ _ _ _,hq ▸ hb3,by omega⟩)
 clear hb3 r1 r2 r3 hs hc hB hM h1 hO
 have hDl:=(ge_ hD).1
 have d0:=cg_ (q0_ hD (hq ▸ L0.out.bel)) (k:=0) (v := .slice as_ S.length cs_) rfl
 have HQ:=hid hq
 have HZ3:=hid hz3
 clear hD hq hz3
 refine (callsIn_wide (n:=9)).1 ?_
 refine callsIn_of_wp_marks Tryz.func113 rfl trivial ?_ rfl
 simp only [Tryz.ntmps113,List.size_toArray,List.length_cons,List.length_nil,Nat.reduceAdd,Nat.reduceSub,Array.replicate_succ,Array.replicate_zero,List.push_toArray,List.append_toArray,List.nil_append,List.cons_append]
 refine wd_ ?_
 gi_wp2_with fail
 try rw [hw3]
 simp only [HQ.out]
 obtain ⟨_,_,he,_,hmm,hat⟩:=LSl.at HSs.out
 cases he
 unfold maxLen at hmm
 have HAT:=hid hat
 obtain ⟨_,_,he,_,hmm2,hat2⟩:=LSl.at HCs.out
 cases he
 unfold maxLen at hmm2
 have HAT2:=hid hat2
 clear hat hat2
 obtain ⟨i0,hi0,hy0,hy1,hy2⟩:=info_parts Tryz.info229
 have ht229:=Tryz.underlying225
 clear hw3 d0
 gi_loopw [19] (fun vi wr=>∃ (k:Nat) (v:Value),k ≤ S.length∧vi = .int .i64 k∧Hid (LdS q b1 w (zI_ S k) v wr)) (fun vi _=>S.length - (intOf vi).toNat)
 case atStart=>exact ⟨0,_,by omega,rfl,L0.out⟩
 case round=>
  obtain ⟨k,v,hk,rfl,HL⟩:=hrel
  have i1:(0:Int) ≤ (k:Int):=by omega
  by_cases hlt:k < S.length
  · have hlt':(k:Int) < (S.length:Int):=by omega
    obtain ⟨g,o,cs1,rfl,hg,hc,hcell⟩:=HAT.out k hlt
    have hc:cs1 = (stC S[k]).toList:=hc
    have hgd:S.getD k st0 = S[k]:=by simp [List.getD_eq_getElem?_getD,List.getElem?_eq_getElem hlt]
    have hsm:=HO.out.sm (List.getElem_mem hlt)
    obtain ⟨x,hx⟩:∃ x,S[k] = x:=⟨_,rfl⟩
    rw [hx] at hc hgd hsm
    subst hc
    have hgl:g < q:=by rw [← HQ.out];exact HB.out g hg
    have e0:=hcell 0 _ rfl
    have e1:=hcell 1 _ rfl
    have e2:=hcell 2 _ rfl
    have e3:=hcell 3 _ rfl
    have e4:=hcell 4 _ rfl
    have e5:=hcell 5 _ rfl
    have e6:=hcell 6 _ rfl
    rw [Nat.add_zero] at e0
    rw [← Nat.add_assoc] at e1 e2 e3 e4 e5 e6
    have c0:=bc_ HL.out.bel hgl e0
    have c1:=bc_ HL.out.bel hgl e1
    have c2:=bc_ HL.out.bel hgl e2
    have c3:=bc_ HL.out.bel hgl e3
    have c4:=bc_ HL.out.bel hgl e4
    have c5:=bc_ HL.out.bel hgl e5
    have c6:=bc_ HL.out.bel hgl e6
    clear hcell e0 e1 e2 e3 e4 e5 e6
    obtain ⟨w5,hw5⟩:∃ w5,wr.alloc (.cells #[.int .i64 x.t, .int .i64 x.ll, .int .i64 x.lh, .int .i64 x.sl, .int .i64 x.sh, .int .i64 x.el, .int .i64 x.eh] 72) = w5:=⟨_,rfl⟩
    have hb5:Below wr.heap.size wr w5:=by rw [← hw5];exact (Below.refl _ _).alloc (nl_ _) _
    have XN:=hid (show w5.heap[wr.heap.size]? = some (.cells #[.int .i64 x.t, .int .i64 x.ll, .int .i64 x.lh, .int .i64 x.sl, .int .i64 x.sh, .int .i64 x.el, .int .i64 x.eh] 72 (0,0)) by rw [← hw5];exact ha_ _ _)
    have L5:=hid (HL.out.below hb5)
    obtain ⟨bx,hbx⟩:∃ b,wr.heap.size = b:=⟨_,rfl⟩
    rw [hbx] at XN
    have hbxq:q + 3 ≤ bx:=by rw [← hbx];exact HL.out.sz
    have HOB:=hid (show ∀ b,b = bx→v.ownBlock ≠ some b from fun b e h=>by have:=(HL.out.own.lt _ h).2;omega)
    clear hb5 HL
    gi_wp2_with fail
    try rw [hw5]
    try simp only [hbx]
    clear hw5 hbx c0 c1 c2 c3 c4 c5 c6
    have hwk:IntKind.i64.wrap (1 + (k:Int)) = 1 + (k:Int):=IntWalk.i64_in _ (by omega)
    have SC:=hid (fun (V:World) (hp:V.heap[q + 2]? = some (.cells #[.pointer (some ⟨(q + 1),0,none⟩)] 162 (0,0))) (hn:V.heap[q + 1]? = some (.cells #[v] 227 (0,0))) (h2:V.heap[bx]? = some (.cells #[.int .i64 x.t, .int .i64 x.ll, .int .i64 x.lh, .int .i64 x.sl, .int .i64 x.sh, .int .i64 x.el, .int .i64 x.eh] 72 (0,0)))=>show V.cell? ⟨q + 2,0,none⟩ = some (.pointer (some ⟨(q + 1),0,none⟩))∧V.cell? ⟨q + 1,0,none⟩ = some v∧V.cell? ⟨bx,0,none⟩ = some (.int .i64 x.t)∧V.cell? ⟨bx,1,none⟩ = some (.int .i64 x.ll)∧V.cell? ⟨bx,2,none⟩ = some (.int .i64 x.lh)∧V.cell? ⟨bx,3,none⟩ = some (.int .i64 x.sl)∧V.cell? ⟨bx,4,none⟩ = some (.int .i64 x.sh)∧V.cell? ⟨bx,5,none⟩ = some (.int .i64 x.el)∧V.cell? ⟨bx,6,none⟩ = some (.int .i64 x.eh) from ⟨cg_ hp (k:=0) rfl,cg_ hn (k:=0) rfl,cg_ h2 (k:=0) rfl,cg_ h2 (k:=1) rfl,cg_ h2 (k:=2) rfl,cg_ h2 (k:=3) rfl,cg_ h2 (k:=4) rfl,cg_ h2 (k:=5) rfl,cg_ h2 (k:=6) rfl⟩)
    have hbd:Below w5.heap.size w5 w5.drew:=(Below.refl _ w5).drew
    obtain ⟨W0,hW0⟩:∃ W0,w5.drew = W0:=⟨_,rfl⟩
    rw [hW0] at hbd
    replace L5:=hid (L5.out.below hbd)
    replace XN:=hid (q0_ XN.out hbd)
    clear hbd
    have GN:=hid (fun V=>y5_ x V hsm)
    unfold stC spC at GN
    have hS0:=SC.out W0 L5.out.p L5.out.n XN.out
    have hlen:(zI_ S k).length = k:=vL_ S k
    have hbo:∀ b,b = bx→v.ownBlock ≠ some b:=fun b e=>HOB.out b e
    have hbx3:bx = bx:=rfl
    refine zh_ (fun V:World=>V.cell? ⟨q + 2,0,none⟩ = some (.pointer (some ⟨(q + 1),0,none⟩))∧V.cell? ⟨q + 1,0,none⟩ = some v∧V.cell? ⟨bx,0,none⟩ = some (.int .i64 x.t)∧V.cell? ⟨bx,1,none⟩ = some (.int .i64 x.ll)∧V.cell? ⟨bx,2,none⟩ = some (.int .i64 x.lh)∧V.cell? ⟨bx,3,none⟩ = some (.int .i64 x.sl)∧V.cell? ⟨bx,4,none⟩ = some (.int .i64 x.sh)∧V.cell? ⟨bx,5,none⟩ = some (.int .i64 x.el)∧V.cell? ⟨bx,6,none⟩ = some (.int .i64 x.eh)) 18 (by kernel_rfl) ?_
    rw [hW0]
    clear hW0
    refine tkU 0 24 (.pointer (some ⟨(q + 1),0,none⟩)) rfl rfl hS0 ?_
    refine tkU 1 25 (.pointer (some ⟨(q + 1),0,none⟩)) rfl rfl hS0 ?_
    refine tkU 2 26 (.pointer (some ⟨(q + 1),0,none⟩)) rfl rfl hS0 ?_
    refine tkU 3 27 (.pointer (some ⟨(q + 1),0,none⟩)) rfl rfl hS0 ?_
    refine tkU 4 28 (v) rfl rfl hS0 ?_
    refine tkU 5 29 (.int .i64 k) rfl rfl hS0 ?_
    refine tkU 6 30 (.int .i64 (1 + (k:Int))) rfl rfl hS0 ?_
    refine tkU 7 31 (.agg #[.int .i64 x.t, .int .i64 x.ll, .int .i64 x.lh, .int .i64 x.sl, .int .i64 x.sh, .int .i64 x.el, .int .i64 x.eh]) rfl rfl hS0 ?_
    refine tkU 10 34 (.agg #[.int .i64 x.t, .int .i64 x.ll, .int .i64 x.lh, .int .i64 x.sl, .int .i64 x.sh, .int .i64 x.el, .int .i64 x.eh]) rfl rfl hS0 ?_
    refine qg_ (i:=8) (by kernel_rfl) rfl (by kernel_rfl) (by decide) (fun K hK=>?_)
    go_simp
    refine ⟨trivial,(callsIn_wide.2 (GN.out W0)).mono ?_⟩
    rintro e W1 ⟨rfl,hb1⟩
    replace L5:=hid (L5.out.below hb1)
    replace XN:=hid (q0_ XN.out hb1)
    have hS1:=SC.out W1 L5.out.p L5.out.n XN.out
    refine hK _ _ ⟨hS1,?_⟩
    clear hK hb1 hS0
    refine tkU 9 33 (.int .i64 (qU_ x).lo) rfl rfl hS1 ?_
    refine qg_ (i:=11) (by kernel_rfl) rfl (by kernel_rfl) (by decide) (fun K hK=>?_)
    go_simp
    refine ⟨trivial,(callsIn_wide.2 (GN.out W1)).mono ?_⟩
    rintro e W2 ⟨rfl,hb2⟩
    replace L5:=hid (L5.out.below hb2)
    replace XN:=hid (q0_ XN.out hb2)
    have hS2:=SC.out W2 L5.out.p L5.out.n XN.out
    refine hK _ _ ⟨hS2,?_⟩
    clear hK hb2 hS1
    refine tkU 12 36 (.int .i64 (qU_ x).hi) rfl rfl hS2 ?_
    refine tkU 13 37 (.agg #[.int .i64 0, .int .i64 (1 + (k:Int)), .int .i64 (qU_ x).lo, .int .i64 (qU_ x).hi, .int .i64 0, .int .i64 0]) rfl rfl hS2 ?_
    refine qg_ (i:=14) (by kernel_rfl) rfl (by kernel_rfl) (by decide) (fun K hK=>?_)
    go_simp
    have hb3:=(Below.refl W2.heap.size W2).alloc (nl_ _) (.cells #[.int .i64 0, .int .i64 (1 + (k:Int)), .int .i64 (qU_ x).lo, .int .i64 (qU_ x).hi, .int .i64 0, .int .i64 0] 229)
    have hblk:=ha_ W2 (.cells #[.int .i64 0, .int .i64 (1 + (k:Int)), .int .i64 (qU_ x).lo, .int .i64 (qU_ x).hi, .int .i64 0, .int .i64 0] 229)
    obtain ⟨W3,hW3⟩:∃ W3,W2.alloc (.cells #[.int .i64 0, .int .i64 (1 + (k:Int)), .int .i64 (qU_ x).lo, .int .i64 (qU_ x).hi, .int .i64 0, .int .i64 0] 229) = W3:=⟨_,rfl⟩
    obtain ⟨bk,hbk⟩:∃ b,W2.heap.size = b:=⟨_,rfl⟩
    rw [hW3] at hb3 hblk ⊢
    rw [hbk] at hblk ⊢
    replace L5:=hid (L5.out.below hb3)
    replace XN:=hid (q0_ XN.out hb3)
    have BK:=hid (show W3.heap[bk]? = some (.cells (wC ⟨0,1 + k,(qU_ x).lo,(qU_ x).hi,0,0⟩) 229 (0,0)) by rw [hblk];simp [wC])
    have hS3:=SC.out W3 L5.out.p L5.out.n XN.out
    refine hK _ _ ⟨hS3,?_⟩
    clear hK hb3 hblk hW3 hbk
    refine qg_ (i:=15) (by kernel_rfl) rfl (by kernel_rfl) (by decide) (fun K hK=>?_)
    obtain ⟨a5,c5,W4,hr,hown5,hg5,hat5⟩:=run_append_ao (P:=Tryz.prog) (w:=W3) 225 225 (q + 3) 229 i0 _ 6 48 Tryz.underlying225 hi0 hy0 hy1 hy2 rfl (by omega) v (zI_ S k).length _ L5.out.own (some ⟨bk,0,none⟩) 1 1 (wV [⟨0,1 + k,(qU_ x).lo,(qU_ x).hi,0,0⟩]) rfl (fun h=>by cases h) (fun ad had=>by cases had;exact fun j u hj=>World.news_of_block (cs:=wC ⟨0,1 + k,(qU_ x).lo,(qU_ x).hi,0,0⟩) (t:=229) (fr:=(0,0)) BK.out j u (by simpa [wV] using hj)) (wV_one _) (by have:=hlen;unfold maxLen;omega) (by have:=hlen;omega) (by have:=L5.out.sz;omega)
    refine zw_ (fun _=>trivial) rfl (zc_ rfl rfl rfl hr) ?_
    have hown3:=L5.out.own
    have hsz3:=L5.out.sz
    have n1:=hg5.block (q + 1) (by omega) (fun e=>by have:=(hown3.lt _ e.symm).1;omega)
    have n2:=hg5.block (q + 2) (by omega) (fun e=>by have:=(hown3.lt _ e.symm).1;omega)
    replace XN:=hid ((hg5.block bx (ge_ XN.out).1 (fun e=>hbo bx hbx3 e.symm)).trans XN.out)
    have N4:=hid (n1.trans L5.out.n)
    have HO5:=hid hown5
    have HG5:=hid hg5
    have hS4:=SC.out W4 (n2.trans L5.out.p) N4.out XN.out
    refine hK _ _ ⟨hS4,?_⟩
    clear hK hr hown5 hg5 hat5 n1 n2 hS3 BK
    refine qg_ (i:=16) (by kernel_rfl) rfl (by kernel_rfl) (by decide) (fun K hK=>?_)
    go_simp
    refine hK _ _ ⟨hS4,?_⟩
    clear hK
    refine qg_ (i:=17) (by kernel_rfl) rfl (by kernel_rfl) (by decide) (fun K hK=>?_)
    go_simp
    refine hK _ _ ⟨hS4,?_⟩
    clear hK
    refine z1_ (by kernel_rfl) rfl (by kernel_rfl) (by kernel_rfl) (fun K hK=>?_)
    have LP:=hid (L5.out.push (x:=⟨0,1 + k,(qU_ x).lo,(qU_ x).hi,0,0⟩) HO5.out HG5.out)
    have z0:=cg_ N4.out (k:=0) rfl
    have z1:=cells_frz N4.out (k:=0)
    go_simp
    refine hK _ _ ?_
    clear hK z0 z1 hS4
    rw [show zI_ S k ++ [⟨0,1 + k,(qU_ x).lo,(qU_ x).hi,0,0⟩] = zI_ S (k + 1) from by rw [zI_,show S.getD k ⟨0,0,0,0,0,0,0⟩ = x from hgd]] at LP
    go_simp
    gi_wp2_with fail
    go_roundw
    case rel=>exact ⟨k + 1,_,by omega,by go_num,by rw [hlen] at LP;exact LP⟩
    case measure=>simp [intOf];omega
  · obtain rfl:k = S.length:=by omega
    have d1:=cg_ (q0_ HD.out (HQ.out ▸ HL.out.bel)) (k:=1) (v := .slice ac C.length cc) rfl
    gi_wp2_with fail
    clear d1
    have LT0:=hid (show LdS q b1 w (laidT S C 0) v wr from HL.out)
    clear HL hlt i1 hk
    obtain ⟨e19,he19⟩:∃ e:Value,Value.int .i64 (S.length:Int) = e:=⟨_,rfl⟩
    refine ko_ (fun r a wr=>∃ (t:Nat) (v:Value),(r + t = C.length∧LdS q b1 w (laidT S C t) v wr∧Dfs q a.defers wr)∧a = { tmps:=#[.pointer (some ⟨D,0,none⟩), .agg #[.func (.func 162) #[] #[.pointer (some ⟨b1,0,none⟩)]],undef, .pointer (some ⟨q,0,none⟩), .pointer none, .pointer (some ⟨(q + 1 + 1),0,none⟩),u6,u7,a.tmps.getD 8 undef,a.tmps.getD 9 undef,a.tmps.getD 10 undef, .agg #[.slice none 0 0], .pointer (some ⟨(q + 1),0,none⟩), .pointer (some ⟨D,0,none⟩), .pointer (some ⟨D,0,none⟩), .pointer (some ⟨D,0,none⟩), .pointer (some ⟨D,0,none⟩), .slice as_ S.length cs_, .int .i64 S.length, .int .i64 S.length, .bool false,u21,u22,u23,u24,u25,u26,u27,u28,u29,u30,u31,u32,u33,u34,u35,u36,u37,u38,u39,u40,u41,u42, .pointer (some ⟨D,0,none⟩), .pointer (some ⟨D,0,none⟩), .pointer (some ⟨D,0,none⟩), .pointer (some ⟨D,1,none⟩), .slice ac C.length cc, .int .i64 C.length, .int .i64 t,a.tmps.getD 50 undef,a.tmps.getD 51 undef,a.tmps.getD 52 undef,a.tmps.getD 53 undef,a.tmps.getD 54 undef,a.tmps.getD 55 undef,a.tmps.getD 56 undef,a.tmps.getD 57 undef,a.tmps.getD 58 undef,a.tmps.getD 59 undef,a.tmps.getD 60 undef,a.tmps.getD 61 undef,a.tmps.getD 62 undef,a.tmps.getD 63 undef,a.tmps.getD 64 undef,a.tmps.getD 65 undef,a.tmps.getD 66 undef,a.tmps.getD 67 undef,a.tmps.getD 68 undef,a.tmps.getD 69 undef,a.tmps.getD 70 undef,a.tmps.getD 71 undef,a.tmps.getD 72 undef,a.tmps.getD 73 undef,a.tmps.getD 74 undef,a.tmps.getD 75 undef,a.tmps.getD 76 undef,a.tmps.getD 77 undef,a.tmps.getD 78 undef,a.tmps.getD 79 undef,a.tmps.getD 80 undef,a.tmps.getD 81 undef,a.tmps.getD 82 undef,a.tmps.getD 83 undef,a.tmps.getD 84 undef,a.tmps.getD 85 undef,a.tmps.getD 86 undef,a.tmps.getD 87 undef,a.tmps.getD 88 undef,a.tmps.getD 89 undef,a.tmps.getD 90 undef,a.tmps.getD 91 undef,a.tmps.getD 92 undef,a.tmps.getD 93 undef,a.tmps.getD 94 undef,a.tmps.getD 95 undef],defers:=a.defers }) C.length ?_ ?_
    · exact ⟨0,v,⟨by omega,LT0.out,trivial⟩,by rfl⟩
    clear LT0 e19 he19 v wr
    rintro r a wr ⟨t,v,⟨hrt,hL,hdf⟩,ha⟩
    obtain ⟨p,hu⟩:∃ p:Nat→Value,∀ k,a.tmps.getD k undef = p k:=⟨_,fun _=>rfl⟩
    obtain ⟨ds,hds⟩:∃ ds,a.defers = ds:=⟨_,rfl⟩
    simp only [hu] at ha
    rw [hds] at ha hdf
    clear hu hds
    subst ha
    have HL:=hid hL
    have HDF:=hid hdf
    clear hL hdf
    cases r with
    | zero=>
      obtain rfl:t = C.length:=by omega
      have q5:=cg_ HL.out.p (k:=0) (v := .pointer (some ⟨(q + 1),0,none⟩)) rfl
      gi_wp2_with fail
      refine kW_ ds _ HDF.out fun w' hs hb=>?_
      refine ⟨_,results_tmp rfl _ _ _,v,by rw [HQ.out];rfl,?_,?_,?_⟩
      all_goals try rw [HQ.out]
      · exact (hs.block _ (fun h e=>by rw [HL.out.n] at e;cases e)).trans HL.out.n
      · exact owns_agree HL.out.own fun g hg=>hs.block g fun h e=>k8_ HL.out.own hg h e
      · exact HL.out.bel.trans hb
    | succ r=>
      have htC:t < C.length:=by omega
      have htC':(t:Int) < (C.length:Int):=by omega
      obtain ⟨g,o,cs1,rfl,hg,hc,hcell⟩:=HAT2.out t htC
      have hc:cs1 = (spC C[t]).toList:=hc
      have hgd:C.getD t ⟨0,0⟩ = C[t]:=by simp [List.getD_eq_getElem?_getD,List.getElem?_eq_getElem htC]
      obtain ⟨x,hx⟩:∃ x,C[t] = x:=⟨_,rfl⟩
      rw [hx] at hc hgd
      subst hc
      have hgl:g < q:=by rw [← HQ.out];exact HB.out g hg
      have e0:=hcell 0 _ rfl
      have e1:=hcell 1 _ rfl
      rw [Nat.add_zero] at e0
      rw [← Nat.add_assoc] at e1
      have c0:=bc_ HL.out.bel hgl e0
      have c1:=bc_ HL.out.bel hgl e1
      clear hcell e0 e1
      gi_wp2_with fail
      obtain ⟨bt,hbt⟩:∃ b,wr.heap.size = b:=⟨_,rfl⟩
      obtain ⟨w6,hw6⟩:∃ w6,(wr.alloc (.cells #[.int .i64 t] 3)).alloc (.cells #[.int .i64 x.lo, .int .i64 x.hi] 35) = w6:=⟨_,rfl⟩
      have HZ6:=hid (show w6.heap.size = bt + 2 by rw [← hw6,← hbt];simp)
      have VO:=hid (show ∀ b,v.ownBlock = some b→q + 3 ≤ b∧b < bt from fun b hb=>⟨(HL.out.own.lt b hb).1,by rw [← hbt];exact (HL.out.own.lt b hb).2⟩)
      have hb6:Below wr.heap.size wr w6:=by rw [← hw6];exact ((Below.refl _ _).alloc (nl_ _) _).alloc (by simp) _
      have t1:w6.heap[bt]? = some (.cells #[.int .i64 t] 3 (0,0)):=by rw [← hw6,← hbt];exact qc_ _ (ha_ _ _)
      have t2:w6.heap[bt + 1]? = some (.cells #[.int .i64 x.lo, .int .i64 x.hi] 35 (0,0)):=by
       rw [← hw6,← hbt];have:=ha_ (wr.alloc (.cells #[.int .i64 t] 3)) (.cells #[.int .i64 x.lo, .int .i64 x.hi] 35);simpa using this
      have hbq:q + 3 ≤ bt:=by rw [← hbt];exact HL.out.sz
      have L6:=hid (HL.out.below hb6)
      have DF6:=hid (HDF.out.below hb6)
      have T1:=hid t1
      have T2:=hid t2
      rw [hw6]
      simp only [hbt]
      have HR:=hid (reach_any S S.length C.length as_ (some ⟨g,o,none⟩) cs_ cc M D N t w6 (q0_ HD.out (HQ.out ▸ L6.out.bel)) (HM.out.kept ((HQ.out ▸ L6.out.bel:Below w.heap.size w w6).block M HM.out.lt)))
      clear c0 c1 t1 t2 hb6 hw6 HL HDF hbt
      refine ⟨trivial,?_⟩
      refine (callsIn_wide.2 HR.out).mono ?_
      rintro e w9 ⟨rfl,hRR,hz9,hb9⟩
      gi_wp2_with fail
      have L9:=hid (L6.out.below hb9)
      have DF9:=hid (DF6.out.below hb9)
      replace T1:=hid (q0_ T1.out hb9)
      replace T2:=hid (q0_ T2.out hb9)
      have HW9:=hid (show w9.heap.size = bt + 4 by have:=HZ6.out;omega)
      have SEQ:=reach_seq S S.length C.length as_ (some ⟨g,o,none⟩) cs_ cc M D w6.heap.size (w6.heap.size + 1) t w9 hRR (by omega) (by omega)
      clear HR hb9 L6 DF6 hRR hz9
      have HML:M < q:=by rw [← HQ.out];exact HM.out.lt
      have HDL:D < q:=by rw [← HQ.out];exact hDl
      have hlen0:=vc_ S C t
      have hlen1:t * (S.length + 1) ≤ 35:=Nat.le_trans (Nat.mul_le_mul (show t ≤ 5 by omega) (show S.length + 1 ≤ 7 by omega)) (nl_ _)
      have hlen:(laidT S C t).length ≤ 41:=by omega
      obtain ⟨ls,hls⟩:∃ ls,laidT S C t = ls:=⟨_,rfl⟩
      rw [hls] at L9 hlen
      have HLS:=hid hls
      clear hlen0 hlen1 hls
      refine kh_ (n:=9) (gf:=202) (lb:=#[.pointer (some ⟨w6.heap.size,0,none⟩), .pointer (some ⟨(w6.heap.size + 1),0,none⟩)]) rfl vm_ SEQ (fun h _=>h) (fun h _=>h) (fun _=>rfl)
       (fun pre O W=>∃ v',O = (fun b=>b = q + 1 ∨ v'.ownBlock = some b)∧W.heap[q + 1]? = some (.cells #[v'] 227 (0,0))∧W.ownsRow (q + 3) 229 6 v' (ls ++ pre.map (wayR S t)).length (wV (ls ++ pre.map (wayR S t)))∧(∀ b,v'.ownBlock = some b→v.ownBlock = some b ∨ w9.heap.size ≤ b)∧Keep (fun b=>b = q + 1 ∨ v.ownBlock = some b) w9 W)
       (fun _ _ _ _=>False) ?dep ?depx (fun b=>b = q + 1 ∨ v.ownBlock = some b) ?o0 ?ot ⟨v,rfl,L9.out.n,by simpa using L9.out.own,fun b hb => .inl hb,Keep.refl _ _⟩
       (fun k _ a₁ _=>a₁ = { tmps:=#[.pointer (some ⟨D,0,none⟩), .agg #[.func (.func 162) #[] #[.pointer (some ⟨b1,0,none⟩)]],undef, .pointer (some ⟨q,0,none⟩), .pointer none, .pointer (some ⟨(q + 1 + 1),0,none⟩),u6,u7, .pointer (some ⟨bt,0,none⟩), .pointer (some ⟨(bt + 1),0,none⟩), .int .i64 k, .agg #[.slice none 0 0], .pointer (some ⟨(q + 1),0,none⟩), .pointer (some ⟨D,0,none⟩), .pointer (some ⟨D,0,none⟩), .pointer (some ⟨D,0,none⟩), .pointer (some ⟨D,0,none⟩), .slice as_ S.length cs_, .int .i64 S.length, .int .i64 S.length, .bool false,u21,u22,u23,u24,u25,u26,u27,u28,u29,u30,u31,u32,u33,u34,u35,u36,u37,u38,u39,u40,u41,u42, .pointer (some ⟨D,0,none⟩), .pointer (some ⟨D,0,none⟩), .pointer (some ⟨D,0,none⟩), .pointer (some ⟨D,1,none⟩), .slice (some ⟨g,o,none⟩) C.length cc, .int .i64 C.length, .int .i64 t, .bool true, .int .i64 t, .pointer (some ⟨g,o + t * 2,none⟩), .agg #[.int .i64 x.lo, .int .i64 x.hi], .pointer (some ⟨D,0,none⟩), .int .i64 t, .func (.func 202) #[] #[.pointer (some ⟨w6.heap.size,0,none⟩), .pointer (some ⟨(w6.heap.size + 1),0,none⟩)], .int .i64 k,p 58,p 59,p 60,p 61,p 62,p 63,p 64,p 65,p 66,p 67,p 68,p 69,p 70,p 71,p 72,p 73,p 74,p 75,p 76,p 77,p 78,p 79,p 80,p 81,p 82,p 83,p 84,p 85,p 86,p 87,p 88,p 89,p 90,p 91,p 92,p 93,p 94,p 95],defers:=[] }) (fun _ _ _ _ _ h _=>h) ?assign ?body ?done ?stop
      case dep=>
       rintro pre O A B' ⟨v',rfl,h1,h2,h3,h4⟩ e1 e2 e3 e4 hh
       refine ⟨v',rfl,(hh _ (ge_ h1).1 (.inl (.inl rfl))).trans h1,owns_agree h2 fun g hg=>hh g (h2.lt g hg).2 (.inl (.inr hg)),h3,e1.trans h4.os,e2.trans h4.tape,e3.trans h4.output,Nat.le_trans h4.size e4,fun b hb ho=>(hh b (Nat.lt_of_lt_of_le hb h4.size) (.inr hb)).trans (h4.block b hb ho)⟩
      case depx=>rintro cd pre O A B' h;exact h.elim
      case o0=>
       have h9:=HW9.out
       have h6':=HZ6.out
       rintro b (rfl | hb)
       · refine ⟨by omega,fun h=>?_⟩
         rcases h with h | h | h | h <;> omega
       · have:=VO.out b hb
         refine ⟨by omega,fun h=>?_⟩
         rcases h with h | h | h | h <;> omega
      case ot=>
       have h9:=HW9.out
       have h6':=HZ6.out
       intro b h
       rcases h with h | h | h | h <;> omega
      case assign=>
       intro l m' k S' W K hE hK
       gi_wp2_with (rw [Oper.semAt_eq _ _ _ (fun c h=>by cases h)];go_simp;try go_bits)
       exact hK _ _ (Below.refl _ _) (by rfl)
      case stop=>rintro D' cd pre O W hp h;exact h.elim
      case done=>
       rintro D' O W9 ⟨v',rfl,h1,h2,h3,h4⟩ hD' hK
       have h9:=HW9.out
       have hsz9:=h4.size
       have hq2:∀ b,b < w9.heap.size→b ≠ q + 1→(∀ h:v.ownBlock = some b,False)→W9.heap[b]? = w9.heap[b]?:=fun b hb h h'=>h4.block b hb (fun e=>e.elim h h')
       have LA:=hid (show LdS q b1 w (ls ++ laidR S t) v' W9 from ⟨(hq2 q (by omega) (by omega) (fun h=>by have:=VO.out _ h;omega)).trans L9.out.c,h1,(hq2 (q + 2) (by omega) (by omega) (fun h=>by have:=VO.out _ h;omega)).trans L9.out.p,by rw [xH_];exact h2,L9.out.bel.trans (h4.below (by omega) fun b hb hh=>by
        rcases hh with h | h
        · omega
        · have:=VO.out _ h;omega),by omega⟩)
       have TA:=hid ((hq2 bt (by omega) (by omega) (fun h=>by have:=VO.out _ h;omega)).trans T1.out)
       have TB:=hid ((hq2 (bt + 1) (by omega) (by omega) (fun h=>by have:=VO.out _ h;omega)).trans T2.out)
       have DA:=hid (show Dfs q ({ target := .collected D',args:=#[] } :: ds) W9 from Dfs.more (w:=w9) (DF9.out.keep h4 fun b hb h e=>by
        rcases hb with hb | hb
        · subst hb;rw [L9.out.n] at e;cases e
        · exact k8_ L9.out.own hb h e) hK (by omega) hD' fun d hd D2 hD2=>(DF9.out.lt d hd D2 hD2).2.1)
       have VB:=hid (show ∀ b,v'.ownBlock = some b→b ≠ bt∧b ≠ bt + 1 from fun b hb=>by
        rcases h3 b hb with h | h
        · have:=VO.out _ h;omega
        · omega)
       have hk2:IntKind.i64.wrap (7 + (t:Int)) = 7 + (t:Int):=IntWalk.i64_in _ (by omega)
       have hll:(ls ++ laidR S t).length ≤ 50:=by
        have:=xv_ S S.length t S.length
        rw [List.length_append,xH_,List.length_map];omega
       obtain ⟨as2,hAs⟩:∃ l2,ls ++ laidR S t = l2:=⟨_,rfl⟩
       rw [hAs] at LA hll
       have HAS:=hid hAs
       clear hq2 h1 h2 h3 h4 hK hAs L9 DF9 T1 T2 hsz9 h9
       gi_wp2_with fail
       have SC:=hid (fun (V:World) (a1:V.heap[q + 2]? = some (.cells #[.pointer (some ⟨(q + 1),0,none⟩)] 162 (0,0))) (a2:V.heap[q + 1]? = some (.cells #[v'] 227 (0,0))) (a3:V.heap[bt]? = some (.cells #[.int .i64 t] 3 (0,0))) (a4:V.heap[bt + 1]? = some (.cells #[.int .i64 x.lo, .int .i64 x.hi] 35 (0,0)))=>show V.cell? ⟨q + 2,0,none⟩ = some (.pointer (some ⟨(q + 1),0,none⟩))∧V.cell? ⟨q + 1,0,none⟩ = some v'∧V.cell? ⟨bt,0,none⟩ = some (.int .i64 t)∧V.cell? ⟨bt + 1,0,none⟩ = some (.int .i64 x.lo)∧V.cell? ⟨bt + 1,1,none⟩ = some (.int .i64 x.hi) from ⟨cg_ a1 (k:=0) rfl,cg_ a2 (k:=0) rfl,cg_ a3 (k:=0) rfl,cg_ a4 (k:=0) rfl,cg_ a4 (k:=1) rfl⟩)
       obtain ⟨X0,hX0⟩:∃ X0,W9.drew = X0:=⟨_,rfl⟩
       have hbx:Below W9.heap.size W9 X0:=by rw [← hX0];exact (Below.refl _ W9).drew
       replace LA:=hid (LA.out.below hbx)
       replace TA:=hid (q0_ TA.out hbx)
       replace TB:=hid (q0_ TB.out hbx)
       replace DA:=hid (DA.out.below hbx)
       clear hbx
       have hS0:=SC.out X0 LA.out.p LA.out.n TA.out TB.out
       refine zh_ (fun V:World=>V.cell? ⟨q + 2,0,none⟩ = some (.pointer (some ⟨(q + 1),0,none⟩))∧V.cell? ⟨q + 1,0,none⟩ = some v'∧V.cell? ⟨bt,0,none⟩ = some (.int .i64 t)∧V.cell? ⟨bt + 1,0,none⟩ = some (.int .i64 x.lo)∧V.cell? ⟨bt + 1,1,none⟩ = some (.int .i64 x.hi)) 16 (by kernel_rfl) ?_
       rw [hX0]
       clear hX0
       refine tkU 0 78 (.pointer (some ⟨(q + 1),0,none⟩)) rfl rfl hS0 ?_
       refine tkU 1 79 (.pointer (some ⟨(q + 1),0,none⟩)) rfl rfl hS0 ?_
       refine tkU 2 80 (.pointer (some ⟨(q + 1),0,none⟩)) rfl rfl hS0 ?_
       refine tkU 3 81 (.pointer (some ⟨(q + 1),0,none⟩)) rfl rfl hS0 ?_
       refine tkU 4 82 (v') rfl rfl hS0 ?_
       refine tkU 5 83 (.int .i64 t) rfl rfl hS0 ?_
       refine tkU 6 84 (.int .i64 (7 + (t:Int))) rfl rfl hS0 ?_
       refine tkU 7 85 (.pointer (some ⟨(bt + 1),0,none⟩)) rfl rfl hS0 ?_
       refine tkU 8 86 (.int .i64 x.lo) rfl rfl hS0 ?_
       refine tkU 9 87 (.pointer (some ⟨(bt + 1),1,none⟩)) rfl rfl hS0 ?_
       refine tkU 10 88 (.int .i64 x.hi) rfl rfl hS0 ?_
       refine tkU 11 89 (.agg #[.int .i64 (7 + (t:Int)), .int .i64 0, .int .i64 x.lo, .int .i64 x.hi, .int .i64 0, .int .i64 0]) rfl rfl hS0 ?_
       refine qg_ (i:=12) (by kernel_rfl) rfl (by kernel_rfl) (by decide) (fun K hK=>?_)
       go_simp
       have hb3:=(Below.refl X0.heap.size X0).alloc (nl_ _) (.cells #[.int .i64 (7 + (t:Int)), .int .i64 0, .int .i64 x.lo, .int .i64 x.hi, .int .i64 0, .int .i64 0] 229)
       have hblk:=ha_ X0 (.cells #[.int .i64 (7 + (t:Int)), .int .i64 0, .int .i64 x.lo, .int .i64 x.hi, .int .i64 0, .int .i64 0] 229)
       obtain ⟨X2,hX2⟩:∃ W3,X0.alloc (.cells #[.int .i64 (7 + (t:Int)), .int .i64 0, .int .i64 x.lo, .int .i64 x.hi, .int .i64 0, .int .i64 0] 229) = W3:=⟨_,rfl⟩
       obtain ⟨bk,hbk⟩:∃ b,X0.heap.size = b:=⟨_,rfl⟩
       rw [hX2] at hb3 hblk ⊢
       rw [hbk] at hblk ⊢
       replace LA:=hid (LA.out.below hb3)
       replace TA:=hid (q0_ TA.out hb3)
       replace TB:=hid (q0_ TB.out hb3)
       replace DA:=hid (DA.out.below hb3)
       have BK:=hid (show X2.heap[bk]? = some (.cells (wC ⟨7 + t,0,x.lo,x.hi,0,0⟩) 229 (0,0)) by rw [hblk];simp [wC])
       have hS2:=SC.out X2 LA.out.p LA.out.n TA.out TB.out
       refine hK _ _ ⟨hS2,?_⟩
       clear hK hb3 hblk hX2 hS0 hbk
       refine qg_ (i:=13) (by kernel_rfl) rfl (by kernel_rfl) (by decide) (fun K hK=>?_)
       obtain ⟨a5,c5,X3,hr,hown5,hg5,hat5⟩:=run_append_ao (P:=Tryz.prog) (w:=X2) 225 225 (q + 3) 229 i0 _ 6 48 Tryz.underlying225 hi0 hy0 hy1 hy2 rfl (by omega) v' as2.length _ LA.out.own (some ⟨bk,0,none⟩) 1 1 (wV [⟨7 + t,0,x.lo,x.hi,0,0⟩]) rfl (fun h=>by cases h) (fun ad had=>by cases had;exact fun j u hj=>World.news_of_block (cs:=wC ⟨7 + t,0,x.lo,x.hi,0,0⟩) (t:=229) (fr:=(0,0)) BK.out j u (by simpa [wV] using hj)) (wV_one _) (by unfold maxLen;omega) (by omega) (by have:=LA.out.sz;omega)
       refine wa_ rfl rfl rfl hr ?_
       have hz2:=LA.out.sz
       have hoL:=LA.out.own
       have n1:=hg5.block (q + 1) (by omega) (fun e=>by have:=(hoL.lt _ e.symm).1;omega)
       have n2:=hg5.block (q + 2) (by omega) (fun e=>by have:=(hoL.lt _ e.symm).1;omega)
       have n3:=hg5.block bt (ge_ TA.out).1 (fun e=>(VB.out _ e.symm).1 rfl)
       have n4:=hg5.block (bt + 1) (ge_ TB.out).1 (fun e=>(VB.out _ e.symm).2 rfl)
       have N3:=hid (n1.trans LA.out.n)
       have HO5:=hid hown5
       have HG5:=hid hg5
       have hS3:=SC.out X3 (n2.trans LA.out.p) N3.out (n3.trans TA.out) (n4.trans TB.out)
       refine hK _ _ ⟨hS3,?_⟩
       clear hK hr hown5 hg5 hat5 n1 n2 n3 n4 hS2 hoL BK
       refine qg_ (i:=14) (by kernel_rfl) rfl (by kernel_rfl) (by decide) (fun K hK=>?_)
       go_simp
       refine hK _ _ ⟨hS3,?_⟩
       clear hK
       refine qg_ (i:=15) (by kernel_rfl) rfl (by kernel_rfl) (by decide) (fun K hK=>?_)
       go_simp
       refine hK _ _ ⟨hS3,?_⟩
       clear hK
       refine z1_ (by kernel_rfl) rfl (by kernel_rfl) (by kernel_rfl) (fun K hK=>?_)
       have LP:=hid (LA.out.push (x:=⟨7 + t,0,x.lo,x.hi,0,0⟩) HO5.out HG5.out)
       have DP:=hid (show Dfs q ({ target := .collected D',args:=#[] } :: ds) (X3.setCell ⟨q + 1,0,none⟩ (.slice a5 (as2.length + 1) c5)) from
        (DA.out.keep (Keep.grown (O:=fun b=>v'.ownBlock = some b) HG5.out fun b hb=>hb) fun b hb h e=>k8_ LA.out.own hb h e).keep (Keep.setCell (O:=fun b=>b = q + 1) (p:=⟨q + 1,0,none⟩) rfl) fun b hb h e=>by subst hb;rw [N3.out] at e;cases e)
       have z0:=cg_ N3.out (k:=0) (v:=v') rfl
       have z1:=cells_frz N3.out (k:=0)
       go_simp
       refine hK _ _ ?_
       clear hK z0 z1 hS3
       have hLP:as2 ++ [⟨7 + t,0,x.lo,x.hi,0,0⟩] = laidT S C (t + 1):=by rw [← HAS.out,← HLS.out,laidT,hgd]
       rw [hLP] at LP
       have LP2:=hid LP.out
       go_simp
       gi_wp2_with fail
       exact ⟨r,by omega,t + 1,_,⟨by omega,LP2.out,DP.out⟩,by rfl⟩
      case body=>
       rintro l m' pre k O lo a₁ W hpx ⟨v',rfl,h1,h2,h3,h4⟩ hlo hlo2 hOlo hE rfl
       obtain ⟨kk,hkk,hkS⟩:=rchL_mem S S.length t (hpx.subset (by simp):k ∈ rchL S S.length t S.length)
       subst hkk
       have hb9q:q + 3 ≤ w9.heap.size:=L9.out.sz
       have hq1:∀ b,b < q→W.heap[b]? = w.heap[b]?:=fun b hb=>(h4.block b (by omega) (fun h=>by
        rcases h with h | h
        · omega
        · have:=VO.out b h;omega)).trans (L9.out.bel.block b hb)
       have hq2:∀ b,b < w9.heap.size→b ≠ q + 1→(∀ h:v.ownBlock = some b,False)→W.heap[b]? = w9.heap[b]?:=fun b hb h h'=>h4.block b hb (fun e=>e.elim h h')
       have hwz:=h4.size
       have PN:=hid ((hq2 (q + 2) (by omega) (by omega) (fun h=>by have:=VO.out _ h;omega)).trans L9.out.p)
       have CN:=hid ((hq2 q (by omega) (by omega) (fun h=>by have:=VO.out _ h;omega)).trans L9.out.c)
       have TN:=hid ((hq2 bt (by have:=HW9.out;omega) (by omega) (fun h=>by have:=VO.out _ h;omega)).trans T1.out)
       have NN:=hid h1
       have OWN:=hid h2
       have OB:=hid h3
       have KP:=hid h4
       have hk1:IntKind.i64.wrap (1 + (kk:Int)) = 1 + (kk:Int):=IntWalk.i64_in _ (by omega)
       have hk2:IntKind.i64.wrap (7 + (t:Int)) = 7 + (t:Int):=IntWalk.i64_in _ (by omega)
       have hprel:pre.length ≤ 6:=by
        have a1:=hpx.length_le
        have a2:=xv_ S S.length t S.length
        rw [List.length_append] at a1;omega
       obtain ⟨as2,hPre⟩:∃ l2,ls ++ pre.map (wayR S t) = l2:=⟨_,rfl⟩
       have hlp:as2.length ≤ 50:=by rw [← hPre,List.length_append,List.length_map];omega
       rw [hPre] at OWN
       have HPRE:=hid hPre
       have SC:=hid (fun (V:World) (a1:V.heap[q + 2]? = some (.cells #[.pointer (some ⟨(q + 1),0,none⟩)] 162 (0,0))) (a2:V.heap[q + 1]? = some (.cells #[v'] 227 (0,0))) (a3:V.heap[q]? = some (.cells #[.func (.func 162) #[] #[.pointer (some ⟨b1,0,none⟩)]] 169 (0,0))) (a4:V.heap[bt]? = some (.cells #[.int .i64 t] 3 (0,0)))=>show V.cell? ⟨q + 2,0,none⟩ = some (.pointer (some ⟨(q + 1),0,none⟩))∧V.cell? ⟨q + 1,0,none⟩ = some v'∧V.cell? ⟨q,0,none⟩ = some (.func (.func 162) #[] #[.pointer (some ⟨b1,0,none⟩)])∧V.cell? ⟨bt,0,none⟩ = some (.int .i64 t) from ⟨cg_ a1 (k:=0) rfl,cg_ a2 (k:=0) rfl,cg_ a3 (k:=0) rfl,cg_ a4 (k:=0) rfl⟩)
       have hlW:w9.heap.size ≤ W.heap.size:=hwz
       have LSW:=hid (HSs.out.agree (show qd_ B w W from fun b hb=>hq1 b (by have:=HB.out b hb;have:=HQ.out;omega)))
       have DW:=hid ((hq1 D (by omega)).trans HD.out)
       have hb1l:b1 < q:=by rw [← HQ.out];exact (ge_ H1.out).1
       have BW1:=hid ((hq1 b1 hb1l).trans H1.out)
       clear hq1 hq2 hwz h1 h2 h3 h4 hpx hOlo hE hPre
       gi_wp2_with (rw [Oper.semAt_eq _ _ _ (fun c h=>by cases h)];go_simp;try go_bits)
       obtain ⟨X0,hX0⟩:∃ X0,W.drew = X0:=⟨_,rfl⟩
       have hbx:Below W.heap.size W X0:=by rw [← hX0];exact (Below.refl _ W).drew
       have hS0:=SC.out X0 (q0_ PN.out hbx) (q0_ NN.out hbx) (q0_ CN.out hbx) (q0_ TN.out hbx)
       have ST:=hid (some1_any S C.length M D b1 as_ (some ⟨g,o,none⟩) cs_ cc B t kk X0 (LSW.out.agree (q9_ hbx (fun b hb=>by have:=HB.out b hb;have:=HQ.out;omega))) (fun b hb=>by have:=HB.out b hb;have:=HQ.out;have:=hbx.size;omega) (q0_ DW.out hbx) (q0_ BW1.out hbx) hkS (by omega))
       have BX:=hid hbx
       clear hbx
       refine zh_ (fun V:World=>V.cell? ⟨q + 2,0,none⟩ = some (.pointer (some ⟨(q + 1),0,none⟩))∧V.cell? ⟨q + 1,0,none⟩ = some v'∧V.cell? ⟨q,0,none⟩ = some (.func (.func 162) #[] #[.pointer (some ⟨b1,0,none⟩)])∧V.cell? ⟨bt,0,none⟩ = some (.int .i64 t)) 20 (by kernel_rfl) ?_
       rw [hX0]
       clear hX0
       refine tkU 0 58 (.pointer (some ⟨(q + 1),0,none⟩)) rfl rfl hS0 ?_
       refine tkU 1 59 (.pointer (some ⟨(q + 1),0,none⟩)) rfl rfl hS0 ?_
       refine tkU 2 60 (.pointer (some ⟨(q + 1),0,none⟩)) rfl rfl hS0 ?_
       refine tkU 3 61 (.pointer (some ⟨(q + 1),0,none⟩)) rfl rfl hS0 ?_
       refine tkU 4 62 (v') rfl rfl hS0 ?_
       refine tkU 5 63 (.int .i64 kk) rfl rfl hS0 ?_
       refine tkU 6 64 (.int .i64 (1 + (kk:Int))) rfl rfl hS0 ?_
       refine tkU 7 65 (.int .i64 t) rfl rfl hS0 ?_
       refine tkU 8 66 (.int .i64 (7 + (t:Int))) rfl rfl hS0 ?_
       refine tkU 9 67 (.pointer (some ⟨q,0,none⟩)) rfl rfl hS0 ?_
       refine tkU 10 68 (.func (.func 162) #[] #[.pointer (some ⟨b1,0,none⟩)]) rfl rfl hS0 ?_
       refine tkU 11 69 (.int .i64 t) rfl rfl hS0 ?_
       refine tkU 12 70 (.int .i64 kk) rfl rfl hS0 ?_
       refine tkU 13 71 (.agg #[.int .i64 t, .int .i64 kk]) rfl rfl hS0 ?_
       refine qg_ (i:=14) (by kernel_rfl) rfl (by kernel_rfl) (by decide) (fun K hK=>?_)
       unfold Oper.wpIn
       rw [Oper.semAt_eq _ _ _ (fun c h=>by cases h)]
       go_simp
       refine ⟨trivial,fun h=>(by cases h),(CallsIn.inRound l (callsIn_wide.2 ST.out)).mono ?_⟩
       rintro e X1 ⟨rfl,hb1'⟩
       have BX1:=hid (BX.out.trans (hb1'.mono BX.out.size))
       have hS1:=SC.out X1 (q0_ PN.out BX1.out) (q0_ NN.out BX1.out) (q0_ CN.out BX1.out) (q0_ TN.out BX1.out)
       refine hK _ _ ⟨hS1,?_⟩
       clear hK hb1' hS0 BX ST
       refine tkU 15 73 (.agg #[.int .i64 (1 + (kk:Int)), .int .i64 (7 + (t:Int)), .int .i64 0, .int .i64 1000000, .int .i64 (oth S t kk), .int .i64 0]) rfl rfl hS1 ?_
       refine qg_ (i:=16) (by kernel_rfl) rfl (by kernel_rfl) (by decide) (fun K hK=>?_)
       unfold Oper.wpIn
       rw [Oper.semAt_eq _ _ _ (fun c h=>by cases h)]
       go_simp
       have hb3:=(Below.refl X1.heap.size X1).alloc (nl_ _) (.cells #[.int .i64 (1 + (kk:Int)), .int .i64 (7 + (t:Int)), .int .i64 0, .int .i64 1000000, .int .i64 (oth S t kk), .int .i64 0] 229)
       have hblk:=ha_ X1 (.cells #[.int .i64 (1 + (kk:Int)), .int .i64 (7 + (t:Int)), .int .i64 0, .int .i64 1000000, .int .i64 (oth S t kk), .int .i64 0] 229)
       obtain ⟨X2,hX2⟩:∃ W3,X1.alloc (.cells #[.int .i64 (1 + (kk:Int)), .int .i64 (7 + (t:Int)), .int .i64 0, .int .i64 1000000, .int .i64 (oth S t kk), .int .i64 0] 229) = W3:=⟨_,rfl⟩
       obtain ⟨bk,hbk⟩:∃ b,X1.heap.size = b:=⟨_,rfl⟩
       rw [hX2] at hb3 hblk ⊢
       have BX2:=hid (BX1.out.trans (hb3.mono BX1.out.size))
       rw [hbk] at hblk ⊢
       have BK:=hid (show X2.heap[bk]? = some (.cells (wC (wayR S t kk)) 229 (0,0)) by rw [hblk];simp [wC,wayR])
       have hS2:=SC.out X2 (q0_ PN.out BX2.out) (q0_ NN.out BX2.out) (q0_ CN.out BX2.out) (q0_ TN.out BX2.out)
       refine hK _ _ ⟨hS2,?_⟩
       clear hK hb3 hblk hX2 hS1
       refine qg_ (i:=17) (by kernel_rfl) rfl (by kernel_rfl) (by decide) (fun K hK=>?_)
       have OW2:=ob_ OWN.out BX2.out (nl_ _)
       obtain ⟨a5,c5,X3,hr,hown5,hg5,hat5⟩:=run_append_ao (P:=Tryz.prog) (w:=X2) 225 225 (q + 3) 229 i0 _ 6 48 Tryz.underlying225 hi0 hy0 hy1 hy2 rfl (by omega) v' as2.length _ OW2 (some ⟨bk,0,none⟩) 1 1 (wV [wayR S t kk]) rfl (fun h=>by cases h) (fun ad had=>by cases had;exact fun j u hj=>World.news_of_block (cs:=wC (wayR S t kk)) (t:=229) (fr:=(0,0)) BK.out j u (by simpa [wV] using hj)) (wV_one _) (by unfold maxLen;omega) (by omega) (by have:=BX2.out.size;omega)
       refine wa_ rfl rfl rfl hr ?_
       have hz2:=BX2.out.size
       have n1:=hg5.block (q + 1) (by omega) (fun e=>by have:=(OW2.lt _ e.symm).1;omega)
       have n2:=hg5.block (q + 2) (by omega) (fun e=>by have:=(OW2.lt _ e.symm).1;omega)
       have n3:=hg5.block q (by omega) (fun e=>by have:=(OW2.lt _ e.symm).1;omega)
       have hbtl:bt < W.heap.size:=(ge_ TN.out).1
       have n4:=hg5.block bt (by omega) (fun e=>by
        rcases OB.out bt e.symm with h | h
        · have:=VO.out _ h;omega
        · have:=HW9.out;omega)
       have N3:=hid (n1.trans (q0_ NN.out BX2.out))
       have HO5:=hid hown5
       have HG5:=hid hg5
       have HA5:=hid hat5
       have hS3:=SC.out X3 (n2.trans (q0_ PN.out BX2.out)) N3.out (n3.trans (q0_ CN.out BX2.out)) (n4.trans (q0_ TN.out BX2.out))
       refine hK _ _ ⟨hS3,?_⟩
       clear hK hr hown5 hg5 hat5 n1 n2 n3 n4 hS2 OW2 BK
       refine qg_ (i:=18) (by kernel_rfl) rfl (by kernel_rfl) (by decide) (fun K hK=>?_)
       unfold Oper.wpIn
       rw [Oper.semAt_eq _ _ _ (fun c h=>by cases h)]
       go_simp
       refine hK _ _ ⟨hS3,?_⟩
       clear hK
       refine qg_ (i:=19) (by kernel_rfl) rfl (by kernel_rfl) (by decide) (fun K hK=>?_)
       unfold Oper.wpIn
       rw [Oper.semAt_eq _ _ _ (fun c h=>by cases h)]
       go_simp
       refine hK _ _ ⟨hS3,?_⟩
       clear hK
       refine z1_ (by kernel_rfl) rfl (by kernel_rfl) (by kernel_rfl) (fun K hK=>?_)
       have z0:=cg_ N3.out (k:=0) (v:=v') rfl
       have z1:=cells_frz N3.out (k:=0)
       unfold Oper.wpIn
       rw [Oper.semAt_eq _ _ _ (fun c h=>by cases h)]
       go_simp
       refine hK _ _ ?_
       clear hK z0 z1 hS3
       have hKO:Keep (fun b=>b = q + 1 ∨ v'.ownBlock = some b) W (X3.setCell ⟨q + 1,0,none⟩ (.slice a5 (as2.length + 1) c5)):=((Keep.of_below BX2.out).trans (Keep.grown HG5.out (fun b hb => .inr hb))).trans (Keep.setCell (p:=⟨q + 1,0,none⟩) (.inl rfl))
       have hgz:=HG5.out.size
       go_simp
       refine ⟨fun b=>b = q + 1 ∨ (Value.slice a5 (as2.length + 1) c5).ownBlock = some b,⟨_,rfl,set1 N3.out,?_,fun b hb=>?_,hKO.os.trans KP.out.os,hKO.tape.trans KP.out.tape,hKO.output.trans KP.out.output,Nat.le_trans KP.out.size hKO.size,fun b hb hk=>?_⟩,hKO,fun b hb=>?_,fun b hb=>?_⟩
       · rw [List.map_append,← List.append_assoc,HPRE.out,List.map_cons,List.map_nil,List.length_append,wV_app]
         exact owns_agree HO5.out fun g hg=>Below.heap_setCell _ _ _ _ (by have:=(HO5.out.lt _ hg).1;simp;omega)
       · rcases HA5.out b hb with h | h
         · exact OB.out b h
         · right;omega
       · refine (hKO.block b (by omega) fun h=>hk ?_).trans (KP.out.block b hb hk)
         rcases h with h | h
         · exact .inl h
         · rcases OB.out b h with h2 | h2
           · exact .inr h2
           · omega
       · rcases hb with h | h
         · exact .inl (.inl h)
         · rcases HA5.out b h with h2 | h2
           · exact .inl (.inr h2)
           · right;omega
       · rcases hb with h | h
         · have:=(ge_ N3.out).1
           rw [h];simp [World.setCell];omega
         · have:=(HO5.out.lt _ h).2
           simp [World.setCell];omega
end Go.Proofs.LS