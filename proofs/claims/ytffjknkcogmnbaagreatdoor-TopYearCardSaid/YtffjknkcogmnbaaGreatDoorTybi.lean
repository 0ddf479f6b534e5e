/- Parts of the proof of a law of layer 11 (file): LbB16. The conditions stand in each theorem. -/
import Derived.Test.YtffjknkcogmnbaaGreatDoorProg
import Derived.Test.YtffjknkcogmnbaaGreatDoorTybh
set_option linter.all false
set_option linter.unusedVariables false
set_option linter.unusedSimpArgs false
namespace Go.Proofs.LB
open Go.RowKit Go.Sort Go.Proofs.LF
set_option maxHeartbeats 4000000
set_option maxRecDepth 100000
attribute [local go_sem] q1_ q2_ q8_
structure CnS (w:World) (ba z:Nat) (room:Int) (ss:List Su) (ms:List Mo) (f:Nat→Bool) (ds:List Deferred) (wr:World):Prop where
 c5:wr.heap[z]? = some (.cells #[.slice (some ⟨ba,0,none⟩) (ms.length + 1) (ms.length + 1)] 136 (0,0))
 out:wr.heap[z + 1]? = some (.cells (bl (121 * (ms.length + 1)) f) 140 (0,0))
 c6:wr.heap[z + 2]? = some (.cells #[.slice (some ⟨z + 1,0,none⟩) (ms.length + 1) (ms.length + 1)] 136 (0,0))
 ah:wr.heap[ba]? = some (.cells (bl (121 * (ms.length + 1)) (ahG room ss ms)) 140 (0,0))
 bel:Below w.heap.size w wr
 dfs:Dfs w.heap.size ds wr
theorem CnS.next {w wr wr':World} {ba z:Nat} {room:Int} {ss:List Su} {ms:List Mo} {f g:Nat→Bool} {ds:List Deferred} (h:CnS w ba z room ss ms f ds wr) (hb:Below wr.heap.size wr wr') (hf:∀ i,i < 121 * (ms.length + 1)→f i = g i):CnS w ba z room ss ms g ds wr':=by
 have hz:=h.bel.size
 refine ⟨q0_ h.c5 hb,?_,q0_ h.c6 hb,q0_ h.ah hb,h.bel.trans (hb.mono hz),h.dfs.below hb⟩
 rw [q0_ h.out hb]
 exact congrArg some (congrArg (fun c=>Obj.cells c 140 (0,0)) (qW_ hf))
theorem CnS.put {w wr:World} {ba z:Nat} {room:Int} {ss:List Su} {ms:List Mo} {f g:Nat→Bool} {ds:List Deferred} (h:CnS w ba z room ss ms f ds wr) (hz:w.heap.size ≤ z∧ba < z) (off:Nat) (b:Bool) (hf:∀ i,i < 121 * (ms.length + 1)→g i = if i = off then b else f i):CnS w ba z room ss ms g ds (wr.setCell ⟨z + 1,off,none⟩ (.bool b)):=by
 have ho:∀ k,k ≠ z + 1→(wr.setCell ⟨z + 1,off,none⟩ (.bool b)).heap[k]? = wr.heap[k]?:=fun k hk=>Below.heap_setCell _ _ _ _ hk
 refine ⟨(ho _ (by omega)).trans h.c5,?_,(ho _ (by omega)).trans h.c6,(ho _ (by omega)).trans h.ah,h.bel.setCell (p:=⟨z + 1,off,none⟩) (by simp;omega) _,h.dfs.kept fun d hd D hD=>ho D fun e=>?_⟩
 · rw [qW_ hf,← bl_set]
   simp [World.setCell,Array.getElem?_modify,h.out]
 · have:=(h.dfs.lt d hd D hD).2.2
   rw [e,h.out] at this;cases this
theorem CnS.mark {w wr wr':World} {ba z D:Nat} {room:Int} {ss:List Su} {ms:List Mo} {f g:Nat→Bool} {ds:List Deferred} (h:CnS w ba z room ss ms f ds wr) (hz:w.heap.size ≤ z∧ba < z) (hk:Keep (fun b=>b = z + 1) wr wr') (hc:wr'.heap[z + 1]? = some (.cells (bl (121 * (ms.length + 1)) g) 140 (0,0))) (hD:wr'.heap[D]? = some (.deferred (some []))) (hl:wr.heap.size ≤ D):CnS w ba z room ss ms g ({ target := .collected D,args:=#[] } :: ds) wr':=by
 have hsz:=h.bel.size
 have ho:∀ k,k < wr.heap.size→k ≠ z + 1→wr'.heap[k]? = wr.heap[k]?:=fun k h1 h2=>hk.block k h1 h2
 have l5:=(ge_ h.c5).1
 have l6:=(ge_ h.c6).1
 have l1:=(ge_ h.ah).1
 exact ⟨(ho _ l5 (by omega)).trans h.c5,hc,(ho _ l6 (by omega)).trans h.c6,(ho _ l1 (by omega)).trans h.ah,h.bel.trans (hk.below hsz fun b hb=>by omega),
  Dfs.more (w:=wr) (h.dfs.keep hk fun b hb=>by subst hb;intro x e;rw [h.out] at e;cases e) hD (by omega) hl fun d hd D' hD'=>(h.dfs.lt d hd D' hD').2.1⟩
theorem wpIn_val {F:Fence} {n:Nat} {P:Program} {Q:Exit→Act→World→Prop} {o:Oper} {a:Act} {w w':World} {v:Value} {K:Act→World→Prop} (hF:∀ f,F.fn f) (hnd:qh_ o = true) (h:(execOp a.eval o).run P w = .ok (.value v) w') (hk:K (a.put o.dst v) w'):Oper.wpIn F n P o a w K Q:=by
 simp only [Oper.wpIn,zU_ hnd,h,Oper.uponIn]
 exact ⟨fun f _=>hF f,hk⟩
theorem zG_ {P:Program} {o:Oper} {a:Act} {w w':World} {x:Operand} {v r:Value} (t:TypeId) (ho:o.op = .load t x) (hx:a.eval x = v) (hr:(Instr.loadAt t v).run P w = .ok r w'):(execOp a.eval o).run P w = .ok (.value r) w':=by
 unfold execOp
 simp [ho,hx,hr,Result.andThen]
def cnG (room:Int) (S:List Su) (ms:List Mo) (lo hi:Int) (i:Nat):Bool:=cnT room S ms lo hi (i / 121) (i % 121)
theorem idx140 (rl:List Value) (n:Nat) (b:Bool) (h1:rl.length = 121) (h2:rl[n]? = some (.bool b)) (W:World):(Instr.index 140 (.agg rl.toArray) (.int .i64 (n:Int))).run Tryz.prog W = .ok (.bool b) W:=by
 obtain ⟨hn,he⟩:=List.getElem?_eq_some_iff.1 h2
 rw [h1] at hn
 have h3:(n:Int) < 121:=by omega
 have h4:(0:Int) ≤ n:=by omega
 have ht:Tryz.t4.size = 1:=rfl
 unfold Instr.index
 simp [Sem.run_bind,asIntOf,underlying,Tryz.underlying140,h3,h4,part,sizeOf,h2,ht,hn]
def cnM (room:Int) (S:List Su) (ms:List Mo) (lo hi:Int) (m n:Nat) (pre:List Int) (i:Nat):Bool:=
 decide (i < 121 * (m + 1)) && cnG room S ms lo hi i || decide (121 * (m + 1) ≤ i) && decide (i < 121 * (m + 2)) && ((((List.range n).any fun n'=>cnT room S ms lo hi m n' && stB room ms m n' (i % 121)) || decide (((i % 121:Nat):Int) ∈ pre)) && ahB room S (m + 1) (ms.drop (m + 1)) ((i % 121:Nat):Int))
theorem can_ok (room first uns:Int) (ms:List Mo) (ss:List Su) (am as_:Option Addr) (cm cs_ M D B n0:Nat) (S:Nat→Prop) (w:World) (hm:LSl yn_ S w (.slice am ms.length cm) ms) (hs:LSl vQ_ S w (.slice as_ ss.length cs_) ss) (hS:∀ b,S b→b < w.heap.size) (hD:w.heap[D]? = some (.cells #[.int .i64 room, .int .i64 first, .int .i64 uns, .slice am ms.length cm, .slice as_ ss.length cs_, .map (some M)] 271 (0,0)))
 (hM:jE_ B M n0 (plc ss ss.length) w) (hO:OkBed room first uns ms ss) :
 Calls Tryz.prog 102 #[.pointer (some ⟨D,0,none⟩), .agg #[.func (.func 151) #[] #[]]] w fun e w'=>∃ Z,e = .returned (.slice (some ⟨Z,0,none⟩) (ms.length + 1) (ms.length + 1))∧w.heap.size ≤ Z∧w'.heap[Z]? = some (.cells (bl (121 * (ms.length + 1)) (cnG room ss ms (first - uns) (first + uns))) 140 (0,0))∧Below w.heap.size w w':=by
 have hDl:=(ge_ hD).1
 have hlen:=hO.len
 obtain ⟨w1,hw1⟩:∃ w1,w.alloc (.cells #[.func (.func 151) #[] #[]] 211) = w1:=⟨_,rfl⟩
 have hb1:Below w.heap.size w w1:=by rw [← hw1];exact (Below.refl _ _).alloc (nl_ _) _
 have hz1:w1.heap.size = w.heap.size + 1:=by rw [← hw1];simp
 have o1:w1.heap[w.heap.size]? = some (.cells #[.func (.func 151) #[] #[]] 211 (0,0)):=by rw [← hw1];exact ha_ _ _
 have c1:=cg_ o1 (k:=0) (v := .func (.func 151) #[] #[]) rfl
 have AH:=hid (ahead_ok room first uns ms ss am as_ cm cs_ M D B n0 S w1 (hm.agree (qc_ hb1 hS)) (hs.agree (qc_ hb1 hS)) (fun b hb=>by have:=hS b hb;omega) (q0_ hD hb1) (hM.below hb1) hO)
 have HM:=hid hm
 have HS:=hid hs
 have SS:=hid hS
 have MM:=hid hM
 have DD:=hid hD
 have OO:=hid hO
 have HB1:=hid hb1
 clear hm hs hS hM hD hO hb1 o1
 refine (callsIn_wide (n:=9)).1 ?_
 refine callsIn_of_wp_marks Tryz.func102 rfl trivial ?_ rfl
 simp only [Tryz.ntmps102,List.size_toArray,List.length_cons,List.length_nil,Nat.reduceAdd,Nat.reduceSub,Array.replicate_succ,Array.replicate_zero,List.push_toArray,List.append_toArray,List.nil_append,List.cons_append]
 refine kE_ ?_
 have hmk:=make136 (ms.length + 1) (by omega)
 simp only [Int.natCast_add,Int.natCast_one] at hmk
 gi_wp2_with fail
 try rw [hw1]
 gi_wp2_with fail
 refine ⟨trivial,?_⟩
 gi_at_call 148
 refine (callsIn_wide.2 AH.out).mono ?_
 rintro e w2 ⟨rfl,hah,hb2⟩
 rw [hz1] at hah ⊢
 have hz2:=hb2.size
 have hla:=(ge_ hah).1
 obtain ⟨ba,hba⟩:∃ b,w.heap.size + 1 + 1 = b:=⟨_,rfl⟩
 obtain ⟨z,hz⟩:∃ z,w2.heap.size = z:=⟨_,rfl⟩
 obtain ⟨R,rfl⟩:∃ R:Nat,room = (R:Int):=⟨room.toNat,by have:=OO.out.rm;omega⟩
 rw [hba] at hah hla ⊢
 have hbz:w.heap.size ≤ z∧ba < z∧w.heap.size < ba:=by omega
 have hb3:Below w2.heap.size w2 (((w2.alloc (.cells #[.slice (some ⟨ba,0,none⟩) (ms.length + 1) (ms.length + 1)] 136)).alloc (.cells (bl (121 * (ms.length + 1)) fun _=>false) 140)).alloc (.cells #[.slice (some ⟨z + 1,0,none⟩) (ms.length + 1) (ms.length + 1)] 136)):=(((Below.refl _ _).alloc (nl_ _) _).alloc (by simp) _).alloc (by simp;omega) _
 have hq5:(((w2.alloc (.cells #[.slice (some ⟨ba,0,none⟩) (ms.length + 1) (ms.length + 1)] 136)).alloc (.cells (bl (121 * (ms.length + 1)) fun _=>false) 140)).alloc (.cells #[.slice (some ⟨z + 1,0,none⟩) (ms.length + 1) (ms.length + 1)] 136)).heap[w2.heap.size]? = some (.cells #[.slice (some ⟨ba,0,none⟩) (ms.length + 1) (ms.length + 1)] 136 (0,0)):=qb_ _ (qb_ _ (ha_ _ _))
 have hq6:(((w2.alloc (.cells #[.slice (some ⟨ba,0,none⟩) (ms.length + 1) (ms.length + 1)] 136)).alloc (.cells (bl (121 * (ms.length + 1)) fun _=>false) 140)).alloc (.cells #[.slice (some ⟨z + 1,0,none⟩) (ms.length + 1) (ms.length + 1)] 136)).heap[w2.heap.size + 1]? = some (.cells (bl (121 * (ms.length + 1)) fun _=>false) 140 (0,0)):=by have:=qb_ (.cells #[.slice (some ⟨z + 1,0,none⟩) (ms.length + 1) (ms.length + 1)] 136) (ha_ (w2.alloc (.cells #[.slice (some ⟨ba,0,none⟩) (ms.length + 1) (ms.length + 1)] 136)) (.cells (bl (121 * (ms.length + 1)) fun _=>false) 140));simpa using this
 have hq7:(((w2.alloc (.cells #[.slice (some ⟨ba,0,none⟩) (ms.length + 1) (ms.length + 1)] 136)).alloc (.cells (bl (121 * (ms.length + 1)) fun _=>false) 140)).alloc (.cells #[.slice (some ⟨z + 1,0,none⟩) (ms.length + 1) (ms.length + 1)] 136)).heap[w2.heap.size + 2]? = some (.cells #[.slice (some ⟨z + 1,0,none⟩) (ms.length + 1) (ms.length + 1)] 136 (0,0)):=by have:=ha_ ((w2.alloc (.cells #[.slice (some ⟨ba,0,none⟩) (ms.length + 1) (ms.length + 1)] 136)).alloc (.cells (bl (121 * (ms.length + 1)) fun _=>false) 140)) (.cells #[.slice (some ⟨z + 1,0,none⟩) (ms.length + 1) (ms.length + 1)] 136);simpa using this
 obtain ⟨w5,hw5⟩:∃ w5,(((w2.alloc (.cells #[.slice (some ⟨ba,0,none⟩) (ms.length + 1) (ms.length + 1)] 136)).alloc (.cells (bl (121 * (ms.length + 1)) fun _=>false) 140)).alloc (.cells #[.slice (some ⟨z + 1,0,none⟩) (ms.length + 1) (ms.length + 1)] 136)) = w5:=⟨_,rfl⟩
 rw [hw5] at hb3 hq5 hq6 hq7
 rw [hz] at hq5 hq6 hq7
 have hA:=hid (show CnS w ba z (R:Int) ss ms (fun i=>decide (i < 0) && cnG R ss ms (first - uns) (first + uns) i) [] w5 from ⟨hq5,by rw [hq6];exact congrArg some (congrArg (fun c=>Obj.cells c 140 (0,0)) (qW_ fun i hi=>by simp)),hq7,q0_ hah hb3,(HB1.out.trans (hb2.mono (by omega))).trans (hb3.mono (by omega)),trivial⟩)
 have DW:=hid (q0_ DD.out hA.out.bel)
 have hA0:=cg_ DW.out (k:=0) (v := .int .i64 R) rfl
 have hrm:=OO.out.rm
 clear hb3 hq5 hq6 hq7 hah hb2 c1 hw1 AH
 gi_wp2_with fail
 refine qw_ (fun r a wr=>∃ n:Nat,(r + n = R + 1∧CnS w ba z (R:Int) ss ms (fun i=>decide (i < n) && cnG R ss ms (first - uns) (first + uns) i) a.defers wr)∧a = { tmps:=#[.pointer (some ⟨D,0,none⟩), .agg #[.func (.func 151) #[] #[]],undef, .pointer (some ⟨w.heap.size,0,none⟩), .slice none 0 0, .pointer (some ⟨z,0,none⟩), .pointer (some ⟨(z + 1 + 1),0,none⟩),a.tmps.getD 7 undef,undef,undef,undef,undef, .pointer (some ⟨D,0,none⟩), .agg #[.func (.func 151) #[] #[]], .slice (some ⟨ba,0,none⟩) (ms.length + 1) (ms.length + 1), .slice (some ⟨ba,0,none⟩) (ms.length + 1) (ms.length + 1), .int .i64 ((ms.length:Int) + 1), .slice (some ⟨z + 1,0,none⟩) (ms.length + 1) (ms.length + 1), .pointer (some ⟨D,0,none⟩), .pointer (some ⟨D,0,none⟩), .pointer (some ⟨D,0,none⟩), .pointer (some ⟨D,0,none⟩), .int .i64 R, .int .i64 ((R:Int) + 1), .int .i64 n,a.tmps.getD 25 undef,a.tmps.getD 26 undef,a.tmps.getD 27 undef,a.tmps.getD 28 undef,a.tmps.getD 29 undef,a.tmps.getD 30 undef,a.tmps.getD 31 undef,a.tmps.getD 32 undef,a.tmps.getD 33 undef,a.tmps.getD 34 undef,a.tmps.getD 35 undef,a.tmps.getD 36 undef,a.tmps.getD 37 undef,a.tmps.getD 38 undef,a.tmps.getD 39 undef,a.tmps.getD 40 undef,a.tmps.getD 41 undef,a.tmps.getD 42 undef,a.tmps.getD 43 undef,a.tmps.getD 44 undef,a.tmps.getD 45 undef,a.tmps.getD 46 undef,a.tmps.getD 47 undef,a.tmps.getD 48 undef,a.tmps.getD 49 undef,a.tmps.getD 50 undef,a.tmps.getD 51 undef,a.tmps.getD 52 undef,a.tmps.getD 53 undef,a.tmps.getD 54 undef,a.tmps.getD 55 undef,a.tmps.getD 56 undef,a.tmps.getD 57 undef,a.tmps.getD 58 undef,a.tmps.getD 59 undef,a.tmps.getD 60 undef,a.tmps.getD 61 undef,a.tmps.getD 62 undef,undef,undef,undef,undef,undef,undef,undef,undef,undef,undef,undef,undef,undef,undef,undef,undef,undef,undef,undef,undef,undef,undef,undef,undef,undef,undef,undef,undef,undef,undef,undef,undef,undef,undef,undef,undef,undef,undef,undef],defers:=a.defers }) (R + 1) ?_ ?_
 · exact ⟨0,⟨by omega,hA.out⟩,rfl⟩
 clear hA DW hA0 hw5 w5 hmk
 rintro r a wr ⟨n,⟨hr,hA⟩,ha⟩
 obtain ⟨u,hu⟩:∃ u:Nat→Value,∀ k,a.tmps.getD k undef = u k:=⟨_,fun _=>rfl⟩
 obtain ⟨ds,hds⟩:∃ ds,a.defers = ds:=⟨_,rfl⟩
 simp only [hu] at ha
 rw [hds] at ha hA
 clear hu hds
 subst ha
 have hA':=hid hA
 have DW:=hid (q0_ DD.out hA.bel)
 have d1:=cg_ DW.out (k:=1) (v := .int .i64 first) rfl
 have d2:=cg_ DW.out (k:=2) (v := .int .i64 uns) rfl
 have d3:=cg_ DW.out (k:=3) (v := .slice am ms.length cm) rfl
 clear hA
 cases r with
 | zero=>
   have hnR:(n:Int) = (R:Int) + 1:=by omega
   have hA2:=hid (hA'.out.next (g:=fun i=>decide (i < 121 * (0 + 1)) && cnG R ss ms (first - uns) (first + uns) i) (Below.refl _ _) fun i hi=>by
    by_cases h1:i < n
    · have h2:i < 121 * (0 + 1):=by omega
      simp [h1,h2]
    · by_cases h2:i < 121 * (0 + 1)
      · have h3:cnG R ss ms (first - uns) (first + uns) i = false:=by
         have e1:i / 121 = 0:=by omega
         have e2:i % 121 = i:=by omega
         rw [cnG,e1,e2,cnT,decide_eq_false (by omega)];rfl
        rw [h3];simp
      · simp [h1,h2])
   clear hA' d1 d2
   gi_wp2_with fail
   obtain ⟨e24,he24⟩:∃ e:Value,Value.int .i64 (n:Int) = e:=⟨_,rfl⟩
   rw [he24]
   clear he24
   refine qw_ (fun r a wr=>∃ m:Nat,(r + m = ms.length∧CnS w ba z (R:Int) ss ms (fun i=>decide (i < 121 * (m + 1)) && cnG R ss ms (first - uns) (first + uns) i) a.defers wr)∧a = { tmps:=#[.pointer (some ⟨D,0,none⟩), .agg #[.func (.func 151) #[] #[]],undef, .pointer (some ⟨w.heap.size,0,none⟩), .slice none 0 0, .pointer (some ⟨z,0,none⟩), .pointer (some ⟨(z + 1 + 1),0,none⟩),u 7,a.tmps.getD 8 undef,a.tmps.getD 9 undef,a.tmps.getD 10 undef,a.tmps.getD 11 undef, .pointer (some ⟨D,0,none⟩), .agg #[.func (.func 151) #[] #[]], .slice (some ⟨ba,0,none⟩) (ms.length + 1) (ms.length + 1), .slice (some ⟨ba,0,none⟩) (ms.length + 1) (ms.length + 1), .int .i64 ((ms.length:Int) + 1), .slice (some ⟨z + 1,0,none⟩) (ms.length + 1) (ms.length + 1), .pointer (some ⟨D,0,none⟩), .pointer (some ⟨D,0,none⟩), .pointer (some ⟨D,0,none⟩), .pointer (some ⟨D,0,none⟩), .int .i64 R, .int .i64 ((R:Int) + 1),e24, .bool false,u 26,u 27,u 28,u 29,u 30,u 31,u 32,u 33,u 34,u 35,u 36,u 37,u 38,u 39,u 40,u 41,u 42,u 43,u 44,u 45,u 46,u 47,u 48,u 49,u 50,u 51,u 52,u 53,u 54,u 55,u 56,u 57,u 58,u 59,u 60,u 61,u 62, .pointer (some ⟨D,0,none⟩), .pointer (some ⟨D,0,none⟩), .pointer (some ⟨D,0,none⟩), .pointer (some ⟨D,3,none⟩), .slice am ms.length cm, .int .i64 ms.length, .int .i64 m,a.tmps.getD 70 undef,a.tmps.getD 71 undef,a.tmps.getD 72 undef,a.tmps.getD 73 undef,a.tmps.getD 74 undef,a.tmps.getD 75 undef,a.tmps.getD 76 undef,a.tmps.getD 77 undef,a.tmps.getD 78 undef,a.tmps.getD 79 undef,a.tmps.getD 80 undef,a.tmps.getD 81 undef,a.tmps.getD 82 undef,a.tmps.getD 83 undef,a.tmps.getD 84 undef,a.tmps.getD 85 undef,a.tmps.getD 86 undef,a.tmps.getD 87 undef,a.tmps.getD 88 undef,a.tmps.getD 89 undef,a.tmps.getD 90 undef,a.tmps.getD 91 undef,a.tmps.getD 92 undef,a.tmps.getD 93 undef,a.tmps.getD 94 undef,a.tmps.getD 95 undef,a.tmps.getD 96 undef,a.tmps.getD 97 undef,a.tmps.getD 98 undef,a.tmps.getD 99 undef,a.tmps.getD 100 undef,undef],defers:=a.defers }) ms.length ?_ ?_
   · exact ⟨0,⟨by omega,hA2.out⟩,rfl⟩
   clear hA2 DW d3 wr ds hnR
   rintro r a wr ⟨m,⟨hm,hA⟩,ha⟩
   obtain ⟨v,hu⟩:∃ v:Nat→Value,∀ k,a.tmps.getD k undef = v k:=⟨_,fun _=>rfl⟩
   obtain ⟨ds,hds⟩:∃ ds,a.defers = ds:=⟨_,rfl⟩
   simp only [hu] at ha
   rw [hds] at ha hA
   clear hu hds
   subst ha
   have hA':=hid hA
   have q6:=cg_ hA.c6 (k:=0) (v := .slice (some ⟨z + 1,0,none⟩) (ms.length + 1) (ms.length + 1)) rfl
   have l6:=(ge_ hA.c6).1
   have l0:=hA.out
   clear hA l0
   cases r with
   | zero=>
     have hmM:(m:Int) = (ms.length:Int):=by omega
     gi_wp2_with fail
     refine zl_ ds _ hA'.out.dfs fun w' hs hb=>?_
     refine ⟨_,results_tmp rfl _ _ _,z + 1,rfl,by omega,?_,hA'.out.bel.trans (hb.mono (nl_ _))⟩
     rw [hs.block _ (fun h e=>by rw [hA'.out.out] at e;cases e),hA'.out.out]
     refine congrArg some (congrArg (fun c=>Obj.cells c 140 (0,0)) (qW_ fun i hi=>?_))
     rw [decide_eq_true (by omega)];rfl
   | succ r=>
     have hmM:(m:Int) < (ms.length:Int):=by omega
     have hmM1:(m:Int) < (ms.length:Int) + 1:=by omega
     obtain ⟨w8,hw8⟩:∃ w8,wr.alloc (.cells #[.int .i64 m] 3) = w8:=⟨_,rfl⟩
     have hb8:Below wr.heap.size wr w8:=by rw [← hw8];exact (Below.refl _ wr).alloc (nl_ _) _
     have hc8:w8.heap[wr.heap.size]? = some (.cells #[.int .i64 m] 3 (0,0)):=by rw [← hw8];exact ha_ _ _
     have c8:=cg_ hc8 (k:=0) (v := .int .i64 m) rfl
     have hA8:=hid (hA'.out.next hb8 fun _ _=>rfl)
     have q68:=bc_ hb8 l6 q6
     have hld:=run_loadAt_mid (P:=Tryz.prog) w8 (z + 1) (m * 121) 140 ((List.range 121).map fun n=>Value.bool (cnT R ss ms (first - uns) (first + uns) m n)) _ (fun j v hj=>by
      obtain ⟨hj1,hj2⟩:=List.getElem?_eq_some_iff.1 hj
      have hj3:j < 121:=by simpa using hj1
      rw [cg_ hA8.out.out (za_ (i:=m * 121 + j) (by omega)),← hj2]
      have e1:(m * 121 + j) / 121 = m:=by omega
      have e2:(m * 121 + j) % 121 = j:=by omega
      have e3:m * 121 + j < 121 * (m + 1):=by omega
      simp [cnG,e1,e2,e3]) Tryz.underlying140 rfl (by kernel_rfl)
     obtain ⟨rl,hrl⟩:∃ rl:List Value,(List.range 121).map (fun n=>Value.bool (cnT R ss ms (first - uns) (first + uns) m n)) = rl:=⟨_,rfl⟩
     rw [hrl] at hld
     have hrl1:rl.length = 121:=by rw [← hrl];simp
     have hrl2:=hid (fun (n:Nat) (h:n < 121)=>show rl[n]? = some (.bool (cnT R ss ms (first - uns) (first + uns) m n)) by rw [← hrl];simp [h])
     clear hrl
     gi_wp2_with (refine wpIn_val (fun _=>trivial) rfl (zG_ 140 rfl rfl hld) ?_)
     obtain ⟨b8,hb8e⟩:∃ b,wr.heap.size = b:=⟨_,rfl⟩
     have hb8z:z + 2 < b8:=by omega
     rw [hb8e] at hc8 ⊢
     have HB8:=hid hb8
     clear hld c8 q68 hw8 hb8 hA' q6 l6
     refine qw_ (fun r a wr=>∃ n:Nat,(r + n = 121∧wr.heap[b8]? = some (.cells #[.int .i64 m] 3 (0,0))∧CnS w ba z (R:Int) ss ms (cnM R ss ms (first - uns) (first + uns) m n []) a.defers wr)∧a = { tmps:=#[.pointer (some ⟨D,0,none⟩), .agg #[.func (.func 151) #[] #[]],undef, .pointer (some ⟨w.heap.size,0,none⟩), .slice none 0 0, .pointer (some ⟨z,0,none⟩), .pointer (some ⟨(z + 1 + 1),0,none⟩),u 7, .pointer (some ⟨b8,0,none⟩),a.tmps.getD 9 undef,a.tmps.getD 10 undef,a.tmps.getD 11 undef, .pointer (some ⟨D,0,none⟩), .agg #[.func (.func 151) #[] #[]], .slice (some ⟨ba,0,none⟩) (ms.length + 1) (ms.length + 1), .slice (some ⟨ba,0,none⟩) (ms.length + 1) (ms.length + 1), .int .i64 ((ms.length:Int) + 1), .slice (some ⟨z + 1,0,none⟩) (ms.length + 1) (ms.length + 1), .pointer (some ⟨D,0,none⟩), .pointer (some ⟨D,0,none⟩), .pointer (some ⟨D,0,none⟩), .pointer (some ⟨D,0,none⟩), .int .i64 R, .int .i64 ((R:Int) + 1),e24, .bool false,u 26,u 27,u 28,u 29,u 30,u 31,u 32,u 33,u 34,u 35,u 36,u 37,u 38,u 39,u 40,u 41,u 42,u 43,u 44,u 45,u 46,u 47,u 48,u 49,u 50,u 51,u 52,u 53,u 54,u 55,u 56,u 57,u 58,u 59,u 60,u 61,u 62, .pointer (some ⟨D,0,none⟩), .pointer (some ⟨D,0,none⟩), .pointer (some ⟨D,0,none⟩), .pointer (some ⟨D,3,none⟩), .slice am ms.length cm, .int .i64 ms.length, .int .i64 m, .bool true, .int .i64 m, .slice (some ⟨z + 1,0,none⟩) (ms.length + 1) (ms.length + 1), .int .i64 m, .pointer (some ⟨z + 1,m * 121,none⟩), .agg rl.toArray, .int .i64 n,a.tmps.getD 77 undef,a.tmps.getD 78 undef,a.tmps.getD 79 undef,a.tmps.getD 80 undef,a.tmps.getD 81 undef,a.tmps.getD 82 undef,a.tmps.getD 83 undef,a.tmps.getD 84 undef,a.tmps.getD 85 undef,a.tmps.getD 86 undef,a.tmps.getD 87 undef,a.tmps.getD 88 undef,a.tmps.getD 89 undef,a.tmps.getD 90 undef,a.tmps.getD 91 undef,a.tmps.getD 92 undef,a.tmps.getD 93 undef,a.tmps.getD 94 undef,a.tmps.getD 95 undef,a.tmps.getD 96 undef,a.tmps.getD 97 undef,a.tmps.getD 98 undef,a.tmps.getD 99 undef,v 100,undef],defers:=a.defers }) 121 ?_ ?_
     · refine ⟨0,⟨rfl,hc8,hA8.out.next (Below.refl _ _) fun i hi=>?_⟩,rfl⟩
       rw [cnM]
       by_cases h1:i < 121 * (m + 1)
       · simp [h1]
       · simp [h1]
     clear hA8 hc8 HB8 hb8e w8 wr ds
     rintro r a wr ⟨n,⟨hn,hc8,hA⟩,ha⟩
     obtain ⟨p,hu⟩:∃ p:Nat→Value,∀ k,a.tmps.getD k undef = p k:=⟨_,fun _=>rfl⟩
     obtain ⟨ds,hds⟩:∃ ds,a.defers = ds:=⟨_,rfl⟩
     simp only [hu] at ha
     rw [hds] at ha hA
     clear hu hds
     subst ha
     have hA':=hid hA
     clear hA
     cases r with
     | zero=>
       have hn:n = 121:=by omega
       subst hn
       gi_wp2_with fail
       refine ⟨r,by omega,m + 1,⟨by omega,hA'.out.next (Below.refl _ _) fun i hi=>?_⟩,by rfl⟩
       rw [cnM]
       by_cases h1:i < 121 * (m + 1)
       · have h2:i < 121 * (m + 1 + 1):=by omega
         have h3:¬ 121 * (m + 1) ≤ i:=by omega
         simp [h1,h2,h3]
       · by_cases h2:i < 121 * (m + 1 + 1)
         · have h3:121 * (m + 1) ≤ i:=by omega
           have h4:i < 121 * (m + 2):=by omega
           have e1:i / 121 = m + 1:=by omega
           simp only [h1,h2,h3,h4,decide_true,decide_false,Bool.false_and,Bool.true_and,Bool.false_or,List.not_mem_nil,Bool.or_false]
           rw [cnG,e1,cnT]
         · have h4:¬ i < 121 * (m + 2):=by omega
           simp [h1,h2,h4]
     | succ r=>
       have hn121:(n:Int) < 121:=by omega
       obtain ⟨v0,hv0⟩:∃ v0,cnT R ss ms (first - uns) (first + uns) m n = v0:=⟨_,rfl⟩
       have hix:=idx140 rl n v0 hrl1 (by rw [hrl2.out n (by omega),hv0])
       have d8:=cg_ hc8 (k:=0) (v := .int .i64 m) rfl
       cases v0 with
       | false=>
         gi_wp2_with fail
         refine ⟨r,by omega,n + 1,⟨by omega,hc8,hA'.out.next (Below.refl _ _) fun i hi=>?_⟩,by rfl⟩
         rw [cnM,cnM,List.range_succ,List.any_append]
         simp [hv0]
       | true=>
         have hnR:=cnT_le ⟨by omega,hrm.2⟩ OO.out.mo hv0
         obtain ⟨x,hx⟩:∃ x,ms[m]? = some x:=⟨ms[m]'(by omega),List.getElem?_eq_getElem _⟩
         have hxo:OkMo R x:=OO.out.mo x (List.mem_of_getElem? hx)
         have B8:=hid (hA'.out.bel)
         have LV:=hid (vK_ (R:Int) first uns ms ss.length am as_ cm cs_ M D S m x n wr (HM.out.agree (qc_ B8.out SS.out)) (fun b hb=>by have:=SS.out b hb;have:=B8.out.size;omega) hx (q0_ DD.out B8.out))
         gi_wp2_with fail
         refine ⟨trivial,?_⟩
         gi_at_call 150
         refine (callsIn_wide.2 LV.out).mono ?_
         rintro e w9 ⟨rfl,hLR,hz9,hb9⟩
         gi_wp2_with fail
         have hA9:=hid (hA'.out.next hb9 fun _ _=>rfl)
         have hc9:=q0_ hc8 hb9
         have l8:=(ge_ hc8).1
         have B9:=hid (hA9.out.bel)
         have hR121:0 ≤ (R:Int)∧(R:Int) ≤ 120:=by omega
         have SEQ:=vS_ (R:Int) first uns ms ss.length am as_ cm cs_ M D wr.heap.size (wr.heap.size + 1) (wr.heap.size + 2) (wr.heap.size + 3) S m x n w9 hLR (HM.out.agree (qc_ B9.out SS.out)) (fun b hb=>by have:=SS.out b hb;have:=B9.out.size;omega) hx hxo hR121 (by omega)
         clear LV hLR
         have hst:∀ i,i < 121→stB R ms m n i = decide (((i:Nat):Int) ∈ lvs R x n):=fun i _=>by rw [stB,hx]
         refine zq_ (n:=9) (gf:=195) (lb:=#[.pointer (some ⟨wr.heap.size,0,none⟩), .pointer (some ⟨(wr.heap.size + 1),0,none⟩), .pointer (some ⟨(wr.heap.size + 2),0,none⟩), .pointer (some ⟨(wr.heap.size + 3),0,none⟩)]) rfl xO_ SEQ (fun h _=>h) (fun h _=>h) (fun _=>rfl)
          (fun pre O W=>O = (fun b=>b = z + 1)∧W.heap[z + 1]? = some (.cells (bl (121 * (ms.length + 1)) (cnM R ss ms (first - uns) (first + uns) m n pre)) 140 (0,0))∧Keep (fun b=>b = z + 1) w9 W)
          (fun _ _ _ _=>False) ?dep ?depx (fun b=>b = z + 1) ?o0 ?ot ⟨rfl,hA9.out.out,Keep.refl _ _⟩
          (fun k _ a₁ _=>a₁ = { tmps:=#[.pointer (some ⟨D,0,none⟩), .agg #[.func (.func 151) #[] #[]],undef, .pointer (some ⟨w.heap.size,0,none⟩), .slice none 0 0, .pointer (some ⟨z,0,none⟩), .pointer (some ⟨(z + 1 + 1),0,none⟩),u 7, .pointer (some ⟨b8,0,none⟩), .int .i64 n, .bool true, .int .i64 k, .pointer (some ⟨D,0,none⟩), .agg #[.func (.func 151) #[] #[]], .slice (some ⟨ba,0,none⟩) (ms.length + 1) (ms.length + 1), .slice (some ⟨ba,0,none⟩) (ms.length + 1) (ms.length + 1), .int .i64 ((ms.length:Int) + 1), .slice (some ⟨z + 1,0,none⟩) (ms.length + 1) (ms.length + 1), .pointer (some ⟨D,0,none⟩), .pointer (some ⟨D,0,none⟩), .pointer (some ⟨D,0,none⟩), .pointer (some ⟨D,0,none⟩), .int .i64 R, .int .i64 ((R:Int) + 1),e24, .bool false,u 26,u 27,u 28,u 29,u 30,u 31,u 32,u 33,u 34,u 35,u 36,u 37,u 38,u 39,u 40,u 41,u 42,u 43,u 44,u 45,u 46,u 47,u 48,u 49,u 50,u 51,u 52,u 53,u 54,u 55,u 56,u 57,u 58,u 59,u 60,u 61,u 62, .pointer (some ⟨D,0,none⟩), .pointer (some ⟨D,0,none⟩), .pointer (some ⟨D,0,none⟩), .pointer (some ⟨D,3,none⟩), .slice am ms.length cm, .int .i64 ms.length, .int .i64 m, .bool true, .int .i64 m, .slice (some ⟨z + 1,0,none⟩) (ms.length + 1) (ms.length + 1), .int .i64 m, .pointer (some ⟨z + 1,m * 121,none⟩), .agg rl.toArray, .int .i64 n, .bool true, .int .i64 n, .bool true, .bool true, .pointer (some ⟨D,0,none⟩), .int .i64 m, .int .i64 n, .func (.func 195) #[] #[.pointer (some ⟨wr.heap.size,0,none⟩), .pointer (some ⟨(wr.heap.size + 1),0,none⟩), .pointer (some ⟨(wr.heap.size + 2),0,none⟩), .pointer (some ⟨(wr.heap.size + 3),0,none⟩)], .int .i64 k,p 86,p 87,p 88,p 89,p 90,p 91,p 92,p 93,p 94,p 95,p 96,p 97,p 98,p 99,v 100,undef],defers:=[] }) (fun _ _ _ _ _ h _=>h) ?assign ?body ?done ?stop
         case dep=>
          rintro pre O A B ⟨rfl,h1,h2⟩ e1 e2 e3 e4 hh
          exact ⟨rfl,(hh _ (ge_ h1).1 (.inl rfl)).trans h1,e1.trans h2.os,e2.trans h2.tape,e3.trans h2.output,Nat.le_trans h2.size e4,fun b hb ho=>(hh b (Nat.lt_of_lt_of_le hb h2.size) (.inr hb)).trans (h2.block b hb ho)⟩
         case depx=>rintro cd pre O A B h;exact h.elim
         case o0=>
          rintro b rfl
          refine ⟨by omega,fun h=>?_⟩
          rcases h with h | h | h | h | h | h
          · have:=SS.out _ h;omega
          all_goals omega
         case ot=>
          intro b h
          have hz:=B9.out.size
          rcases h with h | h | h | h | h | h
          · have:=SS.out _ h;omega
          · omega
          all_goals omega
         case assign=>
          intro l m' k S' W K hE hK
          gi_wp2_with (rw [Oper.semAt_eq _ _ _ (fun c h=>by cases h)];go_simp;try go_bits)
          exact hK _ _ (Below.refl _ _) (by rfl)
         case stop=>rintro D' cd pre O W hp h;exact h.elim
         case done=>
          rintro D' O W9 ⟨rfl,h1,h2⟩ hD' hK
          have hA11:=hid (hA9.out.mark ⟨hbz.1,hbz.2.1⟩ h2 h1 hK hD')
          have hc11:=(h2.block b8 (by omega) (by omega)).trans hc9
          gi_wp2_with fail
          refine ⟨r,by omega,n + 1,⟨by omega,hc11,hA11.out.next (Below.refl _ _) fun i hi=>?_⟩,by rfl⟩
          rw [cnM,cnM,List.range_succ,List.any_append]
          simp only [List.any_cons,List.any_nil,hv0,hst _ (Nat.mod_lt i (by omega:0 < 121)),Bool.true_and,Bool.or_false,List.not_mem_nil,decide_false]
         case body=>
          rintro l m' pre k O lo a₁ W hpx ⟨rfl,h1,h2⟩ hlo hlo2 hOlo hE rfl
          have hkb:=vf_ hxo hR121 (hpx.subset (by simp):k ∈ lvs R x n)
          obtain ⟨kk,rfl⟩:∃ kk:Nat,k = (kk:Int):=⟨k.toNat,by omega⟩
          have hk121:(kk:Int) < 121:=by omega
          have hmm1:(m:Int) + 1 < (ms.length:Int) + 1:=by omega
          have hmm0:0 ≤ (m:Int) + 1:=by omega
          have g5:=(ge_ hA9.out.c5).1
          have g6:=(ge_ hA9.out.c6).1
          have ga:=(ge_ hA9.out.ah).1
          have hwm:IntKind.i64.wrap ((m:Int) + 1) = (m:Int) + 1:=IntWalk.i64_in _ (by omega)
          have KP:=hid h2
          obtain ⟨av,hav⟩:∃ av,ahB R ss (m + 1) (ms.drop (m + 1)) (kk:Int) = av:=⟨_,rfl⟩
          have hG:ahG R ss ms ((m + 1) * 121 + kk) = av:=by
           rw [show (m + 1) * 121 + kk = 121 * (m + 1) + kk by omega,j4_ (by omega),hav,decide_eq_true hkb.2];rfl
          have wa:∀ {V:World},V.heap[ba]? = some (.cells (bl (121 * (ms.length + 1)) (ahG R ss ms)) 140 (0,0))→V.cell? ⟨ba,(m + 1) * 121 + kk,none⟩ = some (.bool av):=fun h=>by rw [← hG];exact cg_ h (za_ (by omega))
          have hSC:∀ V:World,(∀ b,b < w9.heap.size→b ≠ z + 1→V.heap[b]? = w9.heap[b]?)→V.cell? ⟨z,0,none⟩ = some (.slice (some ⟨ba,0,none⟩) (ms.length + 1) (ms.length + 1))∧V.cell? ⟨z + 1 + 1,0,none⟩ = some (.slice (some ⟨z + 1,0,none⟩) (ms.length + 1) (ms.length + 1))∧V.cell? ⟨b8,0,none⟩ = some (.int .i64 m)∧V.cell? ⟨ba,(m + 1) * 121 + kk,none⟩ = some (.bool av):=fun V hV=>
           ⟨cg_ ((hV z g5 (by omega)).trans hA9.out.c5) (k:=0) rfl,cg_ ((hV (z + 2) g6 (by omega)).trans hA9.out.c6) (k:=0) rfl,cg_ ((hV b8 (by omega) (by omega)).trans hc9) (k:=0) rfl,wa ((hV ba ga (by omega)).trans hA9.out.ah)⟩
          have SC:=hid hSC
          have H1:=hid h1
          have HAV:=hid hav
          clear hG hSC h1 h2 hpx hOlo g5 g6 ga hc9 hav
          gi_wp2_with (rw [Oper.semAt_eq _ _ _ (fun c h=>by cases h)];go_simp;try go_bits)
          have hS0:=SC.out W.drew (fun b hb hn=>KP.out.block b hb hn)
          refine q6_ (fun V:World=>V.cell? ⟨z,0,none⟩ = some (.slice (some ⟨ba,0,none⟩) (ms.length + 1) (ms.length + 1))∧V.cell? ⟨z + 1 + 1,0,none⟩ = some (.slice (some ⟨z + 1,0,none⟩) (ms.length + 1) (ms.length + 1))∧V.cell? ⟨b8,0,none⟩ = some (.int .i64 m)∧V.cell? ⟨ba,(m + 1) * 121 + kk,none⟩ = some (.bool av)) (by kernel_rfl) ?_
          refine tkZ 0 86 (.slice (some ⟨z + 1,0,none⟩) (ms.length + 1) (ms.length + 1)) rfl rfl hS0 ?_
          refine tkZ 1 87 (.int .i64 m) rfl rfl hS0 ?_
          refine tkZ 2 88 (.int .i64 ((m:Int) + 1)) rfl rfl hS0 ?_
          refine tkZ 3 89 (.int .i64 kk) rfl rfl hS0 ?_
          refine tkZ 4 90 (.slice (some ⟨ba,0,none⟩) (ms.length + 1) (ms.length + 1)) rfl rfl hS0 ?_
          refine tkZ 5 91 (.int .i64 m) rfl rfl hS0 ?_
          refine tkZ 6 92 (.int .i64 ((m:Int) + 1)) rfl rfl hS0 ?_
          refine tkZ 7 93 (.int .i64 kk) rfl rfl hS0 ?_
          refine tkZ 8 94 (.pointer (some ⟨ba,(m + 1) * 121,none⟩)) rfl rfl hS0 ?_
          refine tkZ 9 95 (.pointer (some ⟨ba,(m + 1) * 121 + kk,none⟩)) rfl rfl hS0 ?_
          refine tkZ 10 96 (.bool av) rfl rfl hS0 ?_
          refine tkZ 11 97 (.pointer (some ⟨z + 1,(m + 1) * 121,none⟩)) rfl rfl hS0 ?_
          refine tkZ 12 98 (.pointer (some ⟨z + 1,(m + 1) * 121 + kk,none⟩)) rfl rfl hS0 ?_
          obtain ⟨x1,hx1⟩:∃ x1,W.drew = x1:=⟨_,rfl⟩
          have hxb:x1.heap = W.heap:=by rw [← hx1];rfl
          have hk1:Keep (fun b=>b = z + 1) W x1:=by rw [← hx1];exact Keep.of_below (Below.refl _ W).drew
          rw [hx1] at hS0 ⊢
          refine aHO 13 rfl fun K hK=>?_
          have ho:x1.heap[z + 1]? = some (.cells (bl (121 * (ms.length + 1)) (cnM R ss ms (first - uns) (first + uns) m n pre)) 140 (0,0)):=by rw [hxb];exact H1.out
          have bo9:x1.cell? ⟨z + 1,(m + 1) * 121 + kk,none⟩ = some (.bool (cnM R ss ms (first - uns) (first + uns) m n pre ((m + 1) * 121 + kk))):=cg_ ho (za_ (by omega))
          have bf9:x1.frozen? ⟨z + 1,(m + 1) * 121 + kk,none⟩ = false:=q5_ ho
          go_simp
          rw [Oper.semAt_eq _ _ _ (fun c h=>by cases h)]
          go_simp
          refine hK _ _ ⟨SC.out _ (fun b hb hn=>(Below.heap_setCell _ _ _ _ hn).trans (by rw [hxb];exact KP.out.block b hb hn)),?_⟩
          clear hK hS0 bo9 bf9
          refine q7_ (by kernel_rfl) ?_
          go_simp
          have hsb:∀ i,i < 121 * (ms.length + 1)→cnM R ss ms (first - uns) (first + uns) m n (pre ++ [(kk:Int)]) i = if i = (m + 1) * 121 + kk then av else cnM R ss ms (first - uns) (first + uns) m n pre i:=fun i hi=>by
           by_cases e:i = (m + 1) * 121 + kk
           · have e1:i % 121 = kk:=by omega
             have e2:¬ i < 121 * (m + 1):=by omega
             have e3:121 * (m + 1) ≤ i:=by omega
             have e4:i < 121 * (m + 2):=by omega
             rw [if_pos e,cnM,e1,HAV.out]
             simp [e2,e3,e4]
           · rw [if_neg e,cnM,cnM]
             by_cases e3:121 * (m + 1) ≤ i
             · by_cases e4:i < 121 * (m + 2)
               · have e1:((i % 121:Nat):Int) ≠ (kk:Int):=by omega
                 have e5:(((i % 121:Nat):Int) ∈ pre ++ [(kk:Int)]) ↔ ((i % 121:Nat):Int) ∈ pre:=by
                  rw [List.mem_append,List.mem_singleton];exact or_iff_left e1
                 rw [decide_eq_decide.2 e5]
               · simp [e4]
             · simp [e3]
          refine ⟨_,⟨rfl,?_,KP.out.trans (hk1.trans (Keep.setCell (O:=fun b=>b = z + 1) (p:=⟨z + 1,(m + 1) * 121 + kk,none⟩) rfl))⟩,hk1.trans (Keep.setCell (O:=fun b=>b = z + 1) (p:=⟨z + 1,(m + 1) * 121 + kk,none⟩) rfl),fun b hb => .inl hb,fun b hb=>?_⟩
          · rw [qW_ hsb,← bl_set]
            simp [World.setCell,Array.getElem?_modify,ho]
          · have:=(ge_ ho).1
            rw [show b = z + 1 from hb]
            simp [World.setCell];exact this
 | succ r=>
   have hnR:(n:Int) < (R:Int) + 1:=by omega
   have hn121:(n:Int) < 121:=by omega
   have hlp:(0:Int) < (ms.length:Int) + 1:=by omega
   have hfi:=OO.out.fi
   have hun:=OO.out.un
   have wr1:IntKind.i64.wrap (first - uns) = first - uns:=IntWalk.i64_in _ (by omega)
   have wr2:IntKind.i64.wrap (first + uns) = first + uns:=IntWalk.i64_in _ (by omega)
   obtain ⟨v,hv⟩:∃ v,ahG R ss ms n = v:=⟨_,rfl⟩
   have hcn:cnG R ss ms (first - uns) (first + uns) n = (v && inI n (first - uns) (first + uns)):=by
    have h1:n / 121 = 0:=by omega
    have h2:n % 121 = n:=by omega
    have h3:=j4_ (room:=R) (S:=ss) (ms:=ms) (m:=0) (n:=n) (by omega)
    rw [Nat.mul_zero,Nat.zero_add,hv,List.drop_zero] at h3
    rw [cnG,h1,h2,cnT,← h3]
   have HCN:=hid hcn
   have hav:wr.cell? ⟨ba,n,none⟩ = some (.bool v):=by
    rw [← hv];exact cg_ hA'.out.ah (za_ (by omega))
   have HAV:∀ {W:World},W.heap[ba]? = some (.cells (bl (121 * (ms.length + 1)) (ahG R ss ms)) 140 (0,0))→W.cell? ⟨ba,n,none⟩ = some (.bool v):=fun h=>by rw [← hv];exact cg_ h (za_ (by omega))
   clear hcn hv
   have q5:=cg_ hA'.out.c5 (k:=0) (v := .slice (some ⟨ba,0,none⟩) (ms.length + 1) (ms.length + 1)) rfl
   have q6:=cg_ hA'.out.c6 (k:=0) (v := .slice (some ⟨z + 1,0,none⟩) (ms.length + 1) (ms.length + 1)) rfl
   have l0:=hA'.out.bel.size
   have l5:=(ge_ hA'.out.c5).1
   have l6:=(ge_ hA'.out.c6).1
   have la:=(ge_ hA'.out.ah).1
   have SC:=hid (fun (W:World) (h:Below wr.heap.size wr W)=>show W.cell? ⟨z,0,none⟩ = some (.slice (some ⟨ba,0,none⟩) (ms.length + 1) (ms.length + 1))∧W.cell? ⟨z + 1 + 1,0,none⟩ = some (.slice (some ⟨z + 1,0,none⟩) (ms.length + 1) (ms.length + 1))∧W.cell? ⟨ba,n,none⟩ = some (.bool v)∧W.cell? ⟨D,1,none⟩ = some (.int .i64 first)∧W.cell? ⟨D,2,none⟩ = some (.int .i64 uns) from ⟨bc_ h l5 q5,bc_ h l6 q6,bc_ h la hav,bc_ h (by omega) d1,bc_ h (by omega) d2⟩)
   clear q5 q6 hav d1 d2 d3 DW
   gi_wp2_with fail
   have BD:=hid (show Below wr.heap.size wr wr.drew from (Below.refl _ wr).drew)
   have hS0:=SC.out _ BD.out
   refine q6_ (fun W:World=>W.cell? ⟨z,0,none⟩ = some (.slice (some ⟨ba,0,none⟩) (ms.length + 1) (ms.length + 1))∧W.cell? ⟨z + 1 + 1,0,none⟩ = some (.slice (some ⟨z + 1,0,none⟩) (ms.length + 1) (ms.length + 1))∧W.cell? ⟨ba,n,none⟩ = some (.bool v)∧W.cell? ⟨D,1,none⟩ = some (.int .i64 first)∧W.cell? ⟨D,2,none⟩ = some (.int .i64 uns)) (by kernel_rfl) ?_
   refine tkZ 0 27 (.slice (some ⟨z + 1,0,none⟩) (ms.length + 1) (ms.length + 1)) rfl rfl hS0 ?_
   refine tkZ 1 28 (.int .i64 n) rfl rfl hS0 ?_
   refine tkZ 2 29 (.slice (some ⟨ba,0,none⟩) (ms.length + 1) (ms.length + 1)) rfl rfl hS0 ?_
   refine tkZ 3 30 (.int .i64 n) rfl rfl hS0 ?_
   refine tkZ 4 31 (.pointer (some ⟨ba,0,none⟩)) rfl rfl hS0 ?_
   refine tkZ 5 32 (.pointer (some ⟨ba,n,none⟩)) rfl rfl hS0 ?_
   refine tkZ 6 33 (.bool v) rfl rfl hS0 ?_
   refine tkZ 7 34 (.bool v) rfl rfl hS0 ?_
   refine tkZ 33 60 (.pointer (some ⟨z + 1,0,none⟩)) rfl rfl hS0 ?_
   cases v with
   | true=>
     refine tkZ 8 35 (.int .i64 n) rfl rfl hS0 ?_
     refine tkZ 9 36 (.pointer (some ⟨D,0,none⟩)) rfl rfl hS0 ?_
     refine tkZ 10 37 (.pointer (some ⟨D,0,none⟩)) rfl rfl hS0 ?_
     refine tkZ 11 38 (.pointer (some ⟨D,0,none⟩)) rfl rfl hS0 ?_
     refine tkZ 12 39 (.pointer (some ⟨D,1,none⟩)) rfl rfl hS0 ?_
     refine tkZ 13 40 (.int .i64 first) rfl rfl hS0 ?_
     refine tkZ 14 41 (.pointer (some ⟨D,0,none⟩)) rfl rfl hS0 ?_
     refine tkZ 15 42 (.pointer (some ⟨D,0,none⟩)) rfl rfl hS0 ?_
     refine tkZ 16 43 (.pointer (some ⟨D,0,none⟩)) rfl rfl hS0 ?_
     refine tkZ 17 44 (.pointer (some ⟨D,2,none⟩)) rfl rfl hS0 ?_
     refine tkZ 18 45 (.int .i64 uns) rfl rfl hS0 ?_
     refine tkZ 19 46 (.int .i64 (first - uns)) rfl rfl hS0 ?_
     refine tkZ 20 47 (.pointer (some ⟨D,0,none⟩)) rfl rfl hS0 ?_
     refine tkZ 21 48 (.pointer (some ⟨D,0,none⟩)) rfl rfl hS0 ?_
     refine tkZ 22 49 (.pointer (some ⟨D,0,none⟩)) rfl rfl hS0 ?_
     refine tkZ 23 50 (.pointer (some ⟨D,1,none⟩)) rfl rfl hS0 ?_
     refine tkZ 24 51 (.int .i64 first) rfl rfl hS0 ?_
     refine tkZ 25 52 (.pointer (some ⟨D,0,none⟩)) rfl rfl hS0 ?_
     refine tkZ 26 53 (.pointer (some ⟨D,0,none⟩)) rfl rfl hS0 ?_
     refine tkZ 27 54 (.pointer (some ⟨D,0,none⟩)) rfl rfl hS0 ?_
     refine tkZ 28 55 (.pointer (some ⟨D,2,none⟩)) rfl rfl hS0 ?_
     refine tkZ 29 56 (.int .i64 uns) rfl rfl hS0 ?_
     refine tkZ 30 57 (.int .i64 (first + uns)) rfl rfl hS0 ?_
     obtain ⟨x1,hx1⟩:∃ x1,wr.drew = x1:=⟨_,rfl⟩
     rw [hx1] at BD ⊢
     clear hx1 hS0
     refine aHO 31 rfl fun K hK=>?_
     go_simp
     refine ⟨trivial,(callsIn_wide.2 (ze_ n (first - uns) (first + uns) x1)).mono ?_⟩
     rintro e x2 ⟨rfl,hx2⟩
     subst hx2
     have BE:=BD
     have hS0:=SC.out _ BE.out
     refine hK _ _ ⟨hS0,?_⟩
     clear hK
     refine tkZ 32 59 (.bool (inI n (first - uns) (first + uns))) rfl rfl hS0 ?_
     refine tkZ 34 61 (.pointer (some ⟨z + 1,n,none⟩)) rfl rfl hS0 ?_
     have hA9:=hid (hA'.out.next BE.out fun _ _=>rfl)
     have o9:=hA9.out.out
     refine aHO 35 rfl fun K hK=>?_
     have bo9:x2.cell? ⟨z + 1,n,none⟩ = some (.bool ((fun i=>decide (i < n) && cnG R ss ms (first - uns) (first + uns) i) n)):=cg_ o9 (za_ (by omega))
     have bf9:x2.frozen? ⟨z + 1,n,none⟩ = false:=q5_ o9
     go_simp
     have hA10:=hid (hA9.out.put (g:=fun i=>decide (i < n + 1) && cnG R ss ms (first - uns) (first + uns) i) ⟨hbz.1,hbz.2.1⟩ n (inI n (first - uns) (first + uns)) fun i hi=>by
      by_cases e:i = n
      · rw [if_pos e,e,HCN.out];simp
      · rw [if_neg e]
        have:i < n + 1 ↔ i < n:=by omega
        rw [decide_eq_decide.2 this])
     refine hK _ _ ⟨⟨cg_ hA10.out.c5 (k:=0) rfl,cg_ hA10.out.c6 (k:=0) rfl,HAV hA10.out.ah,cg_ (q0_ DD.out hA10.out.bel) (k:=1) rfl,cg_ (q0_ DD.out hA10.out.bel) (k:=2) rfl⟩,?_⟩
     clear hK hS0 hA9 o9 bo9 bf9
     refine q7_ (by kernel_rfl) ?_
     go_simp
     gi_wp2_with fail
     exact ⟨r,by omega,n + 1,⟨by omega,hA10.out⟩,by rfl⟩
   | false=>
     obtain ⟨x2,hx2⟩:∃ x2,wr.drew = x2:=⟨_,rfl⟩
     rw [hx2] at BD hS0 ⊢
     clear hx2
     have BE:=BD
     refine tkN 8 35 rfl rfl hS0 ?_
     refine tkN 9 36 rfl rfl hS0 ?_
     refine tkN 10 37 rfl rfl hS0 ?_
     refine tkN 11 38 rfl rfl hS0 ?_
     refine tkN 12 39 rfl rfl hS0 ?_
     refine tkN 13 40 rfl rfl hS0 ?_
     refine tkN 14 41 rfl rfl hS0 ?_
     refine tkN 15 42 rfl rfl hS0 ?_
     refine tkN 16 43 rfl rfl hS0 ?_
     refine tkN 17 44 rfl rfl hS0 ?_
     refine tkN 18 45 rfl rfl hS0 ?_
     refine tkN 19 46 rfl rfl hS0 ?_
     refine tkN 20 47 rfl rfl hS0 ?_
     refine tkN 21 48 rfl rfl hS0 ?_
     refine tkN 22 49 rfl rfl hS0 ?_
     refine tkN 23 50 rfl rfl hS0 ?_
     refine tkN 24 51 rfl rfl hS0 ?_
     refine tkN 25 52 rfl rfl hS0 ?_
     refine tkN 26 53 rfl rfl hS0 ?_
     refine tkN 27 54 rfl rfl hS0 ?_
     refine tkN 28 55 rfl rfl hS0 ?_
     refine tkN 29 56 rfl rfl hS0 ?_
     refine tkN 30 57 rfl rfl hS0 ?_
     refine tkN 31 58 rfl rfl hS0 ?_
     refine tkZ 32 59 (.bool false) rfl rfl hS0 ?_
     refine tkZ 34 61 (.pointer (some ⟨z + 1,n,none⟩)) rfl rfl hS0 ?_
     have hA9:=hid (hA'.out.next BE.out fun _ _=>rfl)
     have o9:=hA9.out.out
     refine aHO 35 rfl fun K hK=>?_
     have bo9:x2.cell? ⟨z + 1,n,none⟩ = some (.bool ((fun i=>decide (i < n) && cnG R ss ms (first - uns) (first + uns) i) n)):=cg_ o9 (za_ (by omega))
     have bf9:x2.frozen? ⟨z + 1,n,none⟩ = false:=q5_ o9
     go_simp
     have hA10:=hid (hA9.out.put (g:=fun i=>decide (i < n + 1) && cnG R ss ms (first - uns) (first + uns) i) ⟨hbz.1,hbz.2.1⟩ n false fun i hi=>by
      by_cases e:i = n
      · rw [if_pos e,e,HCN.out];simp
      · rw [if_neg e]
        have:i < n + 1 ↔ i < n:=by omega
        rw [decide_eq_decide.2 this])
     refine hK _ _ ⟨⟨cg_ hA10.out.c5 (k:=0) rfl,cg_ hA10.out.c6 (k:=0) rfl,HAV hA10.out.ah,cg_ (q0_ DD.out hA10.out.bel) (k:=1) rfl,cg_ (q0_ DD.out hA10.out.bel) (k:=2) rfl⟩,?_⟩
     clear hK hS0 hA9 o9 bo9 bf9
     refine q7_ (by kernel_rfl) ?_
     go_simp
     gi_wp2_with fail
     exact ⟨r,by omega,n + 1,⟨by omega,hA10.out⟩,by rfl⟩
end Go.Proofs.LB