/- Parts of the proof of a law of layer 11 (file): LbB14. The conditions stand in each theorem. -/
import Derived.Test.YtffjknkcogmnbaaGreatDoorProg
import Derived.Test.YtffjknkcogmnbaaGreatDoorTybd
set_option linter.all false
set_option linter.unusedVariables false
set_option linter.unusedSimpArgs false
namespace Go.Proofs.LB
open Go.RowKit Go.Sort Go.Proofs.LF
set_option maxHeartbeats 4000000
set_option maxRecDepth 100000
attribute [local go_sem] q1_ q2_ q8_
theorem Tryz.info140:(Tryz.prog.info? 140).map (fun i=>(i.zero,i.size,i.bytes)) = some (some (.agg (Array.replicate 121 (.bool false))),121,121):=by kernel_rfl
theorem madeFalse (N:Nat):madeCells (Array.replicate 121 (.bool false)) (N * 121) = bl (121 * N) (fun _=>false):=by
 rw [bl_false]
 unfold madeCells
 apply Array.ext
 · simp [Nat.mul_comm]
 · intro i h1 h2
   have h3:i % 121 < 121:=by omega
   simp [h3]
theorem make136 (N:Nat) (hN:N ≤ 11) (W:World):(Instr.makeSlice 136 (.int .i64 (N:Int)) (.int .i64 (N:Int))).run Tryz.prog W = .ok (.slice (some ⟨W.heap.size,0,none⟩) N N) (W.alloc (.cells (bl (121 * N) (fun _=>false)) 140)):=by
 obtain ⟨i0,hi0,hz0,hz1,hz2⟩:=info_parts Tryz.info140
 rw [kf_ (P:=Tryz.prog) 136 140 i0 _ Tryz.underlying136 hi0 hz0 .i64 .i64 N N (nl_ _) (by rw [hz2];omega) (by omega) W,hz1,← madeFalse]
 rfl
structure AhS (w:World) (ms:List Mo) (f:Nat→Bool) (b6:Nat) (v:Int) (ds:List Deferred) (wr:World):Prop where
 b:w.heap.size + 3 ≤ b6
 c6:wr.heap[b6]? = some (.cells #[.int .i64 v] 3 (0,0))
 out:wr.heap[w.heap.size + 1]? = some (.cells (bl (121 * (ms.length + 1)) f) 140 (0,0))
 o1:wr.heap[w.heap.size]? = some (.cells #[.func (.func 151) #[] #[]] 211 (0,0))
 o3:wr.heap[w.heap.size + 2]? = some (.cells #[.slice (some ⟨w.heap.size + 1,0,none⟩) (ms.length + 1) (ms.length + 1)] 136 (0,0))
 bel:Below w.heap.size w wr
 dfs:Dfs w.heap.size ds wr
theorem AhS.next {w wr wr':World} {ms:List Mo} {f g:Nat→Bool} {b6 b7:Nat} {v v':Int} {ds:List Deferred} (h:AhS w ms f b6 v ds wr) (hb:Below wr.heap.size wr wr') (h7:w.heap.size + 3 ≤ b7) (hc:wr'.heap[b7]? = some (.cells #[.int .i64 v'] 3 (0,0))) (hf:∀ i,i < 121 * (ms.length + 1)→f i = g i):AhS w ms g b7 v' ds wr':=by
 have hz:=h.bel.size
 refine ⟨h7,hc,?_,q0_ h.o1 hb,q0_ h.o3 hb,h.bel.trans (hb.mono hz),h.dfs.below hb⟩
 rw [q0_ h.out hb]
 exact congrArg some (congrArg (fun c=>Obj.cells c 140 (0,0)) (qW_ hf))
theorem ahG_out {room:Int} {S:List Su} {ms:List Mo} {m i:Nat} (h1:¬ 121 * (m + 1) ≤ i) (h2:121 * m ≤ i) (h3:room < (i:Int) - 121 * m):ahG room S ms i = false:=by
 have:i % 121 = i - 121 * m:=by omega
 rw [ahG,this,decide_eq_false (by omega)];rfl
theorem AhS.put {w wr:World} {ms:List Mo} {f g:Nat→Bool} {b6:Nat} {v:Int} {ds:List Deferred} (h:AhS w ms f b6 v ds wr) (off:Nat) (b:Bool) (hf:∀ i,i < 121 * (ms.length + 1)→g i = if i = off then b else f i):AhS w ms g b6 v ds (wr.setCell ⟨w.heap.size + 1,off,none⟩ (.bool b)):=by
 have hb:=h.b
 have ho:∀ k,k ≠ w.heap.size + 1→(wr.setCell ⟨w.heap.size + 1,off,none⟩ (.bool b)).heap[k]? = wr.heap[k]?:=fun k hk=>Below.heap_setCell _ _ _ _ hk
 refine ⟨hb,(ho _ (by omega)).trans h.c6,?_,(ho _ (by omega)).trans h.o1,(ho _ (by omega)).trans h.o3,h.bel.setCell (p:=⟨w.heap.size + 1,off,none⟩) (by simp) _,h.dfs.kept fun d hd D hD=>ho D fun e=>?_⟩
 · rw [qW_ hf,← bl_set]
   simp [World.setCell,Array.getElem?_modify,h.out]
 · have:=(h.dfs.lt d hd D hD).2.2
   rw [e,h.out] at this;cases this
theorem xO_:∀ (args:Array Value) (W:World),(callFunc 195 args).run Tryz.prog W = .ok (.enter 195 args) W:=by intro args W;simp [go_sem]
theorem AhS.mark {w wr wr':World} {ms:List Mo} {f:Nat→Bool} {b6 b8 D:Nat} {v:Int} {ds:List Deferred} {c:Array Value} {t:TypeId} (h:AhS w ms f b6 v ds wr) (hk:Keep (fun b=>b = b8) wr wr') (h8:w.heap.size + 3 ≤ b8) (h68:b6 < b8) (hc:wr.heap[b8]? = some (.cells c t (0,0))) (hD:wr'.heap[D]? = some (.deferred (some []))) (hl:wr.heap.size ≤ D):AhS w ms f b6 v ({ target := .collected D,args:=#[] } :: ds) wr':=by
 have hz:=h.bel.size
 have ho:∀ k,k < wr.heap.size→k ≠ b8→wr'.heap[k]? = wr.heap[k]?:=fun k h1 h2=>hk.block k h1 h2
 have l6:=(ge_ h.c6).1
 have l2:=(ge_ h.out).1
 have l1:=(ge_ h.o1).1
 have l3:=(ge_ h.o3).1
 exact ⟨h.b,(ho _ l6 (by omega)).trans h.c6,(ho _ l2 (by omega)).trans h.out,(ho _ l1 (by omega)).trans h.o1,(ho _ l3 (by omega)).trans h.o3,h.bel.trans (hk.below hz fun b hb=>by omega),
  Dfs.more (w:=wr) (h.dfs.keep hk fun b hb=>by subst hb;intro x e;rw [hc] at e;cases e) hD (by omega) hl fun d hd D' hD'=>(h.dfs.lt d hd D' hD').2.1⟩
theorem ahead_ok (room first uns:Int) (ms:List Mo) (ss:List Su) (am as_:Option Addr) (cm cs_ M D B n0:Nat) (S:Nat→Prop) (w:World) (hm:LSl yn_ S w (.slice am ms.length cm) ms) (hs:LSl vQ_ S w (.slice as_ ss.length cs_) ss) (hS:∀ b,S b→b < w.heap.size) (hD:w.heap[D]? = some (.cells #[.int .i64 room, .int .i64 first, .int .i64 uns, .slice am ms.length cm, .slice as_ ss.length cs_, .map (some M)] 271 (0,0)))
 (hM:jE_ B M n0 (plc ss ss.length) w) (hO:OkBed room first uns ms ss) :
 Calls Tryz.prog 148 #[.pointer (some ⟨D,0,none⟩), .agg #[.func (.func 151) #[] #[]]] w fun e w'=>e = .returned (.slice (some ⟨w.heap.size + 1,0,none⟩) (ms.length + 1) (ms.length + 1))∧w'.heap[w.heap.size + 1]? = some (.cells (bl (121 * (ms.length + 1)) (ahG room ss ms)) 140 (0,0))∧Below w.heap.size w w':=by
 have hD3:=cg_ hD (k:=3) (v := .slice am ms.length cm) rfl
 have hDl:=(ge_ hD).1
 have hlen:=hO.len
 obtain ⟨w1,hw1⟩:∃ w1,w.alloc (.cells #[.func (.func 151) #[] #[]] 211) = w1:=⟨_,rfl⟩
 have hb1:Below w.heap.size w w1:=by rw [← hw1];exact (Below.refl _ _).alloc (nl_ _) _
 have hz1:w1.heap.size = w.heap.size + 1:=by rw [← hw1];simp
 have e3:=bc_ hb1 hDl hD3
 refine (callsIn_wide (n:=9)).1 ?_
 refine callsIn_of_wp_marks Tryz.func148 rfl trivial ?_ rfl
 simp only [Tryz.ntmps148,List.size_toArray,List.length_cons,List.length_nil,Nat.reduceAdd,Nat.reduceSub,Array.replicate_succ,Array.replicate_zero,List.push_toArray,List.append_toArray,List.nil_append,List.cons_append]
 refine kE_ ?_
 have hmk:=make136 (ms.length + 1) (by omega)
 simp only [Int.natCast_add,Int.natCast_one] at hmk
 obtain ⟨w2,hw2⟩:∃ w2,w1.alloc (.cells (bl (121 * (ms.length + 1)) fun _=>false) 140) = w2:=⟨_,rfl⟩
 have hb2:Below w1.heap.size w1 w2:=by rw [← hw2];exact (Below.refl _ _).alloc (nl_ _) _
 have hz2:w2.heap.size = w1.heap.size + 1:=by rw [← hw2];simp
 obtain ⟨w3,hw3⟩:∃ w3,w2.alloc (.cells #[.slice (some ⟨w.heap.size + 1,0,none⟩) (ms.length + 1) (ms.length + 1)] 136) = w3:=⟨_,rfl⟩
 have hb3:Below w2.heap.size w2 w3:=by rw [← hw3];exact (Below.refl _ _).alloc (nl_ _) _
 have hz3:w3.heap.size = w2.heap.size + 1:=by rw [← hw3];simp
 obtain ⟨w4,hw4⟩:∃ w4,w3.alloc (.cells #[.int .i64 ms.length] 3) = w4:=⟨_,rfl⟩
 have hb4:Below w3.heap.size w3 w4:=by rw [← hw4];exact (Below.refl _ _).alloc (nl_ _) _
 have hz4:w4.heap.size = w3.heap.size + 1:=by rw [← hw4];simp
 have o1:w1.heap[w.heap.size]? = some (.cells #[.func (.func 151) #[] #[]] 211 (0,0)):=by rw [← hw1];exact ha_ _ _
 have o2:w2.heap[w1.heap.size]? = some (.cells (bl (121 * (ms.length + 1)) fun _=>false) 140 (0,0)):=by rw [← hw2];exact ha_ _ _
 have o3:w3.heap[w2.heap.size]? = some (.cells #[.slice (some ⟨w.heap.size + 1,0,none⟩) (ms.length + 1) (ms.length + 1)] 136 (0,0)):=by rw [← hw3];exact ha_ _ _
 have o4:w4.heap[w3.heap.size]? = some (.cells #[.int .i64 ms.length] 3 (0,0)):=by rw [← hw4];exact ha_ _ _
 have O1:=hid (q0_ (q0_ (q0_ o1 hb2) hb3) hb4)
 have O2:=hid (q0_ (q0_ o2 hb3) hb4)
 have O3:=hid (q0_ o3 hb4)
 have O4:=hid o4
 have B4:=hid (hb1.trans (((hb2.trans (hb3.mono (by omega))).trans (hb4.mono (by omega))).mono (by omega)))
 have e5:w3.cell? ⟨D,3,none⟩ = some (.slice am ms.length cm):=bc_ hb3 (by omega) (bc_ hb2 (by omega) e3)
 clear o1 o2 o3 o4 hb1 hb2 hb3 hb4
 gi_wp2_with fail
 try rw [hw1]
 gi_wp2_with fail
 have HM:=hid hm
 have HS:=hid hs
 have SS:=hid hS
 have MM:=hid hM
 have DD:=hid hD
 have OO:=hid hO
 have hS0:=hid (show AhS w ms (fun i=>decide (121 * (ms.length + 1) ≤ i) && ahG room ss ms i) (w.heap.size + 3) (((ms.length + 1:Nat):Int) - 1) [] w4 by
  refine ⟨by omega,?_,?_,O1.out,?_,B4.out,trivial⟩
  · have:=O4.out
    rw [show w3.heap.size = w.heap.size + 3 by omega] at this
    rw [this];congr;omega
  · have:=O2.out
    rw [hz1] at this
    rw [this]
    refine congrArg some (congrArg (fun c=>Obj.cells c 140 (0,0)) (qW_ fun i hi=>?_))
    rw [decide_eq_false (by omega)];rfl
  · have:=O3.out
    rw [show w2.heap.size = w.heap.size + 2 by omega] at this
    exact this)
 clear hm hs hS hM hD hO hmk O1 O2 O3 O4 B4 e5 e3 hw1 hw2 hw3 hw4
 refine qw_ (fun j a wr=>∃ b6:Nat,(j ≤ ms.length + 1∧AhS w ms (fun i=>decide (121 * j ≤ i) && ahG room ss ms i) b6 ((j:Int) - 1) a.defers wr)∧a = { tmps:=#[.pointer (some ⟨D,0,none⟩), .agg #[.func (.func 151) #[] #[]],undef, .pointer (some ⟨w.heap.size,0,none⟩), .slice none 0 0, .pointer (some ⟨(w.heap.size + 1 + 1),0,none⟩), .pointer (some ⟨b6,0,none⟩),a.tmps.getD 7 undef,a.tmps.getD 8 undef,a.tmps.getD 9 undef, .pointer (some ⟨D,0,none⟩), .pointer (some ⟨D,0,none⟩), .pointer (some ⟨D,0,none⟩), .pointer (some ⟨D,3,none⟩), .slice am ms.length cm, .int .i64 ms.length, .int .i64 (ms.length + 1), .slice (some ⟨w.heap.size + 1,0,none⟩) (ms.length + 1) (ms.length + 1), .pointer (some ⟨D,0,none⟩), .pointer (some ⟨D,0,none⟩), .pointer (some ⟨D,0,none⟩), .pointer (some ⟨D,3,none⟩), .slice am ms.length cm, .int .i64 ms.length,a.tmps.getD 24 undef,a.tmps.getD 25 undef,a.tmps.getD 26 undef,a.tmps.getD 27 undef,a.tmps.getD 28 undef,a.tmps.getD 29 undef,a.tmps.getD 30 undef,a.tmps.getD 31 undef,a.tmps.getD 32 undef,a.tmps.getD 33 undef,a.tmps.getD 34 undef,a.tmps.getD 35 undef,a.tmps.getD 36 undef,a.tmps.getD 37 undef,a.tmps.getD 38 undef,a.tmps.getD 39 undef,a.tmps.getD 40 undef,a.tmps.getD 41 undef,a.tmps.getD 42 undef,a.tmps.getD 43 undef,a.tmps.getD 44 undef,a.tmps.getD 45 undef,a.tmps.getD 46 undef,a.tmps.getD 47 undef,a.tmps.getD 48 undef,a.tmps.getD 49 undef,a.tmps.getD 50 undef,a.tmps.getD 51 undef,a.tmps.getD 52 undef,a.tmps.getD 53 undef,a.tmps.getD 54 undef,a.tmps.getD 55 undef,a.tmps.getD 56 undef,a.tmps.getD 57 undef,a.tmps.getD 58 undef,a.tmps.getD 59 undef,a.tmps.getD 60 undef,a.tmps.getD 61 undef,a.tmps.getD 62 undef,a.tmps.getD 63 undef,a.tmps.getD 64 undef,a.tmps.getD 65 undef,a.tmps.getD 66 undef,a.tmps.getD 67 undef,a.tmps.getD 68 undef,a.tmps.getD 69 undef,a.tmps.getD 70 undef,a.tmps.getD 71 undef,a.tmps.getD 72 undef,a.tmps.getD 73 undef,a.tmps.getD 74 undef,a.tmps.getD 75 undef,a.tmps.getD 76 undef,undef],defers:=a.defers }) (ms.length + 1) ?_ ?_
 · exact ⟨_,⟨nl_ _,hS0.out⟩,rfl⟩
 rintro j a wr ⟨b6,⟨hj,hA⟩,ha⟩
 obtain ⟨u,hu⟩:∃ u:Nat→Value,∀ k,a.tmps.getD k undef = u k:=⟨_,fun _=>rfl⟩
 obtain ⟨ds,hds⟩:∃ ds,a.defers = ds:=⟨_,rfl⟩
 simp only [hu] at ha
 rw [hds] at ha hA
 clear hu hds
 subst ha
 clear hS0
 have hA':=hid hA
 have hb6:=hA.b
 have a6:=cg_ hA.c6 (k:=0) (v := .int .i64 ((j:Int) - 1)) rfl
 have a5:=cg_ hA.o3 (k:=0) (v := .slice (some ⟨w.heap.size + 1,0,none⟩) (ms.length + 1) (ms.length + 1)) rfl
 have DW:=hid (q0_ DD.out hA.bel)
 have d0:=cg_ DW.out (k:=0) (v := .int .i64 room) rfl
 have hrm:=OO.out.rm
 clear hA
 cases j with
 | zero=>
   gi_wp2_with fail
   refine zl_ ds _ hA'.out.dfs fun w' hs hb=>?_
   refine ⟨_,results_tmp rfl _ _ _,rfl,?_,hA'.out.bel.trans (hb.mono (nl_ _))⟩
   rw [hs.block _ (fun h e=>by rw [hA'.out.out] at e;cases e),hA'.out.out]
   refine congrArg some (congrArg (fun c=>Obj.cells c 140 (0,0)) (qW_ fun i hi=>?_))
   rw [decide_eq_true (by omega)];rfl
 | succ m=>
   have hmI:((m + 1:Nat):Int) - 1 = m:=by omega
   rw [hmI] at a6
   gi_wp2_with fail
   obtain ⟨R,rfl⟩:∃ R:Nat,room = (R:Int):=⟨room.toNat,by omega⟩
   refine qw_ (fun r a wr=>∃ n:Nat,(r + n = R + 1∧AhS w ms (fun i=>(decide (121 * (m + 1) ≤ i) || (decide (121 * m ≤ i) && decide (i < 121 * m + n))) && ahG R ss ms i) b6 m a.defers wr)∧a = { tmps:=#[.pointer (some ⟨D,0,none⟩), .agg #[.func (.func 151) #[] #[]],undef, .pointer (some ⟨w.heap.size,0,none⟩), .slice none 0 0, .pointer (some ⟨(w.heap.size + 1 + 1),0,none⟩), .pointer (some ⟨b6,0,none⟩),a.tmps.getD 7 undef,a.tmps.getD 8 undef,a.tmps.getD 9 undef, .pointer (some ⟨D,0,none⟩), .pointer (some ⟨D,0,none⟩), .pointer (some ⟨D,0,none⟩), .pointer (some ⟨D,3,none⟩), .slice am ms.length cm, .int .i64 ms.length, .int .i64 (ms.length + 1), .slice (some ⟨w.heap.size + 1,0,none⟩) (ms.length + 1) (ms.length + 1), .pointer (some ⟨D,0,none⟩), .pointer (some ⟨D,0,none⟩), .pointer (some ⟨D,0,none⟩), .pointer (some ⟨D,3,none⟩), .slice am ms.length cm, .int .i64 ms.length, .int .i64 m, .bool true,a.tmps.getD 26 undef,a.tmps.getD 27 undef, .pointer (some ⟨D,0,none⟩), .pointer (some ⟨D,0,none⟩), .pointer (some ⟨D,0,none⟩), .pointer (some ⟨D,0,none⟩), .int .i64 R, .int .i64 ((R:Int) + 1), .int .i64 n,a.tmps.getD 35 undef,a.tmps.getD 36 undef,a.tmps.getD 37 undef,a.tmps.getD 38 undef,a.tmps.getD 39 undef,a.tmps.getD 40 undef,a.tmps.getD 41 undef,a.tmps.getD 42 undef,a.tmps.getD 43 undef,a.tmps.getD 44 undef,a.tmps.getD 45 undef,a.tmps.getD 46 undef,a.tmps.getD 47 undef,a.tmps.getD 48 undef,a.tmps.getD 49 undef,a.tmps.getD 50 undef,a.tmps.getD 51 undef,a.tmps.getD 52 undef,a.tmps.getD 53 undef,a.tmps.getD 54 undef,a.tmps.getD 55 undef,a.tmps.getD 56 undef,a.tmps.getD 57 undef,a.tmps.getD 58 undef,a.tmps.getD 59 undef,a.tmps.getD 60 undef,a.tmps.getD 61 undef,a.tmps.getD 62 undef,a.tmps.getD 63 undef,a.tmps.getD 64 undef,a.tmps.getD 65 undef,a.tmps.getD 66 undef,a.tmps.getD 67 undef,a.tmps.getD 68 undef,a.tmps.getD 69 undef,a.tmps.getD 70 undef,a.tmps.getD 71 undef,a.tmps.getD 72 undef,a.tmps.getD 73 undef,a.tmps.getD 74 undef,a.tmps.getD 75 undef,a.tmps.getD 76 undef,undef],defers:=a.defers }) (R + 1) ?_ ?_
   · refine ⟨0,⟨by omega,⟨hb6,?_,?_,hA'.out.o1,hA'.out.o3,hA'.out.bel,hA'.out.dfs⟩⟩,rfl⟩
     · rw [hA'.out.c6,hmI]
     · rw [hA'.out.out]
       refine congrArg some (congrArg (fun c=>Obj.cells c 140 (0,0)) (qW_ fun i hi=>?_))
       by_cases h:121 * (m + 1) ≤ i
       · simp [h]
       · have:¬ (121 * m ≤ i∧i < 121 * m + 0):=by omega
         simp only [h,decide_false,Bool.false_or]
         by_cases h2:121 * m ≤ i
         · have h3:¬ i < 121 * m + 0:=by omega
           simp [h3]
           intro _ h4;omega
         · simp [h2]
   clear hA' a6 a5 d0 DW
   clear u ds wr
   rintro r a wr ⟨n,⟨hr,hA⟩,ha⟩
   obtain ⟨u,hu⟩:∃ u:Nat→Value,∀ k,a.tmps.getD k undef = u k:=⟨_,fun _=>rfl⟩
   obtain ⟨ds,hds⟩:∃ ds,a.defers = ds:=⟨_,rfl⟩
   simp only [hu] at ha
   rw [hds] at ha hA
   clear hu hds
   subst ha
   have hA':=hid hA
   have a6:=cg_ hA.c6 (k:=0) (v := .int .i64 (m:Int)) rfl
   have a5:=cg_ hA.o3 (k:=0) (v := .slice (some ⟨w.heap.size + 1,0,none⟩) (ms.length + 1) (ms.length + 1)) rfl
   have DW:=hid (q0_ DD.out hA.bel)
   have d0:=cg_ DW.out (k:=0) (v := .int .i64 (R:Int)) rfl
   have d3:=cg_ DW.out (k:=3) (v := .slice am ms.length cm) rfl
   clear hA
   cases r with
   | zero=>
     have hnR:(n:Int) = (R:Int) + 1:=by omega
     gi_wp2_with fail
     refine ⟨m,by omega,_,⟨by omega,hA'.out.next ((Below.refl _ _).alloc (nl_ _) _) (by have:=hA'.out.bel.size;have:=(ge_ hA'.out.c6).1;omega) (ha_ _ _) fun i hi=>?_⟩,rfl⟩
     by_cases h:121 * (m + 1) ≤ i
     · have h2:121 * m ≤ i:=by omega
       simp [h,h2]
     · by_cases h2:121 * m ≤ i
       · by_cases h3:i < 121 * m + n
         · simp [h2,h3]
         · rw [ahG_out h h2 (by omega)];simp
       · simp [h,h2]
   | succ r=>
     have hnR:(n:Int) < (R:Int) + 1:=by omega
     have hmk:(m:Int) < (ms.length:Int) + 1:=by omega
     have hn121:(n:Int) < 121:=by omega
     obtain ⟨q,hq⟩:∃ q,((m:Int) == (ms.length:Int)) = q:=⟨_,rfl⟩
     have HQ:=hid hq
     have l6:=(ge_ hA'.out.c6).1
     have lD:=(ge_ DW.out).1
     have SC:=hid (fun (W:World) (h:Below wr.heap.size wr W)=>show W.cell? ⟨b6,0,none⟩ = some (.int .i64 m)∧W.cell? ⟨D,3,none⟩ = some (.slice am ms.length cm) from ⟨bc_ h l6 a6,bc_ h lD d3⟩)
     gi_wp2_with fail
     have hS0:=SC.out _ (Below.refl _ wr).drew
     refine q6_ (fun W:World=>W.cell? ⟨b6,0,none⟩ = some (.int .i64 m)∧W.cell? ⟨D,3,none⟩ = some (.slice am ms.length cm)) (by kernel_rfl) ?_
     refine tkZ 0 37 (.int .i64 m) rfl rfl hS0 ?_
     refine tkZ 1 38 (.pointer (some ⟨D,0,none⟩)) rfl rfl hS0 ?_
     refine tkZ 2 39 (.pointer (some ⟨D,0,none⟩)) rfl rfl hS0 ?_
     refine tkZ 3 40 (.pointer (some ⟨D,0,none⟩)) rfl rfl hS0 ?_
     refine tkZ 4 41 (.pointer (some ⟨D,3,none⟩)) rfl rfl hS0 ?_
     refine tkZ 5 42 (.slice am ms.length cm) rfl rfl hS0 ?_
     refine tkZ 6 43 (.int .i64 ms.length) rfl rfl hS0 ?_
     refine tkY 7 44 (.bool q) rfl rfl hS0 (fun w' hs=>?_) ?_
     · rw [← HQ.out]
       go_simp
     refine aHO 8 rfl fun K hK=>?_
     go_simp
     refine hK _ _ ⟨SC.out _ ((Below.refl _ wr).alloc (nl_ _) _).drew,?_⟩
     clear hK
     refine aHO 9 rfl fun K hK=>?_
     go_simp
     refine hK _ _ ⟨SC.out _ ((Below.refl _ wr).alloc (nl_ _) _).drew,?_⟩
     clear hK
     refine q7_ (by kernel_rfl) ?_
     go_simp
     obtain ⟨w8,hw8⟩:∃ w8,(wr.alloc (.cells #[.bool q] 4)).drew = w8:=⟨_,rfl⟩
     have hb8:Below wr.heap.size wr w8:=by rw [← hw8];exact ((Below.refl _ wr).alloc (nl_ _) _).drew
     have hc8:w8.heap[wr.heap.size]? = some (.cells #[.bool q] 4 (0,0)):=by rw [← hw8];exact ha_ _ _
     have hA8:=hid (hA'.out.next (v':=m) hb8 hb6 (q0_ hA'.out.c6 hb8) fun _ _=>rfl)
     have hz8:=hb8.size
     have hl8:=(ge_ hc8).1
     obtain ⟨b8,he8⟩:∃ b,wr.heap.size = b:=⟨_,rfl⟩
     have hbz8:w.heap.size + 3 ≤ b8∧b6 < b8:=by have:=hA'.out.bel.size;have:=(ge_ hA'.out.c6).1;have:=(ge_ hA'.out.o3).1;omega
     rw [hw8]
     rw [he8] at hc8 hl8 hz8 ⊢
     have c8:=cg_ hc8 (k:=0) (v := .bool q) rfl
     clear hw8 hS0 SC d0 d3 a6 a5 l6 lD DW
     have HB8:=hid hb8
     clear hb8
     cases q with
     | true=>
       have hml:m = ms.length:=by have:=beq_iff_eq.1 hq;omega
       have HV:=hid (show ahG R ss ms (121 * m + n) = agr ss m n by
        rw [j4_ (by omega),decide_eq_true (by omega),hml,List.drop_length,ahB];rfl)
       clear hml hq
       gi_wp2_with fail
       have SD:=hid (fun (W:World) (h:Below w8.heap.size w8 W)=>show W.cell? ⟨w.heap.size + 2,0,none⟩ = some (.slice (some ⟨w.heap.size + 1,0,none⟩) (ms.length + 1) (ms.length + 1))∧W.cell? ⟨b6,0,none⟩ = some (.int .i64 m)∧W.cell? ⟨b8,0,none⟩ = some (.bool true)∧W.cell? ⟨w.heap.size,0,none⟩ = some (.func (.func 151) #[] #[]) from ⟨cg_ (q0_ hA8.out.o3 h) (k:=0) rfl,cg_ (q0_ hA8.out.c6 h) (k:=0) rfl,cg_ (q0_ hc8 h) (k:=0) rfl,cg_ (q0_ hA8.out.o1 h) (k:=0) rfl⟩)
       have BD:=hid (show Below w8.heap.size w8 w8.drew from (Below.refl _ w8).drew)
       have hS0:=SD.out _ BD.out
       refine q6_ (fun W:World=>W.cell? ⟨w.heap.size + 2,0,none⟩ = some (.slice (some ⟨w.heap.size + 1,0,none⟩) (ms.length + 1) (ms.length + 1))∧W.cell? ⟨b6,0,none⟩ = some (.int .i64 m)∧W.cell? ⟨b8,0,none⟩ = some (.bool true)∧W.cell? ⟨w.heap.size,0,none⟩ = some (.func (.func 151) #[] #[])) (by kernel_rfl) ?_
       refine tkZ 0 62 (.slice (some ⟨w.heap.size + 1,0,none⟩) (ms.length + 1) (ms.length + 1)) rfl rfl hS0 ?_
       refine tkZ 1 63 (.int .i64 m) rfl rfl hS0 ?_
       refine tkZ 2 64 (.int .i64 n) rfl rfl hS0 ?_
       refine tkZ 3 65 (.bool true) rfl rfl hS0 ?_
       refine tkZ 4 66 (.bool true) rfl rfl hS0 ?_
       refine tkZ 11 73 (.pointer (some ⟨w.heap.size + 1,m * 121,none⟩)) rfl rfl hS0 ?_
       refine tkZ 5 67 (.pointer (some ⟨D,0,none⟩)) rfl rfl hS0 ?_
       refine tkZ 6 68 (.agg #[.func (.func 151) #[] #[]]) rfl rfl hS0 ?_
       refine tkZ 7 69 (.int .i64 m) rfl rfl hS0 ?_
       refine tkZ 8 70 (.int .i64 n) rfl rfl hS0 ?_
       obtain ⟨x1,hx1⟩:∃ x1,w8.drew = x1:=⟨_,rfl⟩
       rw [hx1] at BD ⊢
       clear hx1 hS0
       have HBX:=hid (show Below w.heap.size w x1 from hA8.out.bel.trans (BD.out.mono hA8.out.bel.size))
       refine aHO 9 rfl fun K hK=>?_
       go_simp
       refine ⟨trivial,(callsIn_wide.2 (xV_ (R:Int) first uns ms ss am as_ cm cs_ M D B n0 S m n x1 (HS.out.agree (qc_ HBX.out SS.out)) (fun b hb=>by have:=SS.out b hb;have:=HBX.out.size;omega) (q0_ DD.out HBX.out) (MM.out.below HBX.out) (by omega) (by have:=OO.out.many;omega))).mono ?_⟩
       rintro e x2 ⟨rfl,hbx⟩
       have BE:=hid (BD.out.trans (hbx.mono BD.out.size))
       refine hK _ _ ⟨SD.out _ BE.out,?_⟩
       clear hK hbx HBX
       have hS0:=SD.out _ BE.out
       refine tkZ 10 72 (.bool (agr ss m n)) rfl rfl hS0 ?_
       refine tkZ 12 74 (.pointer (some ⟨w.heap.size + 1,m * 121 + n,none⟩)) rfl rfl hS0 ?_
       have hA9:=hid (hA8.out.next (v':=m) BE.out hb6 (q0_ hA8.out.c6 BE.out) fun _ _=>rfl)
       have o9:=hA9.out.out
       have lo9:=(ge_ o9).1
       refine aHO 13 rfl fun K hK=>?_
       have bo9:x2.cell? ⟨w.heap.size + 1,m * 121 + n,none⟩ = some (.bool ((fun i=>(decide (121 * (m + 1) ≤ i) || (decide (121 * m ≤ i) && decide (i < 121 * m + n))) && ahG R ss ms i) (m * 121 + n))):=by
        refine cg_ o9 ?_
        exact za_ (by omega)
       have bf9:x2.frozen? ⟨w.heap.size + 1,m * 121 + n,none⟩ = false:=q5_ o9
       go_simp
       have hA10:=hid (hA9.out.put (g:=fun i=>(decide (121 * (m + 1) ≤ i) || (decide (121 * m ≤ i) && decide (i < 121 * m + (n + 1)))) && ahG R ss ms i) (m * 121 + n) (agr ss m n) fun i hi=>by
        have hv:=HV.out
        rw [show 121 * m + n = m * 121 + n by omega] at hv
        by_cases e:i = m * 121 + n
        · rw [if_pos e,e,hv]
          have h1:¬ 121 * (m + 1) ≤ m * 121 + n:=by omega
          have h2:121 * m ≤ m * 121 + n:=by omega
          have h3:m * 121 + n < 121 * m + (n + 1):=by omega
          simp [h1,h2,h3]
        · rw [if_neg e]
          have:(121 * m ≤ i∧i < 121 * m + (n + 1)) ↔ (121 * m ≤ i∧i < 121 * m + n):=by omega
          rw [← Bool.decide_and,← Bool.decide_and,decide_eq_decide.2 this])
       refine hK _ _ ⟨⟨cg_ hA10.out.o3 (k:=0) rfl,cg_ hA10.out.c6 (k:=0) rfl,(cg_ ((Below.heap_setCell _ _ _ _ (by simp;omega)).trans (q0_ hc8 BE.out)) (k:=0) rfl),cg_ hA10.out.o1 (k:=0) rfl⟩,?_⟩
       clear hK hS0 hA9 o9 lo9 bo9 bf9
       refine q7_ (by kernel_rfl) ?_
       go_simp
       gi_wp2_with fail
       exact ⟨r,by omega,n + 1,⟨by omega,hA10.out⟩,by rfl⟩
     | false=>
       have hml:m < ms.length:=by have:=(beq_eq_false_iff_ne.1 hq);omega
       obtain ⟨x,hx⟩:∃ x,ms[m]? = some x:=⟨ms[m],List.getElem?_eq_getElem hml⟩
       have hdrop:ms.drop m = x :: ms.drop (m + 1):=by
        rw [List.drop_eq_getElem_cons hml];rw [List.getElem?_eq_getElem hml] at hx;cases hx;rfl
       have hxo:OkMo R x:=OO.out.mo x (List.mem_of_getElem? hx)
       clear hq
       have B8:=hid (hA8.out.bel)
       have LV:=hid (vK_ (R:Int) first uns ms ss.length am as_ cm cs_ M D S m x n w8 (HM.out.agree (qc_ B8.out SS.out)) (fun b hb=>by have:=SS.out b hb;have:=B8.out.size;omega) hx (q0_ DD.out B8.out))
       have a6:=cg_ hA8.out.c6 (k:=0) (v := .int .i64 m) rfl
       gi_wp2_with fail
       refine ⟨trivial,?_⟩
       gi_at_call 150
       refine (callsIn_wide.2 LV.out).mono ?_
       rintro e w9 ⟨rfl,hLR,hz9,hb9⟩
       gi_wp2_with fail
       have hz8':=hz8
       have hA9:=hid (hA8.out.next (v':=m) hb9 hb6 (q0_ hA8.out.c6 hb9) fun _ _=>rfl)
       have hc9:=q0_ hc8 hb9
       have B9:=hid (hA9.out.bel)
       have hR121:0 ≤ (R:Int)∧(R:Int) ≤ 120:=by omega
       have SEQ:=vS_ (R:Int) first uns ms ss.length am as_ cm cs_ M D w8.heap.size (w8.heap.size + 1) (w8.heap.size + 2) (w8.heap.size + 3) S m x n w9 hLR (HM.out.agree (qc_ B9.out SS.out)) (fun b hb=>by have:=SS.out b hb;have:=B9.out.size;omega) hx hxo hR121 (by omega)
       obtain ⟨fB,hfB⟩:∃ fB:Int→Bool,ahB (R:Int) ss (m + 1) (ms.drop (m + 1)) = fB:=⟨_,rfl⟩
       have HF:=hid hfB
       have HVN:=hid (show ahG R ss ms (121 * m + n) = ((lvs R x n).any fB && agr ss m n) by
        rw [j4_ (by omega),decide_eq_true (by omega),hdrop,ahB,hfB];rfl)
       clear hfB LV hLR hdrop
       have DL:=hid hDl
       refine zq_ (n:=9) (gf:=195) (lb:=#[.pointer (some ⟨w8.heap.size,0,none⟩), .pointer (some ⟨(w8.heap.size + 1),0,none⟩), .pointer (some ⟨(w8.heap.size + 2),0,none⟩), .pointer (some ⟨(w8.heap.size + 3),0,none⟩)]) rfl xO_ SEQ (fun h _=>h) (fun h _=>h) (fun _=>rfl)
        (fun pre O W=>O = (fun b=>b = b8)∧W.heap[b8]? = some (.cells #[.bool (pre.any fB)] 4 (0,0))∧Keep (fun b=>b = b8) w9 W)
        (fun _ _ _ _=>False) ?dep ?depx (fun b=>b = b8) ?o0 ?ot ⟨rfl,hc9,Keep.refl _ _⟩
        (fun k _ a₁ _=>a₁ = { tmps:=#[.pointer (some ⟨D,0,none⟩), .agg #[.func (.func 151) #[] #[]],undef, .pointer (some ⟨w.heap.size,0,none⟩), .slice none 0 0, .pointer (some ⟨(w.heap.size + 1 + 1),0,none⟩), .pointer (some ⟨b6,0,none⟩), .int .i64 n, .pointer (some ⟨b8,0,none⟩), .int .i64 k, .pointer (some ⟨D,0,none⟩), .pointer (some ⟨D,0,none⟩), .pointer (some ⟨D,0,none⟩), .pointer (some ⟨D,3,none⟩), .slice am ms.length cm, .int .i64 ms.length, .int .i64 (ms.length + 1), .slice (some ⟨w.heap.size + 1,0,none⟩) (ms.length + 1) (ms.length + 1), .pointer (some ⟨D,0,none⟩), .pointer (some ⟨D,0,none⟩), .pointer (some ⟨D,0,none⟩), .pointer (some ⟨D,3,none⟩), .slice am ms.length cm, .int .i64 ms.length, .int .i64 m, .bool true,u 26,u 27, .pointer (some ⟨D,0,none⟩), .pointer (some ⟨D,0,none⟩), .pointer (some ⟨D,0,none⟩), .pointer (some ⟨D,0,none⟩), .int .i64 R, .int .i64 ((R:Int) + 1), .int .i64 n, .bool true, .int .i64 n, .int .i64 m, .pointer (some ⟨D,0,none⟩), .pointer (some ⟨D,0,none⟩), .pointer (some ⟨D,0,none⟩), .pointer (some ⟨D,3,none⟩), .slice am ms.length cm, .int .i64 ms.length, .bool false, .bool false, .bool true, .pointer (some ⟨D,0,none⟩), .int .i64 m, .int .i64 n, .func (.func 195) #[] #[.pointer (some ⟨w8.heap.size,0,none⟩), .pointer (some ⟨(w8.heap.size + 1),0,none⟩), .pointer (some ⟨(w8.heap.size + 2),0,none⟩), .pointer (some ⟨(w8.heap.size + 3),0,none⟩)], .int .i64 k,u 52,u 53,u 54,u 55,u 56,u 57,u 58,u 59,u 60,u 61,u 62,u 63,u 64,u 65,u 66,u 67,u 68,u 69,u 70,u 71,u 72,u 73,u 74,u 75,u 76,undef],defers:=[] }) (fun _ _ _ _ _ h _=>h) ?assign ?body ?done ?stop
       case dep=>
        rintro pre O A B ⟨rfl,h1,h2⟩ e1 e2 e3 e4 hh
        exact ⟨rfl,(hh _ (ge_ h1).1 (.inl rfl)).trans h1,e1.trans h2.os,e2.trans h2.tape,e3.trans h2.output,Nat.le_trans h2.size e4,fun b hb ho=>(hh b (Nat.lt_of_lt_of_le hb h2.size) (.inr hb)).trans (h2.block b hb ho)⟩
       case depx=>rintro cd pre O A B h;exact h.elim
       case o0=>
        rintro b rfl
        refine ⟨by omega,fun h=>?_⟩
        rcases h with h | h | h | h | h | h
        · have:=SS.out _ h;omega
        all_goals omega
       case ot=>
        intro b h
        have hz:=B9.out.size
        rcases h with h | h | h | h | h | h
        · have:=SS.out _ h;omega
        · omega
        all_goals omega
       case assign=>
        intro l m' k S' W K hE hK
        gi_wp2_with (rw [Oper.semAt_eq _ _ _ (fun c h=>by cases h)];go_simp;try go_bits)
        exact hK _ _ (Below.refl _ _) (by rfl)
       case body=>
        rintro l m' pre k O lo a₁ W hpx ⟨rfl,h1,h2⟩ hlo hlo2 hOlo hE rfl
        have hkb:=vf_ hxo hR121 (hpx.subset (by simp):k ∈ lvs R x n)
        obtain ⟨kk,rfl⟩:∃ kk:Nat,k = (kk:Int):=⟨k.toNat,by omega⟩
        have hk121:(kk:Int) < 121:=by omega
        have hmm1:(m:Int) + 1 < (ms.length:Int) + 1:=by omega
        have hmm0:0 ≤ (m:Int) + 1:=by omega
        have g6:=(ge_ hA9.out.c6).1
        have g2:=(ge_ hA9.out.out).1
        have g3:=(ge_ hA9.out.o3).1
        have w6:=cg_ ((h2.block b6 g6 (by omega)).trans hA9.out.c6) (k:=0) (v := .int .i64 m) rfl
        have w5:=cg_ ((h2.block _ g3 (by omega)).trans hA9.out.o3) (k:=0) (v := .slice (some ⟨w.heap.size + 1,0,none⟩) (ms.length + 1) (ms.length + 1)) rfl
        have wo:W.cell? ⟨w.heap.size + 1,(m + 1) * 121 + kk,none⟩ = some (.bool (fB kk)):=by
         refine cg_ ((h2.block _ g2 (by omega)).trans hA9.out.out) ?_
         rw [za_ (by omega),show (m + 1) * 121 + kk = 121 * (m + 1) + kk by omega,j4_ (by omega),HF.out]
         simp [hkb.2]
        have hz:=h2.size
        have W1:=hid h1
        have W2:=hid h2
        obtain ⟨c,hc⟩:∃ c,pre.any fB = c:=⟨_,rfl⟩
        rw [hc] at h1
        have hany:(pre ++ [(kk:Int)]).any fB = (c || fB kk):=by rw [List.any_append,hc];simp
        have HANY:=hid hany
        clear hany hc
        have w8c:=cg_ h1 (k:=0) (v := .bool c) rfl
        have w8f:=q5_ h1 (k:=0)
        have H1:=hid h1
        clear h1 h2 hpx hOlo
        cases c with
        | true=>
          gi_wp2_with (rw [Oper.semAt_eq _ _ _ (fun c h=>by cases h)];go_simp;try go_bits)
          refine ⟨_,⟨rfl,?_,W2.out.trans (Keep.setCell (O:=fun b=>b = b8) (p:=⟨b8,0,none⟩) rfl)⟩,Keep.setCell (O:=fun b=>b = b8) (p:=⟨b8,0,none⟩) rfl,fun b hb => .inl hb,fun b hb=>?_⟩
          · rw [HANY.out]
            exact v3_ (u := .bool true) H1.out
          · have:=(ge_ H1.out).1
            rw [show b = b8 from hb]
            simp [World.setCell];exact this
        | false=>
          gi_wp2_with (rw [Oper.semAt_eq _ _ _ (fun c h=>by cases h)];go_simp;try go_bits)
          refine ⟨_,⟨rfl,?_,W2.out.trans (Keep.setCell (O:=fun b=>b = b8) (p:=⟨b8,0,none⟩) rfl)⟩,Keep.setCell (O:=fun b=>b = b8) (p:=⟨b8,0,none⟩) rfl,fun b hb => .inl hb,fun b hb=>?_⟩
          · rw [HANY.out,Bool.false_or]
            exact v3_ (u := .bool (fB kk)) H1.out
          · have:=(ge_ H1.out).1
            rw [show b = b8 from hb]
            simp [World.setCell];exact this
       case stop=>rintro D' cd pre O W hp h;exact h.elim
       case done=>
        rintro D' O W9 ⟨rfl,h1,h2⟩ hD' hK
        have hA11:=hid (hA9.out.mark h2 (by omega) (by omega) hc9 hK hD')
        obtain ⟨v,hv⟩:∃ v,(lvs R x n).any fB = v:=⟨_,rfl⟩
        rw [hv] at h1
        have HVV:=HVN.out
        rw [hv] at HVV
        have HVV:=hid HVV
        clear hv hK HVN SEQ hx
        have w5:=cg_ hA11.out.o3 (k:=0) (v := .slice (some ⟨w.heap.size + 1,0,none⟩) (ms.length + 1) (ms.length + 1)) rfl
        cases v with
        | true=>
          have HV:=hid (show ahG R ss ms (121 * m + n) = agr ss m n by rw [HVV.out];rfl)
          gi_wp2_with fail
          have SD:=hid (fun (W:World) (h:Below W9.heap.size W9 W)=>show W.cell? ⟨w.heap.size + 2,0,none⟩ = some (.slice (some ⟨w.heap.size + 1,0,none⟩) (ms.length + 1) (ms.length + 1))∧W.cell? ⟨b6,0,none⟩ = some (.int .i64 m)∧W.cell? ⟨b8,0,none⟩ = some (.bool true)∧W.cell? ⟨w.heap.size,0,none⟩ = some (.func (.func 151) #[] #[]) from ⟨cg_ (q0_ hA11.out.o3 h) (k:=0) rfl,cg_ (q0_ hA11.out.c6 h) (k:=0) rfl,cg_ (q0_ h1 h) (k:=0) rfl,cg_ (q0_ hA11.out.o1 h) (k:=0) rfl⟩)
          have BD:=hid (show Below W9.heap.size W9 W9.drew from (Below.refl _ W9).drew)
          have hS0:=SD.out _ BD.out
          refine q6_ (fun W:World=>W.cell? ⟨w.heap.size + 2,0,none⟩ = some (.slice (some ⟨w.heap.size + 1,0,none⟩) (ms.length + 1) (ms.length + 1))∧W.cell? ⟨b6,0,none⟩ = some (.int .i64 m)∧W.cell? ⟨b8,0,none⟩ = some (.bool true)∧W.cell? ⟨w.heap.size,0,none⟩ = some (.func (.func 151) #[] #[])) (by kernel_rfl) ?_
          refine tkZ 0 62 (.slice (some ⟨w.heap.size + 1,0,none⟩) (ms.length + 1) (ms.length + 1)) rfl rfl hS0 ?_
          refine tkZ 1 63 (.int .i64 m) rfl rfl hS0 ?_
          refine tkZ 2 64 (.int .i64 n) rfl rfl hS0 ?_
          refine tkZ 3 65 (.bool true) rfl rfl hS0 ?_
          refine tkZ 4 66 (.bool true) rfl rfl hS0 ?_
          refine tkZ 11 73 (.pointer (some ⟨w.heap.size + 1,m * 121,none⟩)) rfl rfl hS0 ?_
          refine tkZ 5 67 (.pointer (some ⟨D,0,none⟩)) rfl rfl hS0 ?_
          refine tkZ 6 68 (.agg #[.func (.func 151) #[] #[]]) rfl rfl hS0 ?_
          refine tkZ 7 69 (.int .i64 m) rfl rfl hS0 ?_
          refine tkZ 8 70 (.int .i64 n) rfl rfl hS0 ?_
          obtain ⟨x1,hx1⟩:∃ x1,W9.drew = x1:=⟨_,rfl⟩
          rw [hx1] at BD ⊢
          clear hx1 hS0
          have HBX:=hid (show Below w.heap.size w x1 from hA11.out.bel.trans (BD.out.mono hA11.out.bel.size))
          refine aHO 9 rfl fun K hK=>?_
          go_simp
          refine ⟨trivial,(callsIn_wide.2 (xV_ (R:Int) first uns ms ss am as_ cm cs_ M D B n0 S m n x1 (HS.out.agree (qc_ HBX.out SS.out)) (fun b hb=>by have:=SS.out b hb;have:=HBX.out.size;omega) (q0_ DD.out HBX.out) (MM.out.below HBX.out) (by omega) (by have:=OO.out.many;omega))).mono ?_⟩
          rintro e x2 ⟨rfl,hbx⟩
          have BE:=hid (BD.out.trans (hbx.mono BD.out.size))
          refine hK _ _ ⟨SD.out _ BE.out,?_⟩
          clear hK hbx HBX
          have hS0:=SD.out _ BE.out
          refine tkZ 10 72 (.bool (agr ss m n)) rfl rfl hS0 ?_
          refine tkZ 12 74 (.pointer (some ⟨w.heap.size + 1,m * 121 + n,none⟩)) rfl rfl hS0 ?_
          have hA9:=hid (hA11.out.next (v':=m) BE.out hb6 (q0_ hA11.out.c6 BE.out) fun _ _=>rfl)
          have o9:=hA9.out.out
          have lo9:=(ge_ o9).1
          refine aHO 13 rfl fun K hK=>?_
          have bo9:x2.cell? ⟨w.heap.size + 1,m * 121 + n,none⟩ = some (.bool ((fun i=>(decide (121 * (m + 1) ≤ i) || (decide (121 * m ≤ i) && decide (i < 121 * m + n))) && ahG R ss ms i) (m * 121 + n))):=by
           refine cg_ o9 ?_
           exact za_ (by omega)
          have bf9:x2.frozen? ⟨w.heap.size + 1,m * 121 + n,none⟩ = false:=q5_ o9
          go_simp
          have hA10:=hid (hA9.out.put (g:=fun i=>(decide (121 * (m + 1) ≤ i) || (decide (121 * m ≤ i) && decide (i < 121 * m + (n + 1)))) && ahG R ss ms i) (m * 121 + n) (agr ss m n) fun i hi=>by
           have hv:=HV.out
           rw [show 121 * m + n = m * 121 + n by omega] at hv
           by_cases e:i = m * 121 + n
           · rw [if_pos e,e,hv]
             have h1:¬ 121 * (m + 1) ≤ m * 121 + n:=by omega
             have h2:121 * m ≤ m * 121 + n:=by omega
             have h3:m * 121 + n < 121 * m + (n + 1):=by omega
             simp [h1,h2,h3]
           · rw [if_neg e]
             have:(121 * m ≤ i∧i < 121 * m + (n + 1)) ↔ (121 * m ≤ i∧i < 121 * m + n):=by omega
             rw [← Bool.decide_and,← Bool.decide_and,decide_eq_decide.2 this])
          refine hK _ _ ⟨⟨cg_ hA10.out.o3 (k:=0) rfl,cg_ hA10.out.c6 (k:=0) rfl,(cg_ ((Below.heap_setCell _ _ _ _ (by simp;omega)).trans (q0_ h1 BE.out)) (k:=0) rfl),cg_ hA10.out.o1 (k:=0) rfl⟩,?_⟩
          clear hK hS0 hA9 o9 lo9 bo9 bf9
          refine q7_ (by kernel_rfl) ?_
          go_simp
          gi_wp2_with fail
          exact ⟨r,by omega,n + 1,⟨by omega,hA10.out⟩,by rfl⟩
        | false=>
          have HV:=hid (show ahG R ss ms (121 * m + n) = false by rw [HVV.out];rfl)
          gi_wp2_with fail
          have SD:=hid (fun (W:World) (h:Below W9.heap.size W9 W)=>show W.cell? ⟨w.heap.size + 2,0,none⟩ = some (.slice (some ⟨w.heap.size + 1,0,none⟩) (ms.length + 1) (ms.length + 1))∧W.cell? ⟨b6,0,none⟩ = some (.int .i64 m)∧W.cell? ⟨b8,0,none⟩ = some (.bool false)∧W.cell? ⟨w.heap.size,0,none⟩ = some (.func (.func 151) #[] #[]) from ⟨cg_ (q0_ hA11.out.o3 h) (k:=0) rfl,cg_ (q0_ hA11.out.c6 h) (k:=0) rfl,cg_ (q0_ h1 h) (k:=0) rfl,cg_ (q0_ hA11.out.o1 h) (k:=0) rfl⟩)
          have BD:=hid (show Below W9.heap.size W9 W9.drew from (Below.refl _ W9).drew)
          have hS0:=SD.out _ BD.out
          refine q6_ (fun W:World=>W.cell? ⟨w.heap.size + 2,0,none⟩ = some (.slice (some ⟨w.heap.size + 1,0,none⟩) (ms.length + 1) (ms.length + 1))∧W.cell? ⟨b6,0,none⟩ = some (.int .i64 m)∧W.cell? ⟨b8,0,none⟩ = some (.bool false)∧W.cell? ⟨w.heap.size,0,none⟩ = some (.func (.func 151) #[] #[])) (by kernel_rfl) ?_
          refine tkZ 0 62 (.slice (some ⟨w.heap.size + 1,0,none⟩) (ms.length + 1) (ms.length + 1)) rfl rfl hS0 ?_
          refine tkZ 1 63 (.int .i64 m) rfl rfl hS0 ?_
          refine tkZ 2 64 (.int .i64 n) rfl rfl hS0 ?_
          refine tkZ 3 65 (.bool false) rfl rfl hS0 ?_
          refine tkZ 4 66 (.bool false) rfl rfl hS0 ?_
          refine tkZ 11 73 (.pointer (some ⟨w.heap.size + 1,m * 121,none⟩)) rfl rfl hS0 ?_
          obtain ⟨x2,hx2⟩:∃ x2,W9.drew = x2:=⟨_,rfl⟩
          rw [hx2] at BD hS0 ⊢
          clear hx2
          have BE:=BD
          refine tkN 5 67 rfl rfl hS0 ?_
          refine tkN 6 68 rfl rfl hS0 ?_
          refine tkN 7 69 rfl rfl hS0 ?_
          refine tkN 8 70 rfl rfl hS0 ?_
          refine tkN 9 71 rfl rfl hS0 ?_
          refine tkZ 10 72 (.bool false) rfl rfl hS0 ?_
          refine tkZ 12 74 (.pointer (some ⟨w.heap.size + 1,m * 121 + n,none⟩)) rfl rfl hS0 ?_
          have hA9:=hid (hA11.out.next (v':=m) BE.out hb6 (q0_ hA11.out.c6 BE.out) fun _ _=>rfl)
          have o9:=hA9.out.out
          have lo9:=(ge_ o9).1
          refine aHO 13 rfl fun K hK=>?_
          have bo9:x2.cell? ⟨w.heap.size + 1,m * 121 + n,none⟩ = some (.bool ((fun i=>(decide (121 * (m + 1) ≤ i) || (decide (121 * m ≤ i) && decide (i < 121 * m + n))) && ahG R ss ms i) (m * 121 + n))):=by
           refine cg_ o9 ?_
           exact za_ (by omega)
          have bf9:x2.frozen? ⟨w.heap.size + 1,m * 121 + n,none⟩ = false:=q5_ o9
          go_simp
          have hA10:=hid (hA9.out.put (g:=fun i=>(decide (121 * (m + 1) ≤ i) || (decide (121 * m ≤ i) && decide (i < 121 * m + (n + 1)))) && ahG R ss ms i) (m * 121 + n) false fun i hi=>by
           have hv:=HV.out
           rw [show 121 * m + n = m * 121 + n by omega] at hv
           by_cases e:i = m * 121 + n
           · rw [if_pos e,e,hv]
             have h1:¬ 121 * (m + 1) ≤ m * 121 + n:=by omega
             have h2:121 * m ≤ m * 121 + n:=by omega
             have h3:m * 121 + n < 121 * m + (n + 1):=by omega
             simp [h1,h2,h3]
           · rw [if_neg e]
             have:(121 * m ≤ i∧i < 121 * m + (n + 1)) ↔ (121 * m ≤ i∧i < 121 * m + n):=by omega
             rw [← Bool.decide_and,← Bool.decide_and,decide_eq_decide.2 this])
          refine hK _ _ ⟨⟨cg_ hA10.out.o3 (k:=0) rfl,cg_ hA10.out.c6 (k:=0) rfl,(cg_ ((Below.heap_setCell _ _ _ _ (by simp;omega)).trans (q0_ h1 BE.out)) (k:=0) rfl),cg_ hA10.out.o1 (k:=0) rfl⟩,?_⟩
          clear hK hS0 hA9 o9 lo9 bo9 bf9
          refine q7_ (by kernel_rfl) ?_
          go_simp
          gi_wp2_with fail
          exact ⟨r,by omega,n + 1,⟨by omega,hA10.out⟩,by rfl⟩
end Go.Proofs.LB