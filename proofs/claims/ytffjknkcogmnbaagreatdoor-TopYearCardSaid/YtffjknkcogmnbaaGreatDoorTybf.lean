/- Parts of the proof of a law of layer 11 (file): LbS7, LbS8a. The conditions stand in each theorem. -/
import Derived.Test.YtffjknkcogmnbaaGreatDoorProg
import Derived.Test.YtffjknkcogmnbaaGreatDoorTybd
set_option linter.all false
set_option linter.unusedVariables false
set_option linter.unusedSimpArgs false
namespace Go.Proofs.LS
open Go.RowKit Go.Sort Go.Proofs.LF Go.Proofs.LB
set_option maxHeartbeats 4000000
set_option maxRecDepth 100000
attribute [local go_sem] q1_ q2_ q8_
theorem ret169 {f:Func} {r:Nat} (hr:f.results = #[.cell r 169]) {tmps:Array Value} {W:World} {b:Nat} {x:Value} (h:W.heap[b]? = some (.cells #[x] 169 (0,0))) (h2:tmps.getD r undef = .pointer (some ⟨b,0,none⟩)) :
 (results f tmps).run Tryz.prog W = .ok (.agg #[x]) W:=by
 have h0:=cg_ h (k:=0) rfl
 rw [qP_ hr,h2]
 simp [go_sem,h0]
theorem set1 {W:World} {b:Nat} {t:TypeId} {x x':Value} (h:W.heap[b]? = some (.cells #[x] t (0,0))):(W.setCell ⟨b,0,none⟩ x').heap[b]? = some (.cells #[x'] t (0,0)):=by
 simp [World.setCell,Array.getElem?_modify,h]
theorem some_any (D:Nat) (w:World):Calls Tryz.prog 118 #[.func (.func 119) #[.pointer (some ⟨D,0,none⟩)] #[]] w fun e w'=>e = .returned (.agg #[.func (.func 162) #[] #[.pointer (some ⟨w.heap.size,0,none⟩)]])∧w'.heap[w.heap.size]? = some (.cells #[.func (.func 119) #[.pointer (some ⟨D,0,none⟩)] #[]] 240 (0,0))∧Below w.heap.size w w':=by
 obtain ⟨w1,hw1⟩:∃ w1,w.alloc (.cells #[.func (.func 119) #[.pointer (some ⟨D,0,none⟩)] #[]] 240) = w1:=⟨_,rfl⟩
 have hb1:Below w.heap.size w w1:=by rw [← hw1];exact (Below.refl _ _).alloc (nl_ _) _
 have hn:w1.heap[w.heap.size]? = some (.cells #[.func (.func 119) #[.pointer (some ⟨D,0,none⟩)] #[]] 240 (0,0)):=by rw [← hw1];exact ha_ _ _
 obtain ⟨w2,hw2⟩:∃ w2,w1.alloc (.cells #[.nilFunc] 169) = w2:=⟨_,rfl⟩
 have hz1:=hb1.size
 have hlt:w.heap.size < w1.heap.size:=(ge_ hn).1
 have hb2:Below w.heap.size w w2:=by rw [← hw2];exact hb1.alloc hz1 _
 have hn2:w2.heap[w.heap.size]? = some (.cells #[.func (.func 119) #[.pointer (some ⟨D,0,none⟩)] #[]] 240 (0,0)):=by rw [← hw2];exact (heap_alloc_old _ _ hlt).trans hn
 have hr2:w2.heap[w1.heap.size]? = some (.cells #[.nilFunc] 169 (0,0)):=by rw [← hw2];exact ha_ _ _
 have p0:=cg_ hr2 (k:=0) rfl
 have f0:=q5_ hr2 (k:=0)
 have HR2:=hid hr2
 have HB2:=hid hb2
 have HN2:=hid hn2
 have HZ:=hid hz1
 have HLT:=hid hlt
 clear hn hn2 hr2 hb1 hb2 hz1 hlt
 go_enter Tryz.func118,Tryz.ntmps118
 go_wp2_with fail
 refine bodyPost_ret (v := .agg #[.func (.func 162) #[] #[.pointer (some ⟨w.heap.size,0,none⟩)]]) (ret169 rfl (set1 HR2.out) rfl) rfl ?_
 exact ⟨rfl,(Below.heap_setCell _ _ _ _ (by have:=HLT.out;simp;omega)).trans HN2.out,Below.setCell HB2.out (p:=⟨w1.heap.size,0,none⟩) HZ.out _⟩
theorem theft_any (D:Nat) (w:World):Calls Tryz.prog 68 #[.pointer (some ⟨D,0,none⟩)] w fun e w'=>∃ b1,e = .returned (.agg #[.func (.func 162) #[] #[.pointer (some ⟨b1,0,none⟩)]])∧w.heap.size ≤ b1∧w'.heap[b1]? = some (.cells #[.func (.func 119) #[.pointer (some ⟨D,0,none⟩)] #[]] 240 (0,0))∧Below w.heap.size w w':=by
 obtain ⟨w2,hw2⟩:∃ w2,w.alloc (.cells #[.nilFunc] 169) = w2:=⟨_,rfl⟩
 have hb2:Below w.heap.size w w2:=by rw [← hw2];exact (Below.refl _ _).alloc (nl_ _) _
 have hr2:w2.heap[w.heap.size]? = some (.cells #[.nilFunc] 169 (0,0)):=by rw [← hw2];exact ha_ _ _
 have HR2:=hid hr2
 have HB2:=hid hb2
 have SA:=hid (some_any D w2)
 clear hr2 hb2
 go_enter Tryz.func68,Tryz.ntmps68
 go_wp2_with fail
 refine SA.out.mono ?_
 rintro e w3 ⟨rfl,h1,hb3⟩
 have hr3:=q0_ HR2.out hb3
 have p0:=cg_ hr3 (k:=0) rfl
 have f0:=q5_ hr3 (k:=0)
 have HR3:=hid hr3
 have H1:=hid h1
 have HB3:=hid hb3
 have hz2:w.heap.size < w2.heap.size:=(ge_ HR2.out).1
 have HZ2:=hid hz2
 clear hr3 h1 hb3 hz2
 go_wp2_with fail
 refine bodyPost_ret (v := .agg #[.func (.func 162) #[] #[.pointer (some ⟨w2.heap.size,0,none⟩)]]) (ret169 rfl (set1 HR3.out) rfl) rfl ?_
 exact ⟨w2.heap.size,rfl,HB2.out.size,(Below.heap_setCell _ _ _ _ (by have:=HZ2.out;simp;omega)).trans H1.out,Below.setCell (HB2.out.trans (HB3.out.mono HB2.out.size)) (p:=⟨w.heap.size,0,none⟩) (nl_ _) _⟩
theorem other_any (S:List St) (m M D:Nat) (as_ ac:Option Addr) (cs_ cc:Nat) (B:Nat→Prop) (t k:Nat) (w:World) (hs:LSl rdSt B w (.slice as_ S.length cs_) S) (hB:∀ b,B b→b < w.heap.size) (hD:w.heap[D]? = some (.cells #[.slice as_ S.length cs_, .slice ac m cc, .map (some M)] 221 (0,0))) (hk:k < S.length) (h6:S.length ≤ 100) :
 Calls Tryz.prog 119 #[.pointer (some ⟨D,0,none⟩), .agg #[.int .i64 t, .int .i64 k]] w fun e w'=>e = .returned (.bool (((S.getD k st0).t != (t:Int))))∧Below w.heap.size w w':=by
 obtain ⟨_,_,he,_,hmm,hat⟩:=LSl.at hs
 cases he
 obtain ⟨g,o,cs1,rfl,hg,hc,hcell⟩:=hat k hk
 have hc:cs1 = (stC S[k]).toList:=hc
 have hgd:S.getD k st0 = S[k]:=by simp [List.getD_eq_getElem?_getD,List.getElem?_eq_getElem hk]
 obtain ⟨x,hx⟩:∃ x,S[k] = x:=⟨_,rfl⟩
 rw [hx] at hc hgd
 subst hc
 have e0:=hcell 0 _ rfl
 rw [Nat.add_zero] at e0
 have hgl:=hB g hg
 have hDl:=(ge_ hD).1
 unfold maxLen at hmm
 obtain ⟨w1,hw1⟩:∃ w1,w.alloc (.cells #[.int .i64 t, .int .i64 k] 223) = w1:=⟨_,rfl⟩
 have hb1:Below w.heap.size w w1:=by rw [← hw1];exact (Below.refl _ _).alloc (nl_ _) _
 have hn:w1.heap[w.heap.size]? = some (.cells #[.int .i64 t, .int .i64 k] 223 (0,0)):=by rw [← hw1];exact ha_ _ _
 have c0:=bc_ hb1 hgl e0
 have hD1:=q0_ hD hb1
 have d0:=cg_ hD1 (k:=0) (v := .slice (some ⟨g,o,none⟩) S.length cs_) rfl
 have p0:=cg_ hn (k:=0) (v := .int .i64 t) rfl
 have p1:=cg_ hn (k:=1) (v := .int .i64 k) rfl
 have hk':(k:Int) < (S.length:Int):=by omega
 have hk0:(0:Int) ≤ (k:Int):=by omega
 rw [hgd]
 have HB:=hid hb1
 clear hat hcell e0 hb1 hn hD hD1 hs hB hx hgd
 go_enter Tryz.func119,Tryz.ntmps119
 go_upto_region 1 with fail
 try rw [hw1]
 clear hw1
 have hS0:w1.drew.cell? ⟨D,0,none⟩ = some (.slice (some ⟨g,o,none⟩) S.length cs_)∧w1.drew.cell? ⟨w.heap.size,0,none⟩ = some (.int .i64 t)∧w1.drew.cell? ⟨w.heap.size,1,none⟩ = some (.int .i64 k)∧w1.drew.cell? ⟨g,o + k * 7,none⟩ = some (.int .i64 x.t):=⟨d0,p0,p1,c0⟩
 refine (wpIn_wide (n:=9)).1 ?_
 refine q6_ (fun V:World=>V.cell? ⟨D,0,none⟩ = some (.slice (some ⟨g,o,none⟩) S.length cs_)∧V.cell? ⟨w.heap.size,0,none⟩ = some (.int .i64 t)∧V.cell? ⟨w.heap.size,1,none⟩ = some (.int .i64 k)∧V.cell? ⟨g,o + k * 7,none⟩ = some (.int .i64 x.t)) (by kernel_rfl) ?_
 refine tkZ 0 5 (.pointer (some ⟨D,0,none⟩)) rfl rfl hS0 ?_
 refine tkZ 1 6 (.pointer (some ⟨D,0,none⟩)) rfl rfl hS0 ?_
 refine tkZ 2 7 (.pointer (some ⟨D,0,none⟩)) rfl rfl hS0 ?_
 refine tkZ 3 8 (.pointer (some ⟨D,0,none⟩)) rfl rfl hS0 ?_
 refine tkZ 4 9 (.slice (some ⟨g,o,none⟩) S.length cs_) rfl rfl hS0 ?_
 refine tkZ 5 10 (.pointer (some ⟨w.heap.size,1,none⟩)) rfl rfl hS0 ?_
 refine tkZ 6 11 (.int .i64 k) rfl rfl hS0 ?_
 refine tkZ 7 12 (.pointer (some ⟨g,o + k * 7,none⟩)) rfl rfl hS0 ?_
 refine tkZ 8 13 (.pointer (some ⟨g,o + k * 7,none⟩)) rfl rfl hS0 ?_
 refine tkZ 9 14 (.int .i64 x.t) rfl rfl hS0 ?_
 refine tkZ 10 15 (.pointer (some ⟨w.heap.size,0,none⟩)) rfl rfl hS0 ?_
 refine tkZ 11 16 (.int .i64 t) rfl rfl hS0 ?_
 refine tkZ 12 17 (.bool (x.t != (t:Int))) rfl rfl hS0 ?_
 refine tkZ 13 4 (.bool (x.t != (t:Int))) rfl rfl hS0 ?_
 refine q7_ (by kernel_rfl) ?_
 go_simp
 go_wp2_with fail
 go_ret
 exact ⟨rfl,HB.out.drew⟩
theorem some1_any (S:List St) (m M D b1:Nat) (as_ ac:Option Addr) (cs_ cc:Nat) (B:Nat→Prop) (t k:Nat) (w:World) (hs:LSl rdSt B w (.slice as_ S.length cs_) S) (hB:∀ b,B b→b < w.heap.size) (hD:w.heap[D]? = some (.cells #[.slice as_ S.length cs_, .slice ac m cc, .map (some M)] 221 (0,0))) (h1:w.heap[b1]? = some (.cells #[.func (.func 119) #[.pointer (some ⟨D,0,none⟩)] #[]] 240 (0,0))) (hk:k < S.length) (h6:S.length ≤ 100) :
 Calls Tryz.prog 162 #[.agg #[.int .i64 t, .int .i64 k], .pointer (some ⟨b1,0,none⟩)] w fun e w'=>e = .returned (.int .i64 (oth S t k))∧Below w.heap.size w w':=by
 obtain ⟨w1,hw1⟩:∃ w1,w.alloc (.cells #[.int .i64 t, .int .i64 k] 223) = w1:=⟨_,rfl⟩
 have hb1:Below w.heap.size w w1:=by rw [← hw1];exact (Below.refl _ _).alloc (nl_ _) _
 have hn:w1.heap[w.heap.size]? = some (.cells #[.int .i64 t, .int .i64 k] 223 (0,0)):=by rw [← hw1];exact ha_ _ _
 have OT:=hid (other_any S m M D as_ ac cs_ cc B t k w1 (hs.agree (qc_ hb1 hB)) (fun b hb=>by have:=hB b hb;have:=hb1.size;omega) (q0_ hD hb1) hk h6)
 have f0:=cg_ (q0_ h1 hb1) (k:=0) (v := .func (.func 119) #[.pointer (some ⟨D,0,none⟩)] #[]) rfl
 have p0:=cg_ hn (k:=0) (v := .int .i64 t) rfl
 have p1:=cg_ hn (k:=1) (v := .int .i64 k) rfl
 have HB:=hid hb1
 have HO:=hid (show oth S t k = if ((S.getD k st0).t != (t:Int)) then 1 else 0 by rw [oth,show (⟨0,0,0,0,0,0,0⟩:St) = st0 from rfl];by_cases h:(S.getD k st0).t = (t:Int) <;> simp only [bne,h,beq_self_eq_true,if_true,Bool.not_true,Bool.false_eq_true,if_false,beq_iff_eq,Bool.not_eq_true',beq_eq_false_iff_ne,ne_eq,not_false_eq_true,not_true_eq_false])
 obtain ⟨b,hb⟩:∃ b,((S.getD k st0).t != (t:Int)) = b:=⟨_,rfl⟩
 rw [hb] at OT HO
 clear hb1 hn hb hD h1 hs
 cases b with
 | true=>
   go_enter Tryz.func162,Tryz.ntmps162
   go_wp2_with fail
   refine OT.out.mono ?_
   rintro e w2 ⟨rfl,hb2⟩
   go_wp2_with fail
   go_ret
   rw [HO.out]
   exact ⟨rfl,HB.out.trans (hb2.mono HB.out.size)⟩
 | false=>
   go_enter Tryz.func162,Tryz.ntmps162
   go_wp2_with fail
   refine OT.out.mono ?_
   rintro e w2 ⟨rfl,hb2⟩
   go_wp2_with fail
   go_ret
   rw [HO.out]
   exact ⟨rfl,HB.out.trans (hb2.mono HB.out.size)⟩
theorem vk_ (S:List St):∀ k,(v1_ S k).length = k
 | 0=>rfl
 | k + 1=>by rw [v1_,List.length_append,vk_ S k];rfl
def wayR (S:List St) (t:Nat) (k:Int):Way:=⟨1 + k.toNat,7 + t,0,1000000,oth S t k.toNat,0⟩
theorem xu_ (S:List St) (t:Nat):laidR S t = (rchL S S.length t S.length).map (wayR S t):=by
 have:∀ m,m ≤ S.length→(((List.range m).filter fun k=>rch S t k).map fun k=>(⟨1 + k,7 + t,0,1000000,oth S t k,0⟩:Way)) = (rchL S S.length t m).map (wayR S t):=by
  intro m
  induction m with
  | zero=>intro _;rfl
  | succ m ih=>
    intro hm
    have h1:fM S S.length t m = rch S t m:=by
     rw [fM,decide_eq_true (by omega),Bool.true_and];rfl
    rw [List.range_succ,List.filter_append,List.map_append,ih (by omega),rchL,List.map_append,h1]
    congr 1
    by_cases h2:rch S t m = true
    · simp [h2,wayR]
    · simp [h2]
 exact this _ (nl_ _)
theorem rchL_mem (S:List St) (n t:Nat):∀ {m:Nat} {k:Int},k ∈ rchL S n t m→∃ kk:Nat,k = (kk:Int)∧kk < m
 | 0,_,h=>by simp [rchL] at h
 | m + 1,k,h=>by
   rw [rchL,List.mem_append] at h
   rcases h with h | h
   · obtain ⟨kk,h1,h2⟩:=rchL_mem S n t h
     exact ⟨kk,h1,by omega⟩
   · split at h
     · exact ⟨m,List.mem_singleton.1 h,by omega⟩
     · simp at h
theorem xd_ (S:List St) (n t:Nat):∀ m,(rchL S n t m).length ≤ m
 | 0=>by simp [rchL]
 | m + 1=>by
   have:=xd_ S n t m
   rw [rchL,List.length_append]
   split <;> simp <;> omega
theorem kQ_ (S:List St) (C:List Sp):∀ t,(laidT S C t).length ≤ S.length + t * (S.length + 1)
 | 0=>by rw [laidT,vk_];omega
 | t + 1=>by
   have:=kQ_ S C t
   have h2:=xd_ S S.length t S.length
   rw [laidT,List.length_append,List.length_append,xu_,List.length_map,List.length_singleton,Nat.add_mul];omega
end Go.Proofs.LS