/- Parts of the proof of a law of layer 11 (file): LbB13, LbS6. The conditions stand in each theorem. -/
import Derived.Test.YtffjknkcogmnbaaGreatDoorProg
import Derived.Test.YtffjknkcogmnbaaGreatDoorTybb
import Derived.Test.YtffjknkcogmnbaaGreatDoorTybc
set_option linter.all false
set_option linter.unusedVariables false
set_option linter.unusedSimpArgs false
namespace Go.Proofs.LB
open Go.RowKit Go.Sort Go.Proofs.LF
set_option maxHeartbeats 4000000
set_option maxRecDepth 100000
attribute [local go_sem] q1_ q2_ q8_
def Dfs (n0:Nat):List Deferred→World→Prop
 | [],_=>True
 | d :: ds,w=>(∃ D,d = { target := .collected D,args:=#[] }∧n0 ≤ D∧w.heap[D]? = some (.deferred (some []))∧∀ d' ∈ ds,∀ D',d'.target = .collected D'→D' < D)∧Dfs n0 ds w
theorem Dfs.lt {n0:Nat}:∀ {ds:List Deferred} {w:World},Dfs n0 ds w→∀ d ∈ ds,∀ D,d.target = .collected D→n0 ≤ D∧D < w.heap.size∧w.heap[D]? = some (.deferred (some []))
 | d :: ds,w,⟨⟨D,h1,h2,h3,h4⟩,h5⟩,d',hd,D',hD=>by
   rcases List.mem_cons.1 hd with rfl | hd
   · rw [h1] at hD;cases hD
     exact ⟨h2,(ge_ h3).1,h3⟩
   · exact Dfs.lt h5 d' hd D' hD
theorem Dfs.kept {n0:Nat} {w w':World}:∀ {ds:List Deferred},Dfs n0 ds w→(∀ d ∈ ds,∀ D,d.target = .collected D→w'.heap[D]? = w.heap[D]?)→Dfs n0 ds w'
 | [],_,_=>trivial
 | d :: ds,⟨⟨D,h1,h2,h3,h4⟩,h5⟩,hk=>⟨⟨D,h1,h2,(hk d (List.mem_cons_self ..) D (by rw [h1])).trans h3,h4⟩,Dfs.kept h5 fun d' hd=>hk d' (List.mem_cons_of_mem _ hd)⟩
theorem Dfs.keep {n0:Nat} {w w':World} {ds:List Deferred} {O:Nat→Prop} (h:Dfs n0 ds w) (hk:Keep O w w') (hO:∀ b:Nat,O b→∀ h,w.heap[b]? ≠ some (Obj.deferred h)):Dfs n0 ds w':=
 h.kept fun d hd D hD=>by
  obtain ⟨_,h2,h3⟩:=h.lt d hd D hD
  exact hk.block D h2 fun ho=>hO D ho _ h3
theorem Dfs.below {n0:Nat} {w w':World} {ds:List Deferred} (h:Dfs n0 ds w) (hb:Below w.heap.size w w'):Dfs n0 ds w':=
 h.kept fun d hd D hD=>hb.block D (h.lt d hd D hD).2.1
theorem Dfs.more {n0 D:Nat} {w w':World} {ds:List Deferred} (h:Dfs n0 ds w') (hD:w'.heap[D]? = some (.deferred (some []))) (hn:n0 ≤ D) (hl:w.heap.size ≤ D) (h0:∀ d ∈ ds,∀ D',d.target = .collected D'→D' < w.heap.size):Dfs n0 ({ target := .collected D,args:=#[] } :: ds) w':=
 ⟨⟨D,rfl,hn,hD,fun d hd D' hD'=>by have:=h0 d hd D' hD';omega⟩,h⟩
structure Shut (w w':World):Prop where
 size:w'.heap.size = w.heap.size
 block:∀ b:Nat,(∀ h,w.heap[b]? ≠ some (Obj.deferred h))→w'.heap[b]? = w.heap[b]?
theorem zl_ {F:Fence} {n:Nat} {P:Program} {fn:Func} {tmps:Array Value} {R:Ending→World→Prop} {n0:Nat}:∀ (ds:List Deferred) (w:World),Dfs n0 ds w →
 (∀ w',Shut w w'→Below n0 w w'→LeavesInM F n P fn tmps R [] .returning w')→LeavesInM F n P fn tmps R ds .returning w
 | [],w,_,hR=>hR w ⟨rfl,fun _ _=>rfl⟩ (Below.refl _ _)
 | d :: ds,w,⟨⟨D,h1,h2,h3,h4⟩,h5⟩,hR=>by
   refine ⟨by simp, .inl ⟨D,w.putObj D (.deferred none),by rw [h1],run_takeDeferred h3,zl_ ds _ (h5.kept fun d' hd' D' hD'=>?_) fun w' hs hb=>hR w' ?_ ((z2_ (Below.refl n0 w) h2).trans hb)⟩⟩
   · have:=h4 d' hd' D' hD'
     exact World.putObj_heap_other (by omega)
   · refine ⟨by rw [hs.size];simp,fun b hn=>?_⟩
     have hbD:b ≠ D:=fun e=>hn _ (e ▸ h3)
     have hp:(w.putObj D (.deferred none)).heap[b]? = w.heap[b]?:=World.putObj_heap_other hbD
     exact (hs.block b (fun h=>by rw [hp];exact hn h)).trans hp
def bl (N:Nat) (f:Nat→Bool):Array Value:=((List.range N).map fun i=>Value.bool (f i)).toArray
theorem k0_ (N:Nat) (f:Nat→Bool):(bl N f).size = N:=by simp [bl]
theorem za_ {N:Nat} {f:Nat→Bool} {i:Nat} (h:i < N):(bl N f)[i]? = some (.bool (f i)):=by simp [bl,h]
theorem qW_ {N:Nat} {f g:Nat→Bool} (h:∀ i,i < N→f i = g i):bl N f = bl N g:=by
 have:(List.range N).map (fun i=>Value.bool (f i)) = (List.range N).map fun i=>Value.bool (g i):=List.map_congr_left fun i hi=>by rw [h i (List.mem_range.1 hi)]
 rw [bl,this,bl]
theorem bl_set {N:Nat} {f:Nat→Bool} {i:Nat} {v:Bool}:(bl N f).setIfInBounds i (.bool v) = bl N fun j=>if j = i then v else f j:=by
 apply Array.ext_getElem?
 intro j
 rw [Array.getElem?_setIfInBounds,k0_]
 by_cases hj:j < N
 · rw [za_ hj,za_ hj]
   by_cases e:i = j
   · subst e;simp [hj]
   · rw [if_neg e,if_neg (fun h=>e h.symm)]
 · have h1:(bl N fun j=>if j = i then v else f j)[j]? = none:=Array.getElem?_eq_none (by rw [k0_];omega)
   have h2:(bl N f)[j]? = none:=Array.getElem?_eq_none (by rw [k0_];omega)
   rw [h1,h2]
   split
   · rename_i h;subst h
     rw [if_neg hj]
   · rfl
theorem bl_false (N:Nat):bl N (fun _=>false) = Array.replicate N (.bool false):=by
 apply Array.ext_getElem?
 intro j
 by_cases hj:j < N
 · rw [za_ hj,Array.getElem?_replicate,if_pos hj]
 · rw [Array.getElem?_eq_none (by rw [k0_];omega),Array.getElem?_eq_none (by simp;omega)]
def ahB (room:Int) (S:List Su):Nat→List Mo→Int→Bool
 | m,[],n=>agr S m n
 | m,x :: l,n=>(lvs room x n).any (ahB room S (m + 1) l) && agr S m n
theorem vw_ {room:Int} {x:Mo} {n k:Int}:k ∈ lvs room x n ↔ lvLo room x n ≤ k∧k ≤ lvHi room x n:=by
 simp only [lvs,List.mem_map,List.mem_range]
 constructor
 · rintro ⟨i,hi,rfl⟩;omega
 · intro h;exact ⟨(k - lvLo room x n).toNat,by omega,by omega⟩
theorem vf_ {room n k:Int} {x:Mo} (hx:OkMo room x) (hr:0 ≤ room∧room ≤ 120) (hk:k ∈ lvs room x n):0 ≤ k∧k ≤ room:=by
 have h:=vw_.1 hk
 have h2:=hx.r
 have h4:=hx.t
 simp only [lvLo,lvHi,grs] at h
 omega
theorem kz_ {room:Int} {S:List Su} (hr:0 ≤ room∧room ≤ 120):∀ {l:List Mo} (_:∀ x ∈ l,OkMo room x) {m:Nat} {n:Int},0 ≤ n→n ≤ room→(ahB room S m l n = true ↔ Ahd room S m l n)
 | [],_,m,n,h0,h1=>by simp [ahB,Ahd,h0,h1]
 | x :: l,hx,m,n,h0,h1=>by
   rw [ahB,Ahd,Bool.and_eq_true,List.any_eq_true]
   constructor
   · rintro ⟨⟨k,hk,hk2⟩,ha⟩
     have hb:=vf_ (hx x (List.mem_cons_self ..)) hr hk
     have:=vw_.1 hk
     exact ⟨⟨h0,h1,ha⟩,k,this.1,this.2,(kz_ hr (fun y hy=>hx y (List.mem_cons_of_mem _ hy)) hb.1 hb.2).1 hk2⟩
   · rintro ⟨⟨_,_,ha⟩,k,h2,h3,h4⟩
     have hk:k ∈ lvs room x n:=vw_.2 ⟨h2,h3⟩
     have hb:=vf_ (hx x (List.mem_cons_self ..)) hr hk
     exact ⟨⟨k,hk,(kz_ hr (fun y hy=>hx y (List.mem_cons_of_mem _ hy)) hb.1 hb.2).2 h4⟩,ha⟩
def ahG (room:Int) (S:List Su) (ms:List Mo) (i:Nat):Bool:=decide (((i % 121:Nat):Int) ≤ room) && ahB room S (i / 121) (ms.drop (i / 121)) ((i % 121:Nat):Int)
theorem j4_ {room:Int} {S:List Su} {ms:List Mo} {m n:Nat} (hn:n ≤ 120):ahG room S ms (121 * m + n) = (decide ((n:Int) ≤ room) && ahB room S m (ms.drop m) (n:Int)):=by
 have h1:(121 * m + n) % 121 = n:=by omega
 have h2:(121 * m + n) / 121 = m:=by omega
 rw [ahG,h1,h2]
theorem jG_ {p:Nat→Prop}:(∃ j,p j)→∃ j,p j∧∀ i,p i→j ≤ i:=by
 rintro ⟨j,hj⟩
 induction j using Nat.strongRecOn with
 | _ j ih=>
   by_cases h:∃ i,i < j∧p i
   · obtain ⟨i,hi,hp⟩:=h
     exact ih i hi hp
   · exact ⟨j,hj,fun i hi=>by
      by_cases hl:i < j
      · exact absurd ⟨i,hl,hi⟩ h
      · omega⟩
theorem qw_ {F:Fence} {n:Nat} {P:Program} {Q:Exit→Act→World→Prop} {a:Act} {w:World} {c:Code} (I:Nat→Act→World→Prop) (j0:Nat) (h0:I j0 a w)
 (round:∀ j a w,I j a w→c.wpIn F n P (Exit.then (fun a' w'=>∃ j',j' < j∧I j' a' w') Q) a w):(Code.loop c).wpIn F n P Q a w:=by
 classical
 refine wpIn_loop (fun a w=>∃ j,I j a w) (fun a w=>if h:∃ j,I j a w then Classical.choose (jG_ h) else 0) ⟨j0,h0⟩ ?_
 rintro a w h
 obtain ⟨hm,hmin⟩:=Classical.choose_spec (jG_ h)
 refine wpIn_mono (round _ a w hm) ?_
 intro e a' w' hq
 cases e with
 | normal=>
   obtain ⟨j',hj',hI⟩:=hq
   have h':∃ j,I j a' w':=⟨j',hI⟩
   refine ⟨h',?_⟩
   simp only [dif_pos h,dif_pos h']
   exact Nat.lt_of_le_of_lt ((Classical.choose_spec (jG_ h')).2 j' hI) hj'
 | _=>exact hq
def noPan (Q:Exit→Act→World→Prop):Exit→Act→World→Prop
 | .panic _,_,_=>False
 | e,a,w=>Q e a w
theorem kE_ {F:Fence} {n:Nat} {P:Program} {Q:Exit→Act→World→Prop} {a:Act} {w:World} {c:Code} (h:c.wpIn F n P (noPan Q) a w):c.wpIn F n P Q a w:=by
 refine wpIn_mono h ?_
 intro e a w h
 cases e with
 | panic _=>exact h.elim
 | _=>exact h
end Go.Proofs.LB
namespace Go.Proofs.LS
open Go.RowKit Go.Sort Go.Proofs.LF Go.Proofs.LB
set_option maxHeartbeats 4000000
set_option maxRecDepth 100000
attribute [local go_sem] q1_ q2_ q8_
structure ReR (S:List St) (n m:Nat) (as_ ac:Option Addr) (cs_ cc M D p1 p2 t:Nat) (W:World):Prop where
 d:W.heap[D]? = some (.cells #[.slice as_ n cs_, .slice ac m cc, .map (some M)] 221 (0,0))
 p1:W.heap[p1]? = some (.cells #[.pointer (some ⟨D,0,none⟩)] 159 (0,0))
 p2:W.heap[p2]? = some (.cells #[.int .i64 t] 3 (0,0))
 mp:∃ N,kK_ M N (fM S n) W
theorem ReR.kept {S:List St} {n m:Nat} {as_ ac:Option Addr} {cs_ cc M D p1 p2 t:Nat} {W W':World} (h:ReR S n m as_ ac cs_ cc M D p1 p2 t W) (hk:∀ b,(b = D ∨ b = p1 ∨ b = p2 ∨ b = M)→W'.heap[b]? = W.heap[b]?):ReR S n m as_ ac cs_ cc M D p1 p2 t W':=
 let ⟨N,hN⟩:=h.mp
 ⟨(hk _ (.inl rfl)).trans h.d,(hk _ (.inr (.inl rfl))).trans h.p1,(hk _ (.inr (.inr (.inl rfl)))).trans h.p2,⟨N,hN.kept (hk _ (.inr (.inr (.inr rfl))))⟩⟩
theorem ReR.lt {S:List St} {n m:Nat} {as_ ac:Option Addr} {cs_ cc M D p1 p2 t:Nat} {W:World} (h:ReR S n m as_ ac cs_ cc M D p1 p2 t W):∀ b,(b = D ∨ b = p1 ∨ b = p2 ∨ b = M)→b < W.heap.size:=by
 rintro b (rfl | rfl | rfl | rfl)
 · exact (ge_ h.d).1
 · exact (ge_ h.p1).1
 · exact (ge_ h.p2).1
 · exact h.mp.choose_spec.lt
theorem ReR.below {S:List St} {n m:Nat} {as_ ac:Option Addr} {cs_ cc M D p1 p2 t:Nat} {W W':World} (h:ReR S n m as_ ac cs_ cc M D p1 p2 t W) (hb:Below W.heap.size W W'):ReR S n m as_ ac cs_ cc M D p1 p2 t W':=
 h.kept fun b hB=>hb.block b (h.lt b hB)
theorem reach_any (S:List St) (n m:Nat) (as_ ac:Option Addr) (cs_ cc M D N t:Nat) (w:World) (hD:w.heap[D]? = some (.cells #[.slice as_ n cs_, .slice ac m cc, .map (some M)] 221 (0,0))) (hM:kK_ M N (fM S n) w) :
 Calls Tryz.prog 157 #[.pointer (some ⟨D,0,none⟩), .int .i64 t] w fun e w'=>e = .returned (.func (.func 202) #[] #[.pointer (some ⟨w.heap.size,0,none⟩), .pointer (some ⟨(w.heap.size + 1),0,none⟩)])∧ReR S n m as_ ac cs_ cc M D w.heap.size (w.heap.size + 1) t w'∧w'.heap.size = w.heap.size + 2∧Below w.heap.size w w':=by
 obtain ⟨w3,hw3⟩:∃ w3,(w.alloc (.cells #[.pointer (some ⟨D,0,none⟩)] 159)).alloc (.cells #[.int .i64 t] 3) = w3:=⟨_,rfl⟩
 have hz3:w3.heap.size = w.heap.size + 2:=by rw [← hw3];simp
 have hb3:Below w.heap.size w w3:=by rw [← hw3];exact ((Below.refl _ _).alloc (nl_ _) _).alloc (by simp) _
 have r1:w3.heap[w.heap.size]? = some (.cells #[.pointer (some ⟨D,0,none⟩)] 159 (0,0)):=by rw [← hw3];exact qb_ _ (ha_ _ _)
 have r2:w3.heap[w.heap.size + 1]? = some (.cells #[.int .i64 t] 3 (0,0)):=by rw [← hw3];have:=ha_ (w.alloc (.cells #[.pointer (some ⟨D,0,none⟩)] 159)) (.cells #[.int .i64 t] 3);simpa using this
 have HB:=hid hb3
 have RR:=hid (show ReR S n m as_ ac cs_ cc M D w.heap.size (w.heap.size + 1) t w3 from ⟨q0_ hD hb3,r1,r2,N,hM.kept (hb3.block M hM.lt)⟩)
 have HZ:=hid hz3
 clear hz3 hb3 r1 r2 hD hM
 go_enter Tryz.func157,Tryz.ntmps157
 go_wp2_with fail
 try rw [hw3]
 go_ret
 exact ⟨rfl,RR.out,HZ.out,HB.out⟩
theorem xP_:LF.zn_ 202:=by intro args W;simp [go_sem]
def rchL (S:List St) (n t:Nat):Nat→List Int
 | 0=>[]
 | k + 1=>rchL S n t k ++ if fM S n t k then [(k:Int)] else []
theorem yD_ (S:List St) (n t k:Nat):∀ d,rchL S n t k <+: rchL S n t (k + d)
 | 0=>List.prefix_refl _
 | d + 1=>(yD_ S n t k d).trans (List.prefix_append _ _)
theorem reach_seq (S:List St) (n m:Nat) (as_ ac:Option Addr) (cs_ cc M D p1 p2 t:Nat) (w:World) (hR:ReR S n m as_ ac cs_ cc M D p1 p2 t w) (hn:n ≤ 100) (ht:t ≤ 1000) :
 SeqI Tryz.prog 202 #[.pointer (some ⟨p1,0,none⟩), .pointer (some ⟨p2,0,none⟩)] (fun k:Int=>k) (fun k=>#[.int .i64 k]) (fun _ _ _=>True) (rchL S n t n) w (fun b=>b = D ∨ b = p1 ∨ b = p2 ∨ b = M):=by
 intro l J Jx O W hb hT hOw hJ hJx hY h0 N
 refine callsIn_of_wp Tryz.func202 rfl trivial ?_ rfl
 simp only [Tryz.ntmps202,List.size_toArray,List.length_cons,List.length_nil,Nat.reduceAdd,Nat.reduceSub,Array.replicate_succ,Array.replicate_zero,List.push_toArray,List.append_toArray,List.nil_append,List.cons_append]
 have HT:=hid hT
 have HOw:=hid hOw
 have HJ:=hid hJ
 have HY:=hid hY
 have LR:=hid (hR.below hb)
 have H0:=hid h0
 clear hb hT hOw hJ hJx hY hR h0
 have q1:=cg_ LR.out.p1 (k:=0) (v := .pointer (some ⟨D,0,none⟩)) rfl
 have q2:=cg_ LR.out.d (k:=0) (v := .slice as_ n cs_) rfl
 gi_wp2_with fail
 gi_loopw [11] (fun v wr=>∃ (k:Nat) (O':Nat→Prop),v = .int .i64 (k:Int)∧k ≤ n∧Hid (J (rchL S n t k) O' wr)∧Hid (∀ b,(b = D ∨ b = p1 ∨ b = p2 ∨ b = M)→¬ O' b)∧Hid (∀ b,O' b→b < wr.heap.size)∧Hid (qg_ (fun b=>b = D ∨ b = p1 ∨ b = p2 ∨ b = M) W wr)∧W.heap.size ≤ wr.heap.size) (fun v _=>n - (intOf v).toNat)
 case atStart=>exact ⟨0,O,rfl,by omega,H0.out,HT.out,HOw.out,fun b h=>rfl,nl_ _⟩
 case round=>
  obtain ⟨k,O',rfl,hk1,JK,TK,OK,AK,hz⟩:=hrel
  by_cases hlt:k < n
  · have hlt':(k:Int) < (n:Int):=by omega
    have LR2:=hid (LR.out.kept (W':=wr) fun b hb=>AK.out b hb)
    clear q1 q2
    have TD:=hid (fun b (h:b = D ∨ b = p1 ∨ b = p2 ∨ b = M)=>show b < W.heap.size from LR.out.lt b h)
    gi_wp2_with fail
    have SC:=hid (fun (V:World) (h:ReR S n m as_ ac cs_ cc M D p1 p2 t V)=>show V.cell? ⟨p1,0,none⟩ = some (.pointer (some ⟨D,0,none⟩))∧V.cell? ⟨D,2,none⟩ = some (.map (some M))∧V.cell? ⟨p2,0,none⟩ = some (.int .i64 t)∧(Instr.lookup 219 (.map (some M)) (.agg #[.int .i64 t, .int .i64 k]) false).run Tryz.prog V = .ok (.bool (fM S n t k)) V from ⟨cg_ h.p1 (k:=0) rfl,cg_ h.d (k:=2) rfl,cg_ h.p2 (k:=0) rfl,h.mp.choose_spec.look t k ht (by omega)⟩)
    have BX:=hid (show Below wr.heap.size wr wr.drew from (Below.refl _ wr).drew)
    have hS0:=LR2.out.below BX.out
    have hrk:rchL S n t (k + 1) = rchL S n t k ++ (if fM S n t k then [(k:Int)] else []):=rfl
    obtain ⟨b,hb⟩:∃ b,fM S n t k = b:=⟨_,rfl⟩
    rw [hb] at SC hrk
    have HRK:=hid hrk
    clear hrk
    refine q6_ (fun V:World=>ReR S n m as_ ac cs_ cc M D p1 p2 t V) (by kernel_rfl) ?_
    refine tkY 0 14 (.pointer (some ⟨D,0,none⟩)) rfl rfl hS0 (fun w' hs=>?_) ?_
    · obtain ⟨q0,q1,q2,q3⟩:=SC.out _ hs
      go_simp
    refine tkY 1 15 (.pointer (some ⟨D,0,none⟩)) rfl rfl hS0 (fun w' hs=>?_) ?_
    · obtain ⟨q0,q1,q2,q3⟩:=SC.out _ hs
      go_simp
    refine tkY 2 16 (.pointer (some ⟨D,2,none⟩)) rfl rfl hS0 (fun w' hs=>?_) ?_
    · obtain ⟨q0,q1,q2,q3⟩:=SC.out _ hs
      go_simp
    refine tkY 3 17 (.map (some M)) rfl rfl hS0 (fun w' hs=>?_) ?_
    · obtain ⟨q0,q1,q2,q3⟩:=SC.out _ hs
      go_simp
    refine tkY 4 18 (.int .i64 t) rfl rfl hS0 (fun w' hs=>?_) ?_
    · obtain ⟨q0,q1,q2,q3⟩:=SC.out _ hs
      go_simp
    refine tkY 5 19 (.int .i64 k) rfl rfl hS0 (fun w' hs=>?_) ?_
    · obtain ⟨q0,q1,q2,q3⟩:=SC.out _ hs
      go_simp
    refine tkY 6 20 (.agg #[.int .i64 t, .int .i64 k]) rfl rfl hS0 (fun w' hs=>?_) ?_
    · obtain ⟨q0,q1,q2,q3⟩:=SC.out _ hs
      go_simp
    refine tkY 7 21 (.bool b) rfl rfl hS0 (fun w' hs=>?_) ?_
    · obtain ⟨q0,q1,q2,q3⟩:=SC.out _ hs
      go_simp
    cases b with
    | false=>
      refine tkY 8 22 (.bool false) rfl rfl hS0 (fun w' hs=>?_) ?_
      · obtain ⟨q0,q1,q2,q3⟩:=SC.out _ hs
        go_simp
      refine tkN 9 23 rfl rfl hS0 ?_
      refine tkN 10 24 rfl rfl hS0 ?_
      refine tkN 11 25 rfl rfl hS0 ?_
      refine tkN 12 26 rfl rfl hS0 ?_
      refine tkY 13 27 (.bool false) rfl rfl hS0 (fun w' hs=>?_) ?_
      · obtain ⟨q0,q1,q2,q3⟩:=SC.out _ hs
        go_simp
      refine q7_ (by kernel_rfl) ?_
      go_simp
      have JK2:=hid (HJ.out _ _ _ _ JK.out BX.out)
      gi_wp2_with fail
      go_roundw
      case rel=>exact ⟨k + 1,O',by go_num,by omega,hid (by rw [HRK.out];simpa using JK2.out),TK.out,fun b h=>OK.out b h,AK.out,hz⟩
      case measure=>simp [intOf];omega
    | true=>
      have HRK2:=hid (show rchL S n t k ++ [(k:Int)] = rchL S n t (k + 1) from HRK.out.symm)
      obtain ⟨v3,hv3⟩:∃ v3,wr.drew = v3:=⟨_,rfl⟩
      rw [hv3] at BX hS0 ⊢
      clear hv3
      have JK2:=hid (HJ.out _ _ _ _ JK.out BX.out)
      have hpx:rchL S n t k ++ [(k:Int)] <+: rchL S n t n:=by
       rw [HRK2.out]
       have:=yD_ S n t (k + 1) (n - (k + 1))
       rwa [show k + 1 + (n - (k + 1)) = n by omega] at this
      have HPX:=hid hpx
      obtain ⟨fn,tmps,assign,body,hy,hRR⟩:=HY.out (N - 1) _ (k:Int) _ _ JK2.out hpx trivial
      have HR:=hid hRR
      clear hRR hpx
      refine tkY 8 22 (.bool true) rfl rfl hS0 (fun w' hs=>?_) ?_
      · obtain ⟨q0,q1,q2,q3⟩:=SC.out _ hs
        go_simp
      refine tkY 9 23 (.func (.yield l) #[] #[]) rfl rfl hS0 (fun w' hs=>?_) ?_
      · obtain ⟨q0,q1,q2,q3⟩:=SC.out _ hs
        go_simp
      refine tkY 10 24 (.int .i64 k) rfl rfl hS0 (fun w' hs=>?_) ?_
      · obtain ⟨q0,q1,q2,q3⟩:=SC.out _ hs
        go_simp
      refine aHO 11 rfl fun K hK=>?_
      go_simp
      refine ⟨fun h=>(by cases h),HR.out.mono ?_⟩
      have BZ:=BX.out.size
      rintro e W5 (⟨rfl,O2,hJ5,hk5,hO5,hO6⟩ | ⟨rfl,O2,hJ5,hk5⟩)
      · have hkz:=hk5.size
        have hag5:∀ b,(b = D ∨ b = p1 ∨ b = p2 ∨ b = M)→W5.heap[b]? = W.heap[b]?:=fun b h=>by
         have hd:=TD.out b h
         exact (hk5.block b (by omega) (TK.out b h)).trans ((BX.out.block b (by omega)).trans (AK.out b h))
        have hS5:=LR.out.kept (W':=W5) hag5
        refine hK _ _ ⟨hS5,?_⟩
        rw [HRK2.out] at hJ5
        have J5:=hid hJ5
        have A5:=hid hag5
        have O5:=hid hO5
        have O6:=hid hO6
        clear hK hJ5 hk5 hO5 hO6 hS0 hag5
        refine tkY 12 26 (.bool false) rfl rfl hS5 (fun w' hs=>?_) ?_
        · obtain ⟨q0,q1,q2,q3⟩:=SC.out _ hs
          go_simp
        refine tkY 13 27 (.bool false) rfl rfl hS5 (fun w' hs=>?_) ?_
        · obtain ⟨q0,q1,q2,q3⟩:=SC.out _ hs
          go_simp
        refine q7_ (by kernel_rfl) ?_
        go_simp
        clear hS5
        gi_wp2_with fail
        go_roundw
        case rel=>
         refine ⟨k + 1,O2,by go_num,by omega,J5.out,fun b h h2=>?_,O6.out,A5.out,by omega⟩
         rcases O5.out b h2 with h3 | h3
         · exact TK.out b h h3
         · have:=TD.out b h;omega
        case measure=>simp [intOf];omega
      · have hkz:=hk5.size
        have hag5:∀ b,(b = D ∨ b = p1 ∨ b = p2 ∨ b = M)→W5.heap[b]? = W.heap[b]?:=fun b h=>by
         have hd:=TD.out b h
         exact (hk5.block b (by omega) (TK.out b h)).trans ((BX.out.block b (by omega)).trans (AK.out b h))
        have hS5:=LR.out.kept (W':=W5) hag5
        refine hK _ _ ⟨hS5,?_⟩
        have J5:=hid hJ5
        clear hK hJ5 hk5 hS0 hag5
        refine tkY 12 26 (.bool true) rfl rfl hS5 (fun w' hs=>?_) ?_
        · obtain ⟨q0,q1,q2,q3⟩:=SC.out _ hs
          go_simp
        refine tkY 13 27 (.bool true) rfl rfl hS5 (fun w' hs=>?_) ?_
        · obtain ⟨q0,q1,q2,q3⟩:=SC.out _ hs
          go_simp
        refine q7_ (by kernel_rfl) ?_
        go_simp
        clear hS5
        gi_wp2_with fail
        refine bodyPost_ret (results_none rfl _ _ _) rfl ?_
        first
         | exact ⟨⟨_,rfl⟩, .inr ⟨_,O2,HPX.out,J5.out⟩⟩
         | exact ⟨⟨_,rfl⟩, .inr ⟨_,HPX.out,O2,J5.out⟩⟩
  · gi_wp2_with fail
    go_end0
    obtain rfl:k = n:=by omega
    exact ⟨⟨_,rfl⟩, .inl ⟨O',JK.out⟩⟩
end Go.Proofs.LS