/- Parts of the proof of a law of layer 11 (file): LfYah. The conditions stand in each theorem. -/
import Derived.Test.YtffjknkcogmnbaaGreatDoorProg
import Derived.Test.YtffjknkcogmnbaaGreatDoorSpac
import Derived.Test.YtffjknkcogmnbaaGreatDoorSpah
import Derived.Test.YtffjknkcogmnbaaGreatDoorSpai
set_option linter.all false
set_option linter.unusedVariables false
set_option linter.unusedSimpArgs false
set_option linter.all false
set_option linter.unusedVariables false
set_option linter.unusedSimpArgs false
namespace Go.Proofs.LF
open Go.RowKit Go.Sort
set_option maxHeartbeats 4000000
set_option maxRecDepth 100000
attribute [local go_sem] q1_ q2_ q6_
theorem Tryz.info171'':(Tryz.prog.info? 98).map (fun i=>(i.zero,i.size,i.bytes)) = some (some (.agg #[.slice none 0 0, .slice none 0 0]),2,48):=by kernel_rfl
def wx_ (x:NdD):Fl:=⟨x.up ++ [kyOf x.n x.l],x.l⟩
def IsC (W:World) (b:Nat):Prop:=∃ cs t f,W.heap[b]? = some (.cells cs t f)
theorem IsC.of_cell {W:World} {b o:Nat} {u:Value} (h:W.cell? ⟨b,o,none⟩ = some u):IsC W b:=by
 unfold World.cell? at h
 cases hh:W.heap[b]? with
 | none=>simp [hh] at h
 | some x=>
   cases x with
   | cells cs t f=>exact ⟨cs,t,f,hh⟩
   | _=>simp [hh] at h
theorem SlC.onC {S:Nat→Prop} {w:World} {k n:Nat} {v:Value} {cs:List Value} (h:SlC S w k v n cs) (hk:0 < k):SlC (fun b=>S b∧IsC w b) w k v n cs:=by
 obtain ⟨h1,a,c,h2,h3,h4,hn,h5⟩:=h
 refine ⟨h1,a,c,h2,h3,h4,hn,?_⟩
 rcases h5 with h5 | ⟨g,o,h6,h7,h9⟩
 · exact .inl h5
 · by_cases h0:n = 0
   · exact .inl h0
   · have hpos:0 < n * k:=Nat.mul_pos (by omega) hk
     have hl:0 < cs.length:=by omega
     exact .inr ⟨g,o,h6,⟨h7,IsC.of_cell (h9 0 cs[0] (by simp))⟩,h9⟩
def FltO (R:Nat) (v:Value) (M:Nat→Prop) (b:Nat):Prop:=b = R ∨ v.ownBlock = some b ∨ M b
def Flt (R:Nat) (v:Value) (M:Nat→Prop) (cs:List Value) (fs:List Fl) (W:World):Prop:=
 W.heap[R]? = some (.cells #[v] 90 (0,0))∧W.ownsRow (R + 1) 98 2 v fs.length cs∧LCs xn_ M W fs cs∧(∀ b,M b→R < b∧b < W.heap.size∧v.ownBlock ≠ some b∧IsC W b)
theorem Flt.agree {R:Nat} {v:Value} {M:Nat→Prop} {cs:List Value} {fs:List Fl} {W W':World} (h:Flt R v M cs fs W) (hz:W.heap.size ≤ W'.heap.size) (ha:∀ b,FltO R v M b→W'.heap[b]? = W.heap[b]?):Flt R v M cs fs W':=
 ⟨(ha R (.inl rfl)).trans h.1,owns_agree h.2.1 (fun g hg=>ha g (.inr (.inl hg))),h.2.2.1.agree (fun b hb=>ha b (.inr (.inr hb))),fun b hb=>by have:=h.2.2.2 b hb;exact ⟨this.1,by omega,this.2.2.1,by obtain ⟨c,t,f,hc⟩:=this.2.2.2;exact ⟨c,t,f,(ha b (.inr (.inr hb))).trans hc⟩⟩⟩
theorem Flt.lt {R:Nat} {v:Value} {M:Nat→Prop} {cs:List Value} {fs:List Fl} {W:World} (h:Flt R v M cs fs W):∀ b,FltO R v M b→R ≤ b∧b < W.heap.size:=by
 rintro b (rfl | hb | hb)
 · exact ⟨nl_ _,(ge_ h.1).1⟩
 · have:=h.2.1.lt b hb;exact ⟨by omega,this.2⟩
 · have:=h.2.2.2 b hb;exact ⟨by omega,this.2.1⟩
theorem flats_own (y:Fo) (a:Option Addr) (c:Nat) (S:Nat→Prop) (w:World) (hv:FSl S w (.slice a y.len c) y) (hS:∀ b,S b→b < w.heap.size) (hlen:y.len ≤ 1000) (hsm:y.Sm) (hcnt:y.cnt ≤ 900) :
 Calls Tryz.prog 64 #[.slice a y.len c] w fun e w'=>∃ a' c' cs M,e = .returned (.slice a' (flsL [] y).length c')∧w'.ownsRow w.heap.size 98 2 (.slice a' (flsL [] y).length c') (flsL [] y).length cs∧LCs xn_ M w' (flsL [] y) cs∧(∀ b,M b→w.heap.size ≤ b∧b < w'.heap.size∧(Value.slice a' (flsL [] y).length c').ownBlock ≠ some b)∧Below w.heap.size w w':=by
 refine (callsIn_wide (n:=9)).1 ?_
 refine callsIn_of_wp_marks Tryz.func64 rfl trivial ?_ rfl
 simp only [Tryz.ntmps64,List.size_toArray,List.length_cons,List.length_nil,Nat.reduceAdd,Nat.reduceSub,Array.replicate_succ,Array.replicate_zero,List.push_toArray,List.append_toArray,List.nil_append,List.cons_append]
 obtain ⟨i0,hi0,hz0,hz1,hz2⟩:=info_parts Tryz.info171''
 gi_wp2_with fail
 refine ⟨trivial,?_⟩
 gi_at_call 40
 refine (callsIn_wide.2 (kj_ _ _ _ _ _ _ _)).mono ?_
 rintro e w' ⟨rfl,rfl⟩
 gi_wp2_with fail
 obtain ⟨W0,hW0⟩:∃ W0,(((w.alloc (.cells #[.slice none 0 0] 90)).alloc (.cells #[.slice none 0 0] 92)).alloc (.cells #[.slice a y.len c] 38)) = W0:=⟨_,rfl⟩
 have hz:W0.heap.size = w.heap.size + 3:=by rw [← hW0];simp
 have hb0:W0.heap[w.heap.size]? = some (.cells #[.slice none 0 0] 90 (0,0)):=by rw [← hW0];exact qc_ _ (qc_ _ (World.alloc_heap_new _ _))
 have hb2:W0.cell? ⟨w.heap.size + 1,0,none⟩ = some (.slice none 0 0):=by rw [← hW0];have:=(qE_ (qc_ (.cells #[.slice a y.len c] 38) (zL_ (w.alloc (.cells #[.slice none 0 0] 90)) (.slice none 0 0) 92))).1;simpa using this
 have hb3:W0.cell? ⟨w.heap.size + 1 + 1,0,none⟩ = some (.slice a y.len c):=by rw [← hW0];have:=(qE_ (zL_ ((w.alloc (.cells #[.slice none 0 0] 90)).alloc (.cells #[.slice none 0 0] 92)) (.slice a y.len c) 38)).1;simpa using this
 have hbel:Below w.heap.size w W0:=by rw [← hW0];exact (((Below.refl _ _).alloc (nl_ _) _).alloc (by simp) _).alloc (by simp;omega) _
 rw [hW0]
 clear hW0
 obtain ⟨R,hR⟩:∃ R,w.heap.size = R:=⟨_,rfl⟩
 rw [hR] at hz hb0 hb2 hb3 hbel
 simp only [hR]
 refine kh_ (n:=9) (gf:=87) (lb:=#[.pointer (some ⟨R + 1,0,none⟩), .pointer (some ⟨R + 1 + 1,0,none⟩)]) rfl vN_
  (vr_ (R + 1) (R + 1 + 1) y [] none 0 a c S W0 hb2 hb3 (by omega) (by omega) ⟨rfl,none,0,rfl,nl_ _,by simp [maxLen],fun _=>rfl, .inl rfl⟩ (hv.agree (q9_ hbel (by rw [← hR];exact hS))) (fun b h=>by have:=hS b h;omega) hlen hsm (by simpa using hcnt))
  NdV.E_agree NdV.E_wide (fun _=>rfl)
  (fun pre O W=>∃ v M cs,O = FltO R v M∧Flt R v M cs (pre.map wx_) W∧Below R w W)
  (fun cd pre O W=>False)
  ?dep ?depx (FltO R (.slice none 0 0) (fun _=>False)) ?o0 ?ot ⟨_,_,[],rfl,⟨hb0,World.ownsRow_nil _ _ _ _,rfl,fun b hb=>hb.elim⟩,hbel⟩
  (fun x lo a₁ A=>∃ B,lo ≤ B∧A.heap[B]? = some (.cells #[.string (bs x.n), .slice x.an x.l.length x.cn, .slice x.ab x.s.len x.cb] 109 (0,0))∧a₁ = { tmps:=#[.slice a y.len c,undef, .slice none 0 0, .pointer (some ⟨R,0,none⟩), .slice x.ua x.up.length x.uc, .pointer (some ⟨B,0,none⟩), .slice a y.len c, .func (.func 87) #[] #[.pointer (some ⟨R + 1,0,none⟩), .pointer (some ⟨R + 1 + 1,0,none⟩)], .slice x.ua x.up.length x.uc, .agg #[.string (bs x.n), .slice x.an x.l.length x.cn, .slice x.ab x.s.len x.cb],undef,undef,undef,undef,undef,undef,undef,undef,undef,undef,undef,undef],defers:=[] })
  ?a1 ?assign ?body ?done ?stop
 case dep=>
  rintro pre O A B ⟨v,M,cs,rfl,h1,h4⟩ e1 e2 e3 e4 hh
  refine ⟨v,M,cs,rfl,h1.agree e4 fun k hk=>hh k (h1.lt k hk).2 (.inl hk),e1.trans h4.os,e2.trans h4.tape,e3.trans h4.output,by have:=h4.size;omega,fun k hk=>(hh k (by have:=h4.size;omega) (.inr (by omega))).trans (h4.block k hk)⟩
 case depx=>rintro cd pre O A B h;exact h.elim
 case o0=>
  rintro b (rfl | hb | hb)
  · refine ⟨by omega,fun h=>?_⟩
    rcases h with h | h | h
    · have:=hS _ h;omega
    · omega
    · omega
  · simp [Value.ownBlock] at hb
  · exact hb.elim
 case ot=>
  intro b h
  rcases h with h | h | h
  · have:=hS b h;omega
  · omega
  · omega
 case a1=>
  rintro x lo a₁ A B ⟨k,h1,h2,h3⟩ hh
  exact ⟨k,h1,(hh k h1).trans h2,h3⟩
 case assign=>
  intro l m x S' W K hE hK
  refine Eq.mpr (congrArg (fun T=>Code.wpIn (Fence.wide.inRound l) m Tryz.prog _ _ { tmps:=T,defers:=[] } W) (?_:_ = #[.slice a y.len c,undef, .slice none 0 0, .pointer (some ⟨R,0,none⟩),undef,undef, .slice a y.len c, .func (.func 87) #[] #[.pointer (some ⟨R + 1,0,none⟩), .pointer (some ⟨R + 1 + 1,0,none⟩)], .slice x.ua x.up.length x.uc, .agg #[.string (bs x.n), .slice x.an x.l.length x.cn, .slice x.ab x.s.len x.cb],undef,undef,undef,undef,undef,undef,undef,undef,undef,undef,undef,undef])) ?_
  · simp [NdV.encs]
  gi_wp2_with (rw [Oper.semAt_eq _ _ _ (fun c h=>by cases h)];go_simp;try go_bits)
  refine hK _ _ ((Below.refl _ _).alloc (nl_ _) _) ⟨W.heap.size,nl_ _,ha_ _ _,?_⟩
  rfl
 case body=>
  rintro l m pre x O lo a₁ W hpx ⟨v,M,cs,rfl,hfl,hB⟩ hlo hlo2 hOlo hE ⟨B,hBlo,hBc,rfl⟩
  have hE':=hid hE
  obtain ⟨hup,hI,hF,n1,n2,n3,n4,n5⟩:=hE
  have hBlt:=(ge_ hBc).1
  have hBR:∀ q,FltO R v M q→q ≠ B:=fun q hq e=>by have:=hOlo q hq;omega
  have hRW:=hfl.1
  have hRlt:=(ge_ hRW).1
  have hSx:∀ b,(b < lo∧¬ FltO R v M b)→b < W.heap.size:=fun b hb=>by omega
  obtain ⟨Sx,hSX⟩:∃ Sx:Nat→Prop,Sx = fun b=>b < lo∧¬ FltO R v M b:=⟨_,rfl⟩
  rw [← hSX] at hup hI hF
  have hSx':∀ b,Sx b→b < W.heap.size:=fun b hb=>by rw [hSX] at hb;exact hSx b hb
  have r0:=(qE_ hRW).1
  have m0:=cg_ hBc (k:=0) rfl
  have m1:=cg_ hBc (k:=1) rfl
  have m2:=cg_ hBc (k:=2) rfl
  gi_wp2_with fail
  refine zh_ (fun w'=>w'.cell? ⟨R,0,none⟩ = some v∧w'.cell? ⟨B,0,none⟩ = some (.string (bs x.n))∧w'.cell? ⟨B,1,none⟩ = some (.slice x.an x.l.length x.cn)∧w'.cell? ⟨B,2,none⟩ = some (.slice x.ab x.s.len x.cb)) 11 (by kernel_rfl) ?_
  have hS0:(fun w':World=>w'.cell? ⟨R,0,none⟩ = some v∧w'.cell? ⟨B,0,none⟩ = some (.string (bs x.n))∧w'.cell? ⟨B,1,none⟩ = some (.slice x.an x.l.length x.cn)∧w'.cell? ⟨B,2,none⟩ = some (.slice x.ab x.s.len x.cb)) W.drew:=⟨r0,m0,m1,m2⟩
  have hSb:∀ W1 W2:World,Below W1.heap.size W1 W2→W.heap.size ≤ W1.heap.size→(fun w':World=>w'.cell? ⟨R,0,none⟩ = some v∧w'.cell? ⟨B,0,none⟩ = some (.string (bs x.n))∧w'.cell? ⟨B,1,none⟩ = some (.slice x.an x.l.length x.cn)∧w'.cell? ⟨B,2,none⟩ = some (.slice x.ab x.s.len x.cb)) W1→(fun w':World=>w'.cell? ⟨R,0,none⟩ = some v∧w'.cell? ⟨B,0,none⟩ = some (.string (bs x.n))∧w'.cell? ⟨B,1,none⟩ = some (.slice x.an x.l.length x.cn)∧w'.cell? ⟨B,2,none⟩ = some (.slice x.ab x.s.len x.cb)) W2:=fun W1 W2 hb hz h=>
   ⟨bc_ hb (by omega) h.1,bc_ hb (by omega) h.2.1,bc_ hb (by omega) h.2.2.1,bc_ hb (by omega) h.2.2.2⟩
  refine qV_ (fun _=>trivial) (by kernel_rfl) 0 10 v rfl rfl (by kernel_rfl) (by kernel_rfl) (by kernel_rfl) (by decide) (by kernel_rfl) (fun _ _ _ h=>h) (.inl ⟨by rfl,fun w' hs=>?_⟩) hS0 ?_
  · obtain ⟨q0,q1,q2,q3⟩:=hs
    go_simp
  refine qV_ (fun _=>trivial) (by kernel_rfl) 1 11 (.slice x.ua x.up.length x.uc) rfl rfl (by kernel_rfl) (by kernel_rfl) (by kernel_rfl) (by decide) (by kernel_rfl) (fun _ _ _ h=>h) (.inl ⟨by rfl,fun w' hs=>?_⟩) hS0 ?_
  · go_simp
  refine qV_ (fun _=>trivial) (by kernel_rfl) 2 12 (.agg #[.string (bs x.n), .slice x.an x.l.length x.cn, .slice x.ab x.s.len x.cb]) rfl rfl (by kernel_rfl) (by kernel_rfl) (by kernel_rfl) (by decide) (by kernel_rfl) (fun _ _ _ h=>h) (.inl ⟨by rfl,fun w' hs=>?_⟩) hS0 ?_
  · obtain ⟨q0,q1,q2,q3⟩:=hs
    go_simp
  refine qV_ (fun _=>trivial) (by kernel_rfl) 5 15 (.pointer (some ⟨B,1,none⟩)) rfl rfl (by kernel_rfl) (by kernel_rfl) (by kernel_rfl) (by decide) (by kernel_rfl) (fun _ _ _ h=>h) (.inl ⟨by rfl,fun w' hs=>?_⟩) hS0 ?_
  · go_simp
  refine qV_ (fun _=>trivial) (by kernel_rfl) 6 16 (.slice x.an x.l.length x.cn) rfl rfl (by kernel_rfl) (by kernel_rfl) (by kernel_rfl) (by decide) (by kernel_rfl) (fun _ _ _ h=>h) (.inl ⟨by rfl,fun w' hs=>?_⟩) hS0 ?_
  · obtain ⟨q0,q1,q2,q3⟩:=hs
    go_simp
  refine qg_ (i:=3) (by kernel_rfl) rfl (by rfl) (by decide) (fun K hK=>?_)
  unfold Oper.wpIn
  rw [Oper.semAt_eq _ _ _ (fun c h=>by cases h)]
  go_simp
  refine ⟨trivial,fun h=>(by cases h),(CallsIn.inRound l (callsIn_wide.2 (zC_ x.n x.l x.an x.cn _ Sx W.drew (hI.agree fun b hb=>rfl) hSx' x.ab x.s.len x.cb rfl))).mono ?_⟩
  rintro e W4 ⟨rfl,hb4⟩
  replace hb4:Below W.heap.size W W4:=⟨hb4.os,hb4.tape,hb4.output,hb4.size,hb4.block⟩
  have hz4:=hb4.size
  have hS4:=hSb W _ hb4 (nl_ _) hS0
  refine hK _ _ ⟨hS4,?_⟩
  refine qg_ (i:=4) (by kernel_rfl) rfl (by rfl) (by decide) (fun K hK=>?_)
  unfold Oper.wpIn
  rw [Oper.semAt_eq _ _ _ (fun c h=>by cases h)]
  go_simp
  refine ⟨trivial,fun h=>(by cases h),(CallsIn.inRound l (callsIn_wide.2 (yO_ x.up (kyOf x.n x.l) x.ua x.uc Sx W4 (hup.agree (q9_ hb4 hSx')) (fun b hb=>by have:=hSx' b hb;omega) (by omega)))).mono ?_⟩
  rintro e W5 ⟨a5,c5,rfl,hp5,hb5⟩
  have hz5:=hb5.size
  have hS5:=hSb _ _ hb5 hz4 hS4
  refine hK _ _ ⟨hS5,?_⟩
  refine qg_ (i:=7) (by kernel_rfl) rfl (by rfl) (by decide) (fun K hK=>?_)
  unfold Oper.wpIn
  rw [Oper.semAt_eq _ _ _ (fun c h=>by cases h)]
  go_simp
  refine ⟨trivial,fun h=>(by cases h),(CallsIn.inRound l (callsIn_wide.2 (wg_ x.l x.an x.cn Sx W5 ((hI.agree (q9_ hb4 hSx')).agree (q9_ hb5 (fun b hb=>by have:=hSx' b hb;omega))) n2))).mono ?_⟩
  rintro e W6 ⟨a6,c6,rfl,hi6,hb6⟩
  have hz6:=hb6.size
  have hS6:=hSb _ _ hb6 (by omega) hS5
  refine hK _ _ ⟨hS6,?_⟩
  refine qV_ (fun _=>trivial) (by kernel_rfl) 8 18 (.agg #[.slice a5 (x.up.length + 1) c5, .slice a6 x.l.length c6]) rfl rfl (by kernel_rfl) (by kernel_rfl) (by kernel_rfl) (by decide) (by kernel_rfl) (fun _ _ _ h=>h) (.inl ⟨by rfl,fun w' hs=>?_⟩) hS6 ?_
  · go_simp
  refine qg_ (i:=9) (by kernel_rfl) rfl (by rfl) (by decide) (fun K hK=>?_)
  unfold Oper.wpIn
  rw [Oper.semAt_eq _ _ _ (fun c h=>by cases h)]
  go_simp
  have hb7:Below W6.heap.size W6 (W6.alloc (.cells #[.slice a5 (x.up.length + 1) c5, .slice a6 x.l.length c6] 98)):=(Below.refl _ _).alloc (nl_ _) _
  have hS7:=hSb _ _ hb7 (by omega) hS6
  refine hK _ _ ⟨hS7,?_⟩
  have hbW:Below W.heap.size W W6:=hb4.trans ((hb5.trans (hb6.mono hz5)).mono hz4)
  have hlp:(pre.map wx_).length ≤ 900:=by
   have:=hpx.length_le
   rw [qr_] at this
   simp at this ⊢;omega
  have ow6:W6.ownsRow (R + 1) 98 2 v (pre.map wx_).length cs:=owns_agree hfl.2.1 fun g hg=>hbW.block g (by have:=(hfl.2.1.lt g hg).2;omega)
  obtain ⟨a8,c8,W8,hr8,hown8,hgrow8,hat8⟩:=run_append_ao (P:=Tryz.prog) (W6.alloc (.cells #[.slice a5 (x.up.length + 1) c5, .slice a6 x.l.length c6] 98)) 90 90 (R + 1) 98 i0 _ 2 48 Tryz.underlying90 hi0 hz0 hz1 hz2 rfl (by omega) v (pre.map wx_).length cs (ow6.alloc _) (some ⟨W6.heap.size,0,none⟩) 1 1 [.slice a5 (x.up.length + 1) c5, .slice a6 x.l.length c6] rfl (fun h=>by cases h) (fun ad had=>by cases had;exact World.news_of_block (cs:=#[.slice a5 (x.up.length + 1) c5, .slice a6 x.l.length c6]) (t:=98) (fr:=(0,0)) (ha_ _ _)) (by simp [Value.oneCell']) (by unfold maxLen;omega) (by omega) (by simp;omega)
  have hRv:v.ownBlock ≠ some R:=fun e=>by have:=(hfl.2.1.lt R e).1;omega
  have hBv:v.ownBlock ≠ some B:=fun e=>hBR B (.inr (.inl e)) rfl
  have hS8:(fun w':World=>w'.cell? ⟨R,0,none⟩ = some v∧w'.cell? ⟨B,0,none⟩ = some (.string (bs x.n))∧w'.cell? ⟨B,1,none⟩ = some (.slice x.an x.l.length x.cn)∧w'.cell? ⟨B,2,none⟩ = some (.slice x.ab x.s.len x.cb)) W8:=⟨qh_ hgrow8 hRv hS7.1,qh_ hgrow8 hBv hS7.2.1,qh_ hgrow8 hBv hS7.2.2.1,qh_ hgrow8 hBv hS7.2.2.2⟩
  refine qg_ (i:=10) (by kernel_rfl) rfl (by rfl) (by decide) (fun K hK=>?_)
  refine zw_ (fun _=>trivial) rfl (zc_ rfl rfl rfl hr8) ?_
  refine hK _ _ ⟨hS8,?_⟩
  have f8:W8.frozen? ⟨R,0,none⟩ = false:=by
   have hR8:W8.heap[R]? = some (.cells #[v] 90 (0,0)):=(hgrow8.block R (by simp;omega) (fun e=>hRv e.symm)).trans ((heap_alloc_old _ _ (by omega)).trans ((hbW.block R hRlt).trans hRW))
   exact (qE_ hR8).2
  have r8:=hS8.1
  refine z1_ (by kernel_rfl) rfl (by rfl) (by kernel_rfl) (fun K hK=>?_)
  unfold Oper.wpIn
  rw [Oper.semAt_eq _ _ _ (fun c h=>by cases h)]
  go_simp
  refine hK _ _ ?_
  have hpl:(pre.map wx_).length = pre.length:=by simp
  rw [hpl] at hown8 hat8 hlp
  obtain ⟨W9,hW9⟩:∃ W9,W8.setCell ⟨R,0,none⟩ (.slice a8 (pre.length + 1) c8) = W9:=⟨_,rfl⟩
  have hz8:=hgrow8.size
  simp only [World.size_alloc] at hz8
  have hz9:W9.heap.size = W8.heap.size:=by rw [← hW9];simp [World.setCell]
  have hz65:W5.heap.size ≤ W6.heap.size:=hz6
  have hfar:∀ b,b < W6.heap.size→b ≠ R→v.ownBlock ≠ some b→W9.heap[b]? = W6.heap[b]?:=fun b hb h1 h2=>by
   rw [← hW9]
   exact (Below.heap_setCell _ _ _ _ h1).trans ((hgrow8.block b (by simp;omega) (fun e=>h2 e.symm)).trans (heap_alloc_old _ _ hb))
  have hvlt:∀ g,v.ownBlock = some g→R + 1 ≤ g∧g < W.heap.size:=fun g hg=>hfl.2.1.lt g hg
  have hag:∀ g,(Value.slice a8 (pre.length + 1) c8).ownBlock = some g→v.ownBlock = some g ∨ g = W6.heap.size + 1:=fun g hg=>(hat8 g hg).imp id (fun h=>by simpa using h)
  have hagM:qd_ M W W9:=fun b hb=>by
   have h1:=hfl.2.2.2 b hb
   exact (hfar b (by omega) (by omega) h1.2.2.1).trans (hbW.block b h1.2.1)
  have hagN:qd_ (fun b=>Rg W4.heap.size W6.heap.size b∧IsC W6 b) W6 W9:=fun b hb=>by
   have h1:=hb.1.1
   exact hfar b hb.1.2 (by omega) (fun e=>by have:=(hvlt b e).2;omega)
  have hp6:=((hp5.agree (q9_ hb6 (fun b hb=>hb.2))).wide (S':=Rg W4.heap.size W6.heap.size) (fun b hb=>⟨hb.1,by have:=hb.2;omega⟩))
  have hp9:=(SlC.onC hp6 (by omega)).agree hagN
  have hi9:=(SlC.onC (hi6.wide (S':=Rg W4.heap.size W6.heap.size) (fun b hb=>⟨by have:=hb.1;omega,hb.2⟩)) (by omega)).agree hagN
  have hR9:W9.heap[R]? = some (.cells #[.slice a8 (pre.length + 1) c8] 90 (0,0)):=by
   have hR8:W8.heap[R]? = some (.cells #[v] 90 (0,0)):=(hgrow8.block R (by simp;omega) (fun e=>hRv e.symm)).trans ((heap_alloc_old _ _ (by omega)).trans ((hbW.block R hRlt).trans hRW))
   rw [← hW9]
   simp [World.setCell,Array.getElem?_modify,hR8]
  have hown9:W9.ownsRow (R + 1) 98 2 (.slice a8 (pre.length + 1) c8) (pre.length + 1) (cs ++ [.slice a5 (x.up.length + 1) c5, .slice a6 x.l.length c6]):=owns_agree hown8 fun g hg=>by
   rw [← hW9]
   exact Below.heap_setCell _ _ _ _ (by have:=(hown8.lt g hg).1;simp;omega)
  have hM9:∀ b,(M b ∨ (Rg W4.heap.size W6.heap.size b∧IsC W6 b))→R < b∧b < W9.heap.size∧(Value.slice a8 (pre.length + 1) c8).ownBlock ≠ some b∧IsC W9 b:=by
   rintro b (hb | hb)
   · have h1:=hfl.2.2.2 b hb
     refine ⟨h1.1,by omega,fun e=>?_,?_⟩
     · rcases hag b e with h | h
       · exact h1.2.2.1 h
       · omega
     · obtain ⟨c',t',f',hc'⟩:=h1.2.2.2;exact ⟨c',t',f',(hagM b hb).trans hc'⟩
   · have h1:=hb.1.1
     have h2:=hb.1.2
     refine ⟨by omega,by omega,fun e=>?_,?_⟩
     · rcases hag b e with h | h
       · have:=(hvlt b h).2;omega
       · omega
     · obtain ⟨c',t',f',hc'⟩:=hb.2;exact ⟨c',t',f',(hagN b hb).trans hc'⟩
  have hkW:Keep (FltO R v M) W W9:=by
   rw [← hW9]
   exact (((Keep.of_below (O:=FltO R v M) hbW).alloc _).trans (Keep.grown hgrow8 (fun b hb => .inr (.inl hb)))).trans (Keep.setCell (p:=⟨R,0,none⟩) (.inl rfl))
  have hflt:Flt R (.slice a8 (pre.length + 1) c8) (fun b=>M b ∨ (Rg W4.heap.size W6.heap.size b∧IsC W6 b)) (cs ++ [.slice a5 (x.up.length + 1) c5, .slice a6 x.l.length c6]) ((pre ++ [x.dat]).map wx_) W9:=by
   refine ⟨hR9,by simpa using hown9,?_,hM9⟩
   rw [List.map_append]
   refine ((hfl.2.2.1.agree hagM).wide fun b hb => .inl hb).app (LCs.single ⟨a5,c5,a6,c6,?_,?_,hi9.wide fun b hb => .inr hb⟩)
   · simp [wx_,NdV.dat]
   · have:=hp9.wide (S':=fun b=>M b ∨ (Rg W4.heap.size W6.heap.size b∧IsC W6 b)) (fun b hb => .inr hb)
     simpa [wx_,NdV.dat,Pth] using this
  rw [hW9]
  refine ⟨FltO R (.slice a8 (pre.length + 1) c8) (fun b=>M b ∨ (Rg W4.heap.size W6.heap.size b∧IsC W6 b)),⟨_,_,_,rfl,hflt,?_⟩,hkW,?_,fun b hb=>(hflt.lt b hb).2⟩
  · exact hB.trans (hkW.below (by have:=hB.size;omega) fun b hb ho=>by have:=(hfl.lt b ho).1;omega)
  · rintro b (hb | hb | hb | hb)
    · exact .inl (.inl hb)
    · rcases hag b hb with h | h
      · exact .inl (.inr (.inl h))
      · exact .inr (by omega)
    · exact .inl (.inr (.inr hb))
    · exact .inr (by have:=hb.1.1;omega)
 case done=>
  rintro D O W ⟨v,M,cs,rfl,hfl,hB⟩ hD hK
  have c0:=(qE_ hfl.1).1
  gi_wp2_with fail
  refine ⟨by simp, .inl ⟨_,_,rfl,run_takeDeferred hK,?_⟩⟩
  have hlen2:(flsL [] y).length = ((qa_ [] y).map wx_).length:=by simp [flsL]
  have how:=hfl.2.1
  obtain ⟨a9,c9,rfl,_,_⟩:=owns_shape how
  have hfs:flsL [] y = (qa_ [] y).map wx_:=rfl
  rw [hfs]
  have hnd:∀ b,IsC W b→b ≠ D:=fun b hb e=>by
   subst e
   obtain ⟨c1,t1,f1,h1⟩:=hb
   rw [hK] at h1
   cases h1
  have hbD:∀ b,FltO R (.slice a9 ((qa_ [] y).map wx_).length c9) M b→(W.putObj D (.deferred none)).heap[b]? = W.heap[b]?:=fun b hb=>World.putObj_heap_other (by
   rcases hb with rfl | hb | hb
   · exact hnd _ ⟨_,_,_,hfl.1⟩
   · rcases how.2 with ⟨h,_⟩ | ⟨g,cap,cur,h,_,hg,_⟩
     · rw [h] at hb;simp [Value.ownBlock] at hb
     · rw [h] at hb
       simp only [Value.ownBlock,Option.some.injEq] at hb
       subst hb
       exact hnd _ ⟨_,_,_,hg⟩
   · exact hnd _ (hfl.2.2.2 b hb).2.2.2)
  have hfl2:=hfl.agree (W':=W.putObj D (.deferred none)) (by simp) hbD
  refine ⟨.slice a9 ((qa_ [] y).map wx_).length c9,by simp [results,Tryz.results64,go_sem],a9,c9,cs,M,rfl,qp_ hfl2.2.1 (fun g hg=>by have:=(hfl2.2.1.lt g hg).1;omega),hfl2.2.2.1,fun b hb=>?_,z3_ (by rw [hR];exact hB) (by omega)⟩
  have h2:=hfl2.2.2.2 b hb
  exact ⟨by omega,h2.2.1,h2.2.2.1⟩
 case stop=>rintro D cd pre O W hp h;exact h.elim
theorem vK_ (y:Fo) (a:Option Addr) (c:Nat) (S:Nat→Prop) (w:World) (hv:FSl S w (.slice a y.len c) y) (hS:∀ b,S b→b < w.heap.size) (hlen:y.len ≤ 1000) (hsm:y.Sm) (hcnt:y.cnt ≤ 900) :
 Calls Tryz.prog 64 #[.slice a y.len c] w fun e w'=>∃ a' c',e = .returned (.slice a' (flsL [] y).length c')∧FlSl (Rg w.heap.size w'.heap.size) w' (.slice a' (flsL [] y).length c') (flsL [] y)∧Below w.heap.size w w':=
 (flats_own y a c S w hv hS hlen hsm hcnt).mono fun _ _ ⟨a',c',cs,_,he,h1,h2,h3,hb⟩=>⟨a',c',he,⟨cs,SlC.of_owns h1,h2.wide fun b hb'=>⟨(h3 b hb').1,(h3 b hb').2.1⟩⟩,hb⟩
end Go.Proofs.LF