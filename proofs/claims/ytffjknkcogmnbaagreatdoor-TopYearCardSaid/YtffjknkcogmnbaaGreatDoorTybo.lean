/- Parts of the proof of a law of layer 11 (file): LbS19, LbS20p, LbS20, LbB17, LbT1, LbB18, LbB19, LbT2, LbT3, LbT4, LbT5, LbT6. The conditions stand in each theorem. -/
import Derived.Test.YtffjknkcogmnbaaGreatDoorProg
import Derived.Test.YtffjknkcogmnbaaGreatDoorTyaa
import Derived.Test.YtffjknkcogmnbaaGreatDoorTyac
import Derived.Test.YtffjknkcogmnbaaGreatDoorTyae
import Derived.Test.YtffjknkcogmnbaaGreatDoorTyag
import Derived.Test.YtffjknkcogmnbaaGreatDoorTyah
import Derived.Test.YtffjknkcogmnbaaGreatDoorTyai
import Derived.Test.YtffjknkcogmnbaaGreatDoorTyaj
import Derived.Test.YtffjknkcogmnbaaGreatDoorTyak
import Derived.Test.YtffjknkcogmnbaaGreatDoorTyal
import Derived.Test.YtffjknkcogmnbaaGreatDoorTyam
import Derived.Test.YtffjknkcogmnbaaGreatDoorTyan
import Derived.Test.YtffjknkcogmnbaaGreatDoorTyap
import Derived.Test.YtffjknkcogmnbaaGreatDoorTyaq
import Derived.Test.YtffjknkcogmnbaaGreatDoorTyar
import Derived.Test.YtffjknkcogmnbaaGreatDoorTyas
import Derived.Test.YtffjknkcogmnbaaGreatDoorTyat
import Derived.Test.YtffjknkcogmnbaaGreatDoorTyau
import Derived.Test.YtffjknkcogmnbaaGreatDoorTyav
import Derived.Test.YtffjknkcogmnbaaGreatDoorTyaw
import Derived.Test.YtffjknkcogmnbaaGreatDoorTyax
import Derived.Test.YtffjknkcogmnbaaGreatDoorTyaz
import Derived.Test.YtffjknkcogmnbaaGreatDoorTybg
import Derived.Test.YtffjknkcogmnbaaGreatDoorTybi
import Derived.Test.YtffjknkcogmnbaaGreatDoorTybk
import Derived.Test.YtffjknkcogmnbaaGreatDoorTybm
import Derived.Test.YtffjknkcogmnbaaGreatDoorTybn
set_option linter.all false
set_option linter.unusedVariables false
set_option linter.unusedSimpArgs false
namespace Go.Proofs.LS
open Go.RowKit Go.Sort Go.Proofs.LF Go.Proofs.LB
set_option maxHeartbeats 4000000
set_option maxRecDepth 100000
attribute [local go_sem] q1_ q2_ q8_
theorem Tryz.info27':(Tryz.prog.info? 27).map (fun i=>(i.zero,i.size,i.bytes)) = some (some (.slice none 0 0),1,24):=by kernel_rfl
theorem Tryz.info3':(Tryz.prog.info? 3).map (fun i=>(i.zero,i.size,i.bytes)) = some (some (.int .i64 0),1,8):=by kernel_rfl
theorem make55 (N:Nat) (hN:N ≤ 1000) (W:World):∃ cs:Array Value,cs.size = N∧(Instr.makeSlice 55 (.int .i64 (N:Int)) (.int .i64 (N:Int))).run Tryz.prog W = .ok (.slice (some ⟨W.heap.size,0,none⟩) N N) (W.alloc (.cells cs 27)):=by
 obtain ⟨i0,hi0,hz0,hz1,hz2⟩:=info_parts Tryz.info27'
 refine ⟨madeCells (Value.slice none 0 0).cells (N * i0.size),by rw [zo_,hz1,Nat.mul_one],?_⟩
 exact kf_ (P:=Tryz.prog) 55 27 i0 _ Tryz.underlying55 hi0 hz0 .i64 .i64 N N (nl_ _) (by rw [hz2];omega) (by omega) W
theorem make27 (N:Nat) (hN:N ≤ 1000):∃ cs:Array Value,cs.size = N∧∀ W,(Instr.makeSlice 27 (.int .i64 (N:Int)) (.int .i64 (N:Int))).run Tryz.prog W = .ok (.slice (some ⟨W.heap.size,0,none⟩) N N) (W.alloc (.cells cs 3)):=by
 obtain ⟨i0,hi0,hz0,hz1,hz2⟩:=info_parts Tryz.info3'
 refine ⟨madeCells (Value.int .i64 0).cells (N * i0.size),by rw [zo_,hz1,Nat.mul_one],fun W=>?_⟩
 exact kf_ (P:=Tryz.prog) 27 3 i0 _ Tryz.underlying27 hi0 hz0 .i64 .i64 N N (nl_ _) (by rw [hz2];omega) (by omega) W
structure ShS (nS nC b0 k:Nat) (w W:World):Prop where
 b:Below b0 w W
 t:∃ tb:Array Value,tb.size = nC∧W.heap[b0]? = some (.cells tb 27 (0,0))∧∀ r,r < k→∃ b cs,tb[r]? = some (.slice (some ⟨b,0,none⟩) nS nS)∧b0 < b∧W.heap[b]? = some (.cells cs 3 (0,0))∧cs.size = nS
theorem ShS.below {nS nC b0 k:Nat} {w W W':World} (h:ShS nS nC b0 k w W) (hb:Below W.heap.size W W'):ShS nS nC b0 k w W':=by
 obtain ⟨tb,h1,h2,h3⟩:=h.t
 have hl:=(ge_ h2).1
 refine ⟨h.b.trans (hb.mono (by omega)),tb,h1,q0_ h2 hb,fun r hr=>?_⟩
 obtain ⟨b,cs,a1,a2,a3,a4⟩:=h3 r hr
 exact ⟨b,cs,a1,a2,q0_ a3 hb,a4⟩
theorem ShS.row {nS nC b0 k:Nat} {w W:World} (h:ShS nS nC b0 k w W) {cs:Array Value} (hs:cs.size = nS) {bn:Nat} (hn:W.heap[bn]? = some (.cells cs 3 (0,0))) (hb:b0 < bn) (hk:k < nC):ShS nS nC b0 (k + 1) w (W.setCell ⟨b0,k,none⟩ (.slice (some ⟨bn,0,none⟩) nS nS)):=by
 obtain ⟨tb,h1,h2,h3⟩:=h.t
 refine ⟨h.b.setCell (p:=⟨b0,k,none⟩) (nl_ _) _,tb.setIfInBounds k (.slice (some ⟨bn,0,none⟩) nS nS),by simpa using h1,qe_ h2,fun r hr=>?_⟩
 by_cases e:r = k
 · subst e
   exact ⟨bn,cs,by simp [h1,hk],hb,(Below.heap_setCell _ _ _ _ (by simp;omega)).trans hn,hs⟩
 · obtain ⟨b,cs',a1,a2,a3,a4⟩:=h3 r (by omega)
   exact ⟨b,cs',by rw [Array.getElem?_setIfInBounds_ne (by omega)];exact a1,a2,(Below.heap_setCell _ _ _ _ (by simp;omega)).trans a3,a4⟩
theorem ShS.put {nS nC b0 k:Nat} {w W:World} (h:ShS nS nC b0 k w W) {bn j:Nat} (u:Value) (hb:b0 < bn):ShS nS nC b0 k w (W.setCell ⟨bn,j,none⟩ u):=by
 obtain ⟨tb,h1,h2,h3⟩:=h.t
 refine ⟨h.b.setCell (p:=⟨bn,j,none⟩) (by simp;omega) _,tb,h1,(Below.heap_setCell _ _ _ _ (by simp;omega)).trans h2,fun r hr=>?_⟩
 obtain ⟨b,cs',a1,a2,a3,a4⟩:=h3 r (by omega)
 by_cases e:b = bn
 · subst e
   exact ⟨b,cs'.setIfInBounds j u,a1,a2,qe_ a3,by simpa using a4⟩
 · exact ⟨b,cs',a1,a2,(Below.heap_setCell _ _ _ _ (by simpa using e)).trans a3,a4⟩
theorem wl_ (B N D M nS nC:Nat) (as_ ac:Option Addr) (cs_ cc:Nat) (v:Value) (ws:List Way) (w:World) (hN:NetS B N v ws w) (hlen:ws.length ≤ 100) (hD:w.heap[D]? = some (.cells #[.slice as_ nS cs_, .slice ac nC cc, .map (some M)] 221 (0,0))) (hnS:nS ≤ 100) (hnC:nC ≤ 100)
 (hw:∀ x ∈ ws,x.f ≠ 0→x.t ≠ 0→1 ≤ x.f∧x.f ≤ nS∧7 ≤ x.t∧x.t < 7 + nC) :
 Calls Tryz.prog 69 #[.pointer (some ⟨N,0,none⟩), .pointer (some ⟨D,0,none⟩)] w fun e w'=>(∃ r,e = .returned r)∧Below w.heap.size w w':=by
 have HN:=hid hN
 have HW:=hid hw
 have hDl:=(ge_ hD).1
 obtain ⟨va,vc,hve,hvc,_⟩:=owns_shape hN.own
 have HVE:=hid hve
 have HD:=hid hD
 obtain ⟨c0,hc0,hmk0⟩:=make55 nC (by omega) w
 obtain ⟨c1,hc1,hmk1⟩:=make27 nS (by omega)
 have d1:=cg_ hD (k:=1) (v := .slice ac nC cc) rfl
 obtain ⟨w1,hw1⟩:∃ x,w.alloc (.cells c0 27) = x:=⟨_,rfl⟩
 have hb1:Below w.heap.size w w1:=by rw [← hw1];exact (Below.refl _ _).alloc (nl_ _) _
 have hn1:w1.heap[w.heap.size]? = some (.cells c0 27 (0,0)):=by rw [← hw1];exact ha_ _ _
 obtain ⟨b0,hb0⟩:∃ b,w.heap.size = b:=⟨_,rfl⟩
 have S1:=hid (show ShS nS nC b0 0 w w1 from ⟨hb0 ▸ hb1,c0,hc0,hb0 ▸ hn1,fun r hr=>by omega⟩)
 have HB0:=hid hb0
 have HDL:=hid (show D < b0 from hb0 ▸ hDl)
 rw [hw1] at hmk0
 clear hN hw hve hD hb1 hn1 hc0
 go_enter Tryz.func69,Tryz.ntmps69
 go_wp2_with fail
 try rw [hw1]
 try simp only [hb0]
 clear hw1 hb0 hmk0 d1 hDl c0
 go_loopw [18] (fun vi wr=>∃ k:Nat,k ≤ nC∧vi = .int .i64 k∧Hid (ShS nS nC b0 k w wr)) (fun vi _=>nC - (intOf vi).toNat)
 case atStart=>exact ⟨0,by omega,rfl,S1.out⟩
 case round=>
  clear S1 w1
  obtain ⟨k,hk,rfl,HS⟩:=hrel
  by_cases hlt:k < nC
  · have hlt':(k:Int) < (nC:Int):=by omega
    have h0:(0:Int) ≤ (k:Int):=by omega
    obtain ⟨tb,t1,t2,t3⟩:=HS.out.t
    have hbl:=(ge_ t2).1
    have d0:=cg_ (q0_ HD.out (HB0.out ▸ HS.out.b:Below w.heap.size w wr)) (k:=0) (v := .slice as_ nS cs_) rfl
    obtain ⟨w2,hw2⟩:∃ w2,wr.alloc (.cells c1 3) = w2:=⟨_,rfl⟩
    have hb2:Below wr.heap.size wr w2:=by rw [← hw2];exact (Below.refl _ _).alloc (nl_ _) _
    have hn2:w2.heap[wr.heap.size]? = some (.cells c1 3 (0,0)):=by rw [← hw2];exact ha_ _ _
    have SR:=hid ((HS.out.below hb2).row hc1 hn2 hbl hlt)
    obtain ⟨tk,htk⟩:∃ y,tb[k]? = some y:=⟨tb[k]'(by omega),by simp⟩
    have u0:=cg_ (q0_ t2 hb2) (k:=k) htk
    have u1:=q5_ (q0_ t2 hb2) (k:=k)
    have hmkr:=hmk1 wr
    rw [hw2] at hmkr
    clear t1 t2 t3 hb2 hn2 HS htk
    go_wp2_with fail
    try rw [hw2]
    clear hw2 hmkr u0 u1 d0
    go_roundw
    case rel=>exact ⟨k + 1,by omega,by go_num,SR.out⟩
    case measure=>simp [intOf];omega
  · have hkn:nC = k:=by omega
    subst hkn
    have n0:=cg_ (HN.out.below (HB0.out ▸ HS.out.b:Below w.heap.size w wr)).n (k:=0) (v := .slice va ws.length vc) (by rw [HVE.out];rfl)
    go_wp2_with fail
    clear n0
    go_loopw [37] (fun vi wk=>∃ i:Nat,i ≤ ws.length∧vi = .int .i64 i∧Hid (ShS nS nC b0 nC w wk)) (fun vi _=>ws.length - (intOf vi).toNat)
    case atStart=>exact ⟨0,by omega,rfl,HS⟩
    case round=>
     clear HS
     obtain ⟨i,hi,rfl,HS⟩:=hrel
     by_cases hlt2:i < ws.length
     · have hltI:(i:Int) < (ws.length:Int):=by omega
       have hi0:(0:Int) ≤ (i:Int):=by omega
       have hNr:=HN.out.below (HB0.out ▸ HS.out.b:Below w.heap.size w wr)
       obtain ⟨g,gc,hv2,hgB,hgl,hgc,hgm,hat⟩:=hNr.at hlt2
       rw [HVE.out] at hv2
       obtain ⟨rfl,rfl⟩:va = some ⟨g,0,none⟩∧vc = gc:=by simpa using hv2
       obtain ⟨x,hx⟩:∃ x,ws[i] = x:=⟨_,rfl⟩
       have hxW:=HW.out x (by rw [← hx];exact List.getElem_mem hlt2)
       rw [hx] at hat
       have e0:=(hat 0 _ rfl).1
       rw [Nat.add_zero] at e0
       have e1:=(hat 1 _ rfl).1
       have e2:=(hat 2 _ rfl).1
       have e3:=(hat 3 _ rfl).1
       have e4:=(hat 4 _ rfl).1
       have e5:=(hat 5 _ rfl).1
       obtain ⟨w2,hw2⟩:∃ w2,wr.alloc (.cells #[.int .i64 x.f, .int .i64 x.t, .int .i64 x.lo, .int .i64 x.hi, .int .i64 x.cost, .int .i64 x.goes] 229) = w2:=⟨_,rfl⟩
       have hb2:Below wr.heap.size wr w2:=by rw [← hw2];exact (Below.refl _ _).alloc (nl_ _) _
       have hn2:w2.heap[wr.heap.size]? = some (.cells (wC x) 229 (0,0)):=by rw [← hw2];exact ha_ _ _
       have hz2:wr.heap.size < w2.heap.size:=by rw [← hw2];simp
       have z0:=cg_ hn2 (k:=0) (v := .int .i64 x.f) rfl
       have z1:=cg_ hn2 (k:=1) (v := .int .i64 x.t) rfl
       have S2:=hid (HS.out.below hb2)
       obtain ⟨bx,hbx⟩:∃ b,wr.heap.size = b:=⟨_,rfl⟩
       have hbxs:∀ b0',(∃ o,wr.heap[b0']? = some o)→b0' < bx:=fun b0' ⟨o,ho⟩=>by rw [← hbx];exact (ge_ ho).1
       rw [hbx] at hn2 z0 z1
       have NX:=hid hn2
       unfold maxLen at hgm
       have SOLD:=hid HS.out.t
       have HB2:=hid hb2
       clear hat hx hn2 hNr hv2 hb2 HS
       by_cases hf:x.f = 0
       · have hfI:(x.f:Int) = 0:=by omega
         go_wp2_with fail
         go_roundw
         case rel=>exact ⟨i + 1,by omega,by go_num,hid (by have:=S2.out;rw [← hw2,hf] at this;exact this)⟩
         case measure=>simp [intOf];omega
       · have hfI:¬ (x.f:Int) = 0:=by omega
         by_cases ht:x.t = 0
         · have htI:(x.t:Int) = 0:=by omega
           go_wp2_with fail
           go_roundw
           case rel=>exact ⟨i + 1,by omega,by go_num,hid (by have:=S2.out;rw [← hw2,ht] at this;exact this)⟩
           case measure=>simp [intOf];omega
         · have htI:¬ (x.t:Int) = 0:=by omega
           have hr:=hxW hf ht
           obtain ⟨r,hre⟩:∃ r,x.t = r + 7:=⟨x.t - 7,by omega⟩
           obtain ⟨j,hje⟩:∃ j,x.f = j + 1:=⟨x.f - 1,by omega⟩
           have hrC:r < nC:=by omega
           have hjS:j < nS:=by omega
           have hrI:(r:Int) < (nC:Int):=by omega
           have hr0:(0:Int) ≤ (r:Int):=by omega
           have hjI:(j:Int) < (nS:Int):=by omega
           have hj0:(0:Int) ≤ (j:Int):=by omega
           have hwp1:IntKind.i64.wrap ((x.t:Int) - 1) = ((r + 6:Nat):Int):=by rw [IntWalk.i64_in _ (by omega)];omega
           have hwp2:IntKind.i64.wrap (r:Int) = (r:Int):=IntWalk.i64_in _ (by omega)
           have hwp3:IntKind.i64.wrap ((x.f:Int) - 1) = (j:Int):=by rw [IntWalk.i64_in _ (by omega)];omega
           clear hre hje
           obtain ⟨tb,t1,t2,t3⟩:=SOLD.out
           obtain ⟨b,cs,a1,a2,a3,a4⟩:=t3 r hrC
           have hbbx:b < bx:=hbxs b ⟨_,a3⟩
           have T2:=hid (q0_ t2 HB2.out)
           have A1:=hid a1
           have A3:=hid (q0_ a3 HB2.out)
           clear t2 t3 a1 a3 hbxs
           go_upto_region 11 with fail
           rotate_left
           · exfalso
             rename_i h
             rcases h with h | h
             · simp [hf] at h
             · simp [ht] at h
           try rw [hw2]
           try simp only [hbx]
           obtain ⟨x0,hx0⟩:∃ y,w2.drew = y:=⟨_,rfl⟩
           have hbd:Below w2.heap.size w2 x0:=by rw [← hx0];exact (Below.refl _ w2).drew
           have hS0:x0.cell? ⟨b0,r,none⟩ = some (.slice (some ⟨b,0,none⟩) nS nS)∧x0.cell? ⟨bx,0,none⟩ = some (.int .i64 x.f)∧x0.cell? ⟨bx,1,none⟩ = some (.int .i64 x.t)∧x0.cell? ⟨bx,5,none⟩ = some (.int .i64 x.goes):=⟨cg_ (q0_ T2.out hbd) (k:=r) A1.out,cg_ (q0_ NX.out hbd) (k:=0) rfl,cg_ (q0_ NX.out hbd) (k:=1) rfl,cg_ (q0_ NX.out hbd) (k:=5) rfl⟩
           have S3:=hid (S2.out.below hbd)
           have T3:=hid (q0_ T2.out hbd)
           have A4:=hid (q0_ A3.out hbd)
           have NX3:=hid (q0_ NX.out hbd)
           clear hbd T2 A3 NX S2 SOLD HB2 hw2 hbx z0 z1 e0 e1 e2 e3 e4 e5
           refine (wpIn_wide (n:=9)).1 ?_
           refine q6_ (fun V:World=>V.cell? ⟨b0,r,none⟩ = some (.slice (some ⟨b,0,none⟩) nS nS)∧V.cell? ⟨bx,0,none⟩ = some (.int .i64 x.f)∧V.cell? ⟨bx,1,none⟩ = some (.int .i64 x.t)∧V.cell? ⟨bx,5,none⟩ = some (.int .i64 x.goes)) (by kernel_rfl) ?_
           rw [hx0]
           clear hx0
           refine tkZ 0 49 (.slice (some ⟨b0,0,none⟩) nC nC) rfl rfl hS0 ?_
           refine tkZ 1 50 (.pointer (some ⟨bx,1,none⟩)) rfl rfl hS0 ?_
           refine tkZ 2 51 (.int .i64 x.t) rfl rfl hS0 ?_
           refine tkZ 3 52 (.int .i64 (((r + 6:Nat):Int))) rfl rfl hS0 ?_
           refine tkZ 4 53 (.int .i64 r) rfl rfl hS0 ?_
           refine tkZ 5 54 (.pointer (some ⟨b0,r,none⟩)) rfl rfl hS0 ?_
           refine tkZ 6 55 (.slice (some ⟨b,0,none⟩) nS nS) rfl rfl hS0 ?_
           refine tkZ 7 56 (.pointer (some ⟨bx,0,none⟩)) rfl rfl hS0 ?_
           refine tkZ 8 57 (.int .i64 x.f) rfl rfl hS0 ?_
           refine tkZ 9 58 (.int .i64 j) rfl rfl hS0 ?_
           refine tkZ 10 59 (.pointer (some ⟨bx,5,none⟩)) rfl rfl hS0 ?_
           refine tkZ 11 60 (.int .i64 x.goes) rfl rfl hS0 ?_
           refine tkZ 12 61 (.pointer (some ⟨b,j,none⟩)) rfl rfl hS0 ?_
           refine aHO 13 rfl fun K hK=>?_
           obtain ⟨cj,hcj⟩:∃ y,cs[j]? = some y:=⟨cs[j]'(by omega),by simp⟩
           have z0:=cg_ A4.out (k:=j) hcj
           have z1:=q5_ A4.out (k:=j)
           go_simp
           have S4:=hid (S3.out.put (j:=j) (.int .i64 x.goes) a2)
           have hne:∀ k,k ≠ b→(x0.setCell ⟨b,j,none⟩ (.int .i64 x.goes)).heap[k]? = x0.heap[k]?:=fun k hk=>Below.heap_setCell _ _ _ _ (by simpa using hk)
           refine hK _ _ ⟨⟨cg_ ((hne b0 (by omega)).trans T3.out) (k:=r) A1.out,cg_ ((hne bx (by omega)).trans NX3.out) (k:=0) rfl,cg_ ((hne bx (by omega)).trans NX3.out) (k:=1) rfl,cg_ ((hne bx (by omega)).trans NX3.out) (k:=5) rfl⟩,?_⟩
           clear hK z0 z1 hS0 hne hcj
           refine q7_ (by kernel_rfl) ?_
           go_simp
           go_wp2_with fail
           go_roundw
           case rel=>exact ⟨i + 1,by omega,by go_num,S4.out⟩
           case measure=>simp [intOf];omega
     · have hin:i = ws.length:=by omega
       subst hin
       go_wp2_with fail
       go_ret
       exact ⟨⟨_,rfl⟩,by rw [HB0.out];exact HS.out.b⟩
def LdW (S:List St) (C:List Sp) (x:Way):Prop:=x.f < 12∧x.t < 12∧x.f ≠ x.t∧(0 ≤ x.lo∧x.lo ≤ 1000000)∧(0 ≤ x.hi∧x.hi ≤ 1000000)∧x.goes = 0∧(0 ≤ x.cost∧x.cost ≤ 1)∧(x.f ≠ 0→x.t ≠ 0→1 ≤ x.f∧x.f ≤ S.length∧7 ≤ x.t∧x.t < 7 + C.length)
theorem jS_ {α:Type} {l:List α} {k:Nat} {d:α} (h:k < l.length):l.getD k d ∈ l:=by
 rw [List.getD_eq_getElem?_getD,List.getElem?_eq_getElem h];exact List.getElem_mem h
theorem ld_st {S:List St} {C:List Sp} (hO:OkSc S C) {k:Nat} (hk:k < S.length):LdW S C ⟨0,1 + k,(kh_ (S.getD k ⟨0,0,0,0,0,0,0⟩)).lo,(kh_ (S.getD k ⟨0,0,0,0,0,0,0⟩)).hi,0,0⟩:=by
 obtain ⟨x,hx⟩:∃ x,S.getD k ⟨0,0,0,0,0,0,0⟩ = x:=⟨_,rfl⟩
 have hm:x ∈ S:=by rw [← hx];exact jS_ hk
 rw [hx]
 have hsp:(⟨x.ll,x.lh⟩:Sp) ∈ qO_ S C∧(⟨x.sl,x.sh⟩:Sp) ∈ qO_ S C∧(⟨x.el,x.eh⟩:Sp) ∈ qO_ S C:=by
  refine ⟨?_,?_,?_⟩ <;> exact List.mem_append_right _ (List.mem_flatMap.2 ⟨x,hm,by simp [spL]⟩)
 have h1:=v4_ (hO.sp _ hsp.1).1
 have h2:=v4_ (hO.sp _ hsp.2.1).1
 have h3:=v4_ (hO.sp _ hsp.2.2).1
 have h4:=hO.go x hm
 have hs:=hO.s
 simp only [kh_] at h4 h1 h2 h3 ⊢
 refine ⟨by simp,by simp only;omega,by simp only;omega,by simp only;omega,by simp only;omega,rfl,by simp,fun h=>absurd rfl h⟩
theorem ld_sp {S:List St} {C:List Sp} (hO:OkSc S C) {t:Nat} (ht:t < C.length):LdW S C ⟨7 + t,0,(C.getD t ⟨0,0⟩).lo,(C.getD t ⟨0,0⟩).hi,0,0⟩:=by
 obtain ⟨x,hx⟩:∃ x,C.getD t ⟨0,0⟩ = x:=⟨_,rfl⟩
 have hm:x ∈ C:=by rw [← hx];exact jS_ ht
 rw [hx]
 have hsp:x ∈ qO_ S C:=List.mem_append_left _ hm
 have h1:=v4_ (hO.sp _ hsp).1
 have hc:=hO.c
 refine ⟨by simp only;omega,by simp,by simp only;omega,by simp only;omega,by simp only;omega,rfl,by simp,fun _ h=>absurd rfl h⟩
theorem ld_r {S:List St} {C:List Sp} (hO:OkSc S C) {t:Nat} (ht:t < C.length):∀ x ∈ laidR S t,LdW S C x:=by
 intro x hx
 obtain ⟨k,hk,rfl⟩:=List.mem_map.1 hx
 have hk':k < S.length:=by have:=(List.mem_filter.1 hk).1;simpa using this
 have hc:=hO.c
 have hs:=hO.s
 have hot:0 ≤ oth S t k∧oth S t k ≤ 1:=by rw [oth];split <;> omega
 refine ⟨by simp only;omega,by simp only;omega,by simp only;omega,by simp,by simp,rfl,hot,fun _ _=>by simp only;omega⟩
theorem j9_ {S:List St} {C:List Sp} (hO:OkSc S C):∀ x ∈ laid S C,LdW S C x:=by
 have h1:∀ k,k ≤ S.length→∀ x ∈ v1_ S k,LdW S C x:=by
  intro k hk
  induction k with
  | zero=>intro x hx;cases hx
  | succ k ih=>
    intro x hx
    rcases List.mem_append.1 hx with h | h
    · exact ih (by omega) x h
    · rw [List.mem_singleton.1 h];exact ld_st hO (by omega)
 have h2:∀ t,t ≤ C.length→∀ x ∈ laidT S C t,LdW S C x:=by
  intro t ht
  induction t with
  | zero=>exact h1 _ (nl_ _)
  | succ t ih=>
    intro x hx
    rcases List.mem_append.1 hx with h | h
    · rcases List.mem_append.1 h with h | h
      · exact ih (by omega) x h
      · exact ld_r hO (by omega) x h
    · rw [List.mem_singleton.1 h];exact ld_sp hO (by omega)
 exact h2 _ (nl_ _)
theorem xM_ {S:List St} {C:List Sp} (hO:OkSc S C):Flow (laid S C):=by
 have h:∀ i,i < (laid S C).length→LdW S C (at_ (laid S C) i):=fun i hi=>by rw [kH_ hi];exact j9_ hO _ (List.getElem_mem hi)
 refine ⟨fun i hi=>⟨(h i hi).1,(h i hi).2.1,(h i hi).2.2.1⟩,fun i hi=>(h i hi).2.2.2.1.1,fun i hi=>?_,fun v hv=>?_⟩
 · rw [(h i hi).2.2.2.2.2.1];exact ⟨by omega,(h i hi).2.2.2.2.1.1⟩
 · rw [nt]
   exact zz_ fun i hi=>by
    rw [gs,(h i hi).2.2.2.2.2.1]
    simp
theorem xf_ {S:List St} {C:List Sp} (hO:OkSc S C):WB0 (laid S C):=fun i hi=>by
 have h:=j9_ hO _ (List.getElem_mem hi)
 rw [← kH_ hi] at h
 exact ⟨h.2.2.2.1.2,h.2.2.2.2.1.2,h.2.2.2.2.2.2.1.1,h.2.2.2.2.2.2.1.2⟩
theorem ends_laid {S:List St} {C:List Sp} (hO:OkSc S C) {ws:List Way} (hS:z5_ (laid S C) ws):∀ x ∈ ws,x.f ≠ 0→x.t ≠ 0→1 ≤ x.f∧x.f ≤ S.length∧7 ≤ x.t∧x.t < 7 + C.length:=by
 intro x hx h1 h2
 obtain ⟨i,hi,rfl⟩:=List.mem_iff_getElem.1 hx
 have hi':i < (laid S C).length:=by rw [hS.len];exact hi
 have h:=j9_ hO _ (List.getElem_mem hi')
 rw [← kH_ hi'] at h
 rw [← kH_ hi] at h1 h2 ⊢
 have he:=hS.at i
 rw [← he.1] at h1 ⊢
 rw [← he.2.1] at h2 ⊢
 exact h.2.2.2.2.2.2.2 h1 h2
theorem Least_any (S:List St) (C:List Sp) (xs:List Way) (as_ ac:Option Addr) (cs_ cc:Nat) (Bl:Nat→Prop) (w:World) (hs:LSl rdSt Bl w (.slice as_ S.length cs_) S) (hc:LSl rdSp Bl w (.slice ac C.length cc) C) (hB:∀ b,Bl b→b < w.heap.size) (hO:OkSc S C) (hx:Fit xs) (hS:z5_ (laid S C) xs) :
 Calls Tryz.prog 23 #[.agg #[.slice as_ S.length cs_, .slice ac C.length cc]] w fun e w'=>∃ r ws,e = .returned (.tuple #[r, .int .i64 (costW ws), .int .i64 0])∧Fit ws∧z5_ (laid S C) ws∧(∀ ys,z5_ (laid S C) ys→Fit ys→costW ws ≤ costW ys)∧Below w.heap.size w w':=by
 have hlen:(laid S C).length ≤ 41:=by
  have a1:=kQ_ S C C.length
  have a2:=hO.s
  have a3:=hO.c
  have a4:C.length * (S.length + 1) ≤ 35:=Nat.le_trans (Nat.mul_le_mul (show C.length ≤ 5 by omega) (show S.length + 1 ≤ 7 by omega)) (nl_ _)
  rw [laid];omega
 obtain ⟨w1,hw1⟩:∃ w1,w.alloc (.cells #[.slice as_ S.length cs_, .slice ac C.length cc] 60) = w1:=⟨_,rfl⟩
 have hb1:Below w.heap.size w w1:=by rw [← hw1];exact (Below.refl _ _).alloc (nl_ _) _
 have hn1:w1.heap[w.heap.size]? = some (.cells #[.slice as_ S.length cs_, .slice ac C.length cc] 60 (0,0)):=by rw [← hw1];exact ha_ _ _
 have c0:=cg_ hn1 (k:=0) (v := .slice as_ S.length cs_) rfl
 have c1:=cg_ hn1 (k:=1) (v := .slice ac C.length cc) rfl
 have OP:=hid (vh_ S C as_ ac cs_ cc Bl w1 (hs.agree (qc_ hb1 hB)) (hc.agree (qc_ hb1 hB)) (fun b hb=>by have:=hB b hb;have:=hb1.size;omega) hO)
 have HSs:=hid hs
 have HCs:=hid hc
 have HB:=hid hB
 have HO:=hid hO
 have HX:=hid hx
 have HSX:=hid hS
 have B1:=hid hb1
 have hOs:=hO.s
 have hOc:=hO.c
 clear hs hc hB hO hx hS hb1 hn1
 go_enter Tryz.func23,Tryz.ntmps23
 go_upto_region 1 with fail
 try rw [hw1]
 clear hw1
 go_wp2_with fail
 refine OP.out.mono ?_
 rintro e w2 ⟨M,rfl,hM,hD2,⟨Nm,hM2⟩,hb2⟩
 have B2:=hid (B1.out.trans (hb2.mono B1.out.size))
 have D2:=hid hD2
 have M2:=hid hM2
 have TH:=hid (theft_any (M + 1) w2)
 have hz1:=B1.out.size
 clear OP hb2 hD2 hM2 c0 c1
 go_wp2_with fail
 refine TH.out.mono ?_
 rintro e w3 ⟨b1,rfl,hb1',hF3,hb3⟩
 have B3:=hid (B2.out.trans (hb3.mono B2.out.size))
 have D3:=hid (q0_ D2.out hb3)
 have FI:=hid (w9_ S C xs M (M + 1) b1 Nm as_ ac cs_ cc Bl w3 (HSs.out.agree (qc_ B3.out HB.out)) (HCs.out.agree (qc_ B3.out HB.out)) (fun b hb=>by have:=HB.out b hb;have:=B3.out.size;omega) D3.out (M2.out.kept (hb3.block M M2.out.lt)) hF3 HO.out (xM_ HO.out) (xf_ HO.out) HX.out HSX.out)
 clear TH hF3 hb3 D2 M2
 go_wp2_with fail
 refine FI.out.mono ?_
 rintro e w4 ⟨N,B,v,ws,rfl,hN,hNS,hFit,hSame,hopt,hb4⟩
 have B4:=hid (B3.out.trans (hb4.mono B3.out.size))
 have D4:=hid (q0_ D3.out hb4)
 have hwl:ws.length ≤ 100:=by have:=hSame.len;omega
 have HWB:=hid (wb_of (xf_ HO.out) hSame.symm hFit.toFlow)
 have RES:=hid (And.intro hFit (And.intro hSame hopt))
 have hNS:=hid hNS
 clear FI hb4 hFit hopt D3
 go_wp2_with fail
 obtain ⟨w5,hw5⟩:∃ x,w4.alloc (.cells #[.bool false, .slice none 0 0] 164) = x:=⟨_,rfl⟩
 have hb5:Below w4.heap.size w4 w5:=by rw [← hw5];exact (Below.refl _ _).alloc (nl_ _) _
 have B5:=hid (B4.out.trans (hb5.mono B4.out.size))
 have NS5:=hid (hNS.out.below hb5)
 have SH:=hid (wl_ B N (M + 1) M S.length C.length as_ ac cs_ cc v ws w5 NS5.out hwl (q0_ D4.out hb5) (by omega) (by omega) (ends_laid HO.out hSame))
 rw [hw5]
 refine SH.out.mono ?_
 rintro e w6 ⟨⟨r,rfl⟩,hb6⟩
 have B6:=hid (B5.out.trans (hb6.mono B5.out.size))
 have CO:=hid (cost_any B N v ws w6 (NS5.out.below hb6) HWB.out hwl)
 clear SH hb6 NS5 hw5 hb5 hSame
 go_wp2_with fail
 refine CO.out.mono ?_
 rintro e w7 ⟨rfl,hb7⟩
 have B7:=hid (B6.out.trans (hb7.mono B6.out.size))
 clear CO hb7
 go_wp2_with fail
 refine bodyPost_ret (v := .tuple #[r, .int .i64 (costW ws), .int .i64 0]) (by simp [results,Tryz.results23,go_sem]) rfl ?_
 exact ⟨r,ws,rfl,RES.out.1,RES.out.2.1,RES.out.2.2,B7.out⟩
end Go.Proofs.LS
namespace Go.Proofs.LB
open Go.RowKit Go.Sort Go.Proofs.LF Go.Proofs.LS
set_option maxHeartbeats 4000000
set_option maxRecDepth 100000
attribute [local go_sem] q1_ q2_ q8_
theorem Tryz.info3q:(Tryz.prog.info? 3).map (fun i=>(i.zero,i.size,i.bytes)) = some (some (.int .i64 0),1,8):=by kernel_rfl
def ltB (f:Nat→Bool) (k:Nat):List Nat:=(List.range k).filter f
def iv (l:List Nat):List Value:=l.map fun n:Nat=>Value.int .i64 (n:Int)
theorem ltB_succ (f:Nat→Bool) (k:Nat):ltB f (k + 1) = ltB f k ++ if f k then [k] else []:=by
 rw [ltB,List.range_succ,List.filter_append]
 congr 1
 by_cases h:f k <;> simp [h]
theorem ltB_len (f:Nat→Bool) (k:Nat):(ltB f k).length ≤ k:=by
 have:=List.length_filter_le f (List.range k)
 simpa [ltB] using this
theorem idxBl (f:Nat→Bool) (n:Nat) (h:n < 121) (W:World):(Instr.index 140 (.agg (bl 121 f)) (.int .i64 (n:Int))).run Tryz.prog W = .ok (.bool (f n)) W:=by
 exact idx140 ((List.range 121).map fun i=>Value.bool (f i)) n (f n) (by simp) (by simp [h]) W
theorem ldBl {W:World} {b N m:Nat} {g:Nat→Bool} (h:W.heap[b]? = some (.cells (bl N g) 140 (0,0))) (hN:m * 121 + 121 ≤ N):(Instr.loadAt 140 (.pointer (some ⟨b,m * 121,none⟩))).run Tryz.prog W = .ok (.agg (bl 121 fun i=>g (m * 121 + i))) W:=by
 have:=run_loadAt_mid (P:=Tryz.prog) W b (m * 121) 140 ((List.range 121).map fun i=>Value.bool (g (m * 121 + i))) _ (fun j u hj=>by
  have hj':j < 121:=by have:=(List.getElem?_eq_some_iff.1 hj).1;simpa using this
  simp [hj'] at hj
  rw [← hj]
  exact cg_ h (za_ (by omega))) Tryz.underlying140 rfl (by rw [List.length_map,List.length_range];kernel_rfl)
 exact this
theorem list_any (f:Nat→Bool) (w:World):Calls Tryz.prog 50 #[.agg (bl 121 f)] w fun e w'=>∃ v,e = .returned v∧w'.ownsRow w.heap.size 3 1 v (ltB f 121).length (iv (ltB f 121))∧Below w.heap.size w w':=by
 obtain ⟨w1,hw1⟩:∃ w1,w.alloc (.cells (bl 121 f) 140) = w1:=⟨_,rfl⟩
 have hb1:Below w.heap.size w w1:=by rw [← hw1];exact (Below.refl _ _).alloc (nl_ _) _
 have hn1:w1.heap[w.heap.size]? = some (.cells (bl 121 f) 140 (0,0)):=by rw [← hw1];exact ha_ _ _
 have hz1:w1.heap.size = w.heap.size + 1:=by rw [← hw1];simp
 have hld:=ldBl (m:=0) hn1 (by omega)
 simp only [Nat.zero_mul,Nat.zero_add] at hld
 obtain ⟨i0,hi0,hy0,hy1,hy2⟩:=info_parts Tryz.info3q
 have hix:=idxBl f
 have B1:=hid hb1
 obtain ⟨A,hA⟩:∃ A:Array Value,bl 121 f = A:=⟨_,rfl⟩
 rw [hA] at hld hix hw1 ⊢
 clear hn1 hb1 hA
 go_enter Tryz.func50,Tryz.ntmps50
 go_upto_region 2 with fail
 try rw [hw1]
 obtain ⟨q,hq⟩:∃ q,w.heap.size = q:=⟨_,rfl⟩
 try simp only [hq]
 rw [hq] at hld hz1
 have HQ:=hid hq
 clear hq
 go_wp2_with (refine wpList_plain rfl fun K hK=>?_;unfold Oper.wp;rw [zG_ 140 rfl rfl hld];refine hK _ _ ?_)
 clear hw1 hld hK K
 have B1':=hid (show Below q w w1 by rw [← HQ.out];exact B1.out)
 clear B1
 go_loopw [3,7] (fun vo vi wr=>∃ k:Nat,k ≤ 121∧vi = .int .i64 k∧wr.ownsRow (q + 1) 3 1 vo (ltB f k).length (iv (ltB f k))∧Hid (Below q w wr)∧q + 1 ≤ wr.heap.size) (fun _ vi _=>121 - (intOf vi).toNat)
 case atStart=>exact ⟨0,by omega,rfl,World.ownsRow_nil _ _ _ _,B1',by omega⟩
 case round=>
  clear B1' hz1 w1
  obtain ⟨k,hk,rfl,hown,HB,hz⟩:=hrel
  obtain ⟨sa,sc,rfl,hsc1,hsc2⟩:=owns_shape hown
  by_cases hlt:k < 121
  · have hlt':(k:Int) < 121:=by omega
    have h0:(0:Int) ≤ (k:Int):=by omega
    have hixk:=hix k hlt wr
    have hsu:=ltB_succ f k
    have hll:=ltB_len f k
    obtain ⟨vb,hvb⟩:∃ b,f k = b:=⟨_,rfl⟩
    rw [hvb] at hixk hsu
    cases vb with
    | true=>
      have HSU:=hid (show ltB f (k + 1) = ltB f k ++ [k] by simpa using hsu)
      obtain ⟨w6,hw6⟩:∃ w6,wr.alloc (.cells #[.int .i64 k] 3) = w6:=⟨_,rfl⟩
      have hb6:Below wr.heap.size wr w6:=by rw [← hw6];exact (Below.refl _ _).alloc (nl_ _) _
      have hn6:w6.heap[wr.heap.size]? = some (.cells #[.int .i64 k] 3 (0,0)):=by rw [← hw6];exact ha_ _ _
      have how6:=ob_ hown hb6 (nl_ _)
      have hnews:∀ ad,(some ⟨wr.heap.size,0,none⟩:Option Addr) = some ad→∀ (j:Nat) (u:Value),[Value.int .i64 (k:Int)][j]? = some u→w6.cell? (ad.add j) = some u:=fun ad had=>by cases had;exact fun j u hj=>World.news_of_block (cs:=#[.int .i64 k]) (t:=3) (fr:=(0,0)) hn6 j u (by simpa using hj)
      have hone:∀ u ∈ [Value.int .i64 (k:Int)],u.oneCell' = true:=by intro u hu;simp at hu;rw [hu];rfl
      have hz6:=hb6.size
      have HB6:=hid hb6
      clear hn6 hb6 hsu hvb hix
      go_upto_region 7 with (at_builtin;go_loud (refine q9_ _ rfl _ _ _ rfl (q + 1) 3 i0 _ 1 8 Tryz.underlying27 hi0 hy0 hy1 hy2 rfl (by omega) _ (ltB f k).length (iv (ltB f k)) rfl how6 (some ⟨wr.heap.size,0,none⟩) 1 1 [.int .i64 k] rfl rfl (fun h=>by cases h) hnews hone (by unfold maxLen;omega) (by omega) (by omega) ?_);intro a7 c7 w7 hown7 hgrow7 hat7)
      have hz7:=hgrow7.size
      have B7:=hid (show Below q w w7 from (HB.out.trans (HB6.out.mono (by omega))).grown hgrow7 (by omega) (fun b hb=>by have:=(how6.lt b hb).1;omega))
      have OW7:=hid (show w7.ownsRow (q + 1) 3 1 (.slice a7 ((ltB f k).length + 1) c7) (ltB f (k + 1)).length (iv (ltB f (k + 1))) by rw [HSU.out,List.length_append,iv,List.map_append];exact hown7)
      clear hown7 hgrow7 hat7 how6 hnews HB6 HB hown hixk
      go_wp2_with fail
      go_roundw
      case rel=>exact ⟨k + 1,by omega,by go_num,OW7.out,B7.out,by omega⟩
      case measure=>simp [intOf];omega
    | false=>
      have HSU:=hid (show ltB f (k + 1) = ltB f k by simpa using hsu)
      have OW:=hid hown
      clear hsu hvb hix hown
      go_wp2_with fail
      go_roundw
      case rel=>exact ⟨k + 1,by omega,by go_num,by rw [HSU.out];exact OW.out,HB,hz⟩
      case measure=>simp [intOf];omega
  · have hk1:k = 121:=by omega
    have HK:=hid hk1
    have hnI:¬ (k:Int) < 121:=by omega
    have OW:=hid hown
    clear hk1 hown hix
    go_wp2_with fail
    go_ret
    have h:=OW.out
    rw [HK.out] at h
    refine ⟨_,rfl,?_,by rw [HQ.out];exact HB.out⟩
    rw [HQ.out]
    have:=qF_ h (base':=q) (fun g hg=>by have:=(h.lt _ hg).1;omega)
    rw [HK.out]
    exact this
end Go.Proofs.LB
namespace Go.Proofs.LS
open Go.RowKit Go.Sort Go.Proofs.LF Go.Proofs.LB
set_option maxHeartbeats 4000000
set_option maxRecDepth 100000
attribute [local go_sem] q1_ q2_ q8_
def S3:List St:=[⟨0,10,10,0,0,0,0⟩,⟨1,10,10,0,0,4,6⟩,⟨0,10,10,0,0,0,0⟩]
def C3:List Sp:=[⟨22,25⟩,⟨0,3⟩]
def X3:List Way:=((j3_ 100 S3 C3).getD none).getD []
theorem x3_eq:zK_ 100 (laid S3 C3) = some (some X3):=by
 have h:=vl_
 rw [show j3_ 100 three.1 three.2 = zK_ 100 (laid S3 C3) from rfl] at h
 rw [X3,show j3_ 100 S3 C3 = zK_ 100 (laid S3 C3) from rfl]
 cases e:zK_ 100 (laid S3 C3) with
 | none=>rw [e] at h;cases h
 | some r=>
   rw [e] at h
   cases r with
   | none=>cases h
   | some l=>rfl
theorem x3_cost:costW X3 = 2:=by
 have h:=vl_
 rw [show j3_ 100 three.1 three.2 = zK_ 100 (laid S3 C3) from rfl,x3_eq] at h
 simpa using h
theorem x3_same:z5_ (laid S3 C3) X3:=by
 show (laid S3 C3).map Way.bare = X3.map Way.bare
 decide +kernel
theorem x3_fit:Fit X3 where
 node:=by decide +kernel
 low:=by decide +kernel
 lim:=by decide +kernel
 net:=by decide +kernel
 need:=by decide +kernel
theorem ok3:OkSc S3 C3 where
 s:=by decide
 c:=by decide
 sp:=by decide +kernel
 te:=by decide +kernel
 go:=by decide +kernel
theorem cost3 {ws:List Way} (hF:Fit ws) (hS:z5_ (laid S3 C3) ws) (ho:∀ ys,z5_ (laid S3 C3) ys→Fit ys→costW ws ≤ costW ys):costW ws = 2:=by
 have h1:=ho X3 x3_same x3_fit
 obtain ⟨n,ws1,f1,f2,f3,f4⟩:=filled_ok (xM_ ok3) x3_fit x3_same (fun i hi=>(xf_ ok3 i hi).2.2.1)
 have e1:=vt_ (k:=100) f1
 have e2:=vt_ (k:=n) x3_eq
 rw [Nat.add_comm] at e2
 rw [e1] at e2
 have e3:ws1 = X3:=by simpa using e2
 have h2:=f4 ws hS hF
 rw [e3] at h2
 rw [x3_cost] at h1 h2
 omega
theorem ret60 {f:Func} {r:Nat} (hr:f.results = #[.cell r 60]) {tmps:Array Value} {W:World} {b:Nat} {x y:Value} (h:W.heap[b]? = some (.cells #[x,y] 60 (0,0))) (h2:tmps.getD r undef = .pointer (some ⟨b,0,none⟩)) :
 (results f tmps).run Tryz.prog W = .ok (.agg #[x,y]) W:=by
 have h0:=cg_ h (k:=0) rfl
 have h1:=cg_ h (k:=1) rfl
 rw [qP_ hr,h2]
 simp [go_sem,h0,h1]
theorem four {w W:World} {A B C D:Obj} {N:Nat} (hN:w.heap.size = N) (hW:(((w.alloc A).alloc B).alloc C).alloc D = W):W.heap[N]? = some A∧W.heap[N + 1 + 1]? = some C∧W.heap[N + 1 + 1 + 1]? = some D∧Below N w W:=by
 subst hN hW
 refine ⟨?_,?_,?_,?_⟩
 · exact (heap_alloc_old _ _ (by simp;omega)).trans ((heap_alloc_old _ _ (by simp;omega)).trans ((heap_alloc_old _ _ (by simp)).trans (ha_ w A)))
 · have h:=ha_ ((w.alloc A).alloc B) C
   simp only [World.size_alloc] at h
   exact (heap_alloc_old _ _ (by simp)).trans h
 · have h:=ha_ (((w.alloc A).alloc B).alloc C) D
   simp only [World.size_alloc] at h
   exact h
 · exact ((((Below.refl _ _).alloc (nl_ _) _).alloc (by simp) _).alloc (by simp;omega) _).alloc (by simp;omega) _
theorem Three_any (w:World):Calls Tryz.prog 52 #[.int .i64 22, .int .i64 25] w fun e w'=>∃ bS bC,e = .returned (.agg #[.slice (some ⟨bS,0,none⟩) 3 3, .slice (some ⟨bC,0,none⟩) 2 2])∧w'.heap[bS]? = some (.cells (S3.flatMap fun x=>(stC x).toList).toArray 72 (0,0))∧w'.heap[bC]? = some (.cells (C3.flatMap fun x=>(spC x).toList).toArray 35 (0,0))∧Below w.heap.size w w':=by
 go_enter Tryz.func52,Tryz.ntmps52
 go_wp2_with fail
 obtain ⟨h0,h2,h3,hb⟩:=four (w:=w) rfl rfl (A := .cells #[.slice (some ⟨w.heap.size + 1 + 1,0,none⟩) 3 3, .slice (some ⟨w.heap.size + 1 + 1 + 1,0,none⟩) 2 2] 60) (B := .cells #[.int .i64 10, .int .i64 10] 35) (C := .cells (S3.flatMap fun x=>(stC x).toList).toArray 72) (D := .cells (C3.flatMap fun x=>(spC x).toList).toArray 35)
 exact bodyPost_ret (ret60 rfl h0 rfl) rfl ⟨_,_,rfl,h2,h3,hb⟩
theorem least3 (w:World) (bS bC:Nat) (h2:w.heap[bS]? = some (.cells (S3.flatMap fun x=>(stC x).toList).toArray 72 (0,0))) (h3:w.heap[bC]? = some (.cells (C3.flatMap fun x=>(spC x).toList).toArray 35 (0,0))) :
 Calls Tryz.prog 23 #[.agg #[.slice (some ⟨bS,0,none⟩) 3 3, .slice (some ⟨bC,0,none⟩) 2 2]] w fun e w'=>∃ r,e = .returned (.tuple #[r, .int .i64 2, .int .i64 0])∧Below w.heap.size w w':=by
 have l2:=(ge_ h2).1
 have l3:=(ge_ h3).1
 have hs:LSl rdSt (fun b=>b = bS ∨ b = bC) w (.slice (some ⟨bS,0,none⟩) S3.length 3) S3:=⟨_,zc_ (k:=7) (n:=3) h2 (.inl rfl) rfl (by simp [maxLen]),_,_,rfl,rfl,_,_,rfl,rfl,_,_,rfl,rfl,rfl⟩
 have hc:LSl rdSp (fun b=>b = bS ∨ b = bC) w (.slice (some ⟨bC,0,none⟩) C3.length 2) C3:=⟨_,zc_ (k:=2) (n:=2) h3 (.inr rfl) rfl (by simp [maxLen]),_,_,rfl,rfl,_,_,rfl,rfl,rfl⟩
 refine (Least_any S3 C3 X3 (some ⟨bS,0,none⟩) (some ⟨bC,0,none⟩) 3 2 _ w hs hc (fun b hb=>by rcases hb with rfl | rfl <;> assumption) ok3 x3_fit x3_same).mono ?_
 rintro e w' ⟨r,ws,rfl,f1,f2,f3,hb⟩
 exact ⟨r,by rw [cost3 f1 f2 f3],hb⟩
theorem j6_ (w:World) (ht:Pow w):Calls Tryz.prog 15 #[] w fun e w'=>e = .returned (.bool true)∧Below w.heap.size w w':=by
 have ON:=hid (One_any 7 w)
 have HT:=hid ht
 clear ht
 go_enter Tryz.func15,Tryz.ntmps15
 go_wp2_with fail
 refine ON.out.mono ?_
 rintro e w1 ⟨g,rfl,hF1,hb1⟩
 have P1:=hid (print7 _ 2 _ w1 hF1 (fun b hb=>hb.2) (HT.out.below hb1))
 have HB1:=hid hb1
 clear ON hF1 hb1
 go_wp2_with fail
 refine P1.out.mono ?_
 rintro e w2 ⟨rfl,hb2⟩
 have HB2:=hid (HB1.out.trans (hb2.mono HB1.out.size))
 have TH:=hid (Three_any w2)
 clear P1 hb2
 go_wp2_with fail
 refine TH.out.mono ?_
 rintro e w3 ⟨bS,bC,rfl,hS,hC,hb3⟩
 have HB3:=hid (HB2.out.trans (hb3.mono HB2.out.size))
 have LE:=hid (least3 w3 bS bC hS hC)
 clear TH hS hC hb3
 go_wp2_with fail
 refine LE.out.mono ?_
 rintro e w4 ⟨r,rfl,hb4⟩
 have HB4:=hid (HB3.out.trans (hb4.mono HB3.out.size))
 clear LE hb4
 go_wp2_with fail
 go_ret
 exact ⟨rfl,HB4.out⟩
end Go.Proofs.LS
namespace Go.Proofs.LB
open Go.RowKit Go.Sort Go.Proofs.LF Go.Proofs.LS
set_option maxHeartbeats 4000000
set_option maxRecDepth 100000
attribute [local go_sem] q1_ q2_ q8_
theorem ret211 {f:Func} {r:Nat} (hr:f.results = #[.cell r 211]) {tmps:Array Value} {W:World} {b:Nat} {x:Value} (h:W.heap[b]? = some (.cells #[x] 211 (0,0))) (h2:tmps.getD r undef = .pointer (some ⟨b,0,none⟩)) :
 (results f tmps).run Tryz.prog W = .ok (.agg #[x]) W:=by
 have h0:=cg_ h (k:=0) rfl
 rw [qP_ hr,h2]
 simp [go_sem,h0]
theorem eqZ (f:Nat→Bool) (hne:∃ n,n < 121∧f n = true) (w:World):(Op.equalIn 10000 140 (.agg (bl 121 f)) (.agg Tryz.zeroCells140)).run Tryz.prog w = .ok false w:=by
 have hz:Tryz.zeroCells140 = mV (List.replicate 121 false):=by kernel_rfl
 have hb:bl 121 f = mV ((List.range 121).map f):=by simp [bl,mV]
 rw [hz,hb]
 have h:=zs_ (P:=Tryz.prog) w 9998 140 4 121 Tryz.underlying140 Tryz.underlying4 size4 ((List.range 121).map f) (List.replicate 121 false) (by simp) (by simp)
 rw [h]
 congr 1
 obtain ⟨n,hn,hf⟩:=hne
 rw [beq_eq_false_iff_ne]
 intro e
 have h1:f n ∈ List.replicate 121 false:=e ▸ List.mem_map.2 ⟨n,List.mem_range.2 hn,rfl⟩
 rw [hf] at h1
 have h2:=(List.mem_replicate.1 h1).2
 cases h2
theorem all_any (w:World):Calls Tryz.prog 103 #[] w fun e w'=>e = .returned (.agg #[.func (.func 151) #[] #[]])∧Below w.heap.size w w':=by
 go_enter Tryz.func103,Tryz.ntmps103
 go_wp2_with fail
 exact bodyPost_ret (ret211 rfl (ha_ _ _) rfl) rfl ⟨rfl,(Below.refl _ _).alloc (nl_ _) _⟩
theorem xz_ (room first uns:Int) (ms:List Mo) (ss:List Su) (am as_:Option Addr) (cm cs_:Nat) (S:Nat→Prop) (w:World) (hm:LSl yn_ S w (.slice am ms.length cm) ms) (hs:LSl vQ_ S w (.slice as_ ss.length cs_) ss) (hS:∀ b,S b→b < w.heap.size) (hO:OkBed room first uns ms ss) (hne:∃ n,n < 121∧cnG room ss ms (first - uns) (first + uns) n = true) :
 Calls Tryz.prog 49 #[.agg (z7_ room first uns (.slice am ms.length cm) (.slice as_ ss.length cs_))] w fun e w'=>∃ M Z,e = .returned (.tuple #[.pointer (some ⟨M,0,none⟩), .slice (some ⟨Z,0,none⟩) (ms.length + 1) (ms.length + 1), .int .i64 0])∧w.heap.size ≤ Z∧w'.heap[Z]? = some (.cells (bl (121 * (ms.length + 1)) (cnG room ss ms (first - uns) (first + uns))) 140 (0,0))∧Below w.heap.size w w':=by
 obtain ⟨w1,hw1⟩:∃ w1,w.alloc (.cells (z7_ room first uns (.slice am ms.length cm) (.slice as_ ss.length cs_)) 26) = w1:=⟨_,rfl⟩
 have hb1:Below w.heap.size w w1:=by rw [← hw1];exact (Below.refl _ _).alloc (nl_ _) _
 have hn1:w1.heap[w.heap.size]? = some (.cells (z7_ room first uns (.slice am ms.length cm) (.slice as_ ss.length cs_)) 26 (0,0)):=by rw [← hw1];exact ha_ _ _
 have OP:=hid (vh_ room first uns ms ss am as_ cm cs_ S w1 (hm.agree (qc_ hb1 hS)) (hs.agree (qc_ hb1 hS)) (fun b hb=>by have:=hS b hb;have:=hb1.size;omega) hO)
 have c0:=cg_ hn1 (k:=0) rfl
 have c1:=cg_ hn1 (k:=1) rfl
 have c2:=cg_ hn1 (k:=2) rfl
 have c3:=cg_ hn1 (k:=3) rfl
 have c4:=cg_ hn1 (k:=4) rfl
 have HM:=hid hm
 have HSu:=hid hs
 have HS:=hid hS
 have HO:=hid hO
 have HNE:=hid hne
 have B1:=hid hb1
 clear hm hs hS hO hne hb1 hn1
 go_enter Tryz.func49,Tryz.ntmps49
 go_upto_region 1 with fail
 try rw [hw1]
 clear hw1
 go_wp2_with fail
 refine OP.out.mono ?_
 rintro e w2 ⟨M,rfl,hM,hD2,⟨Nm,hM2⟩,hb2⟩
 have hz1:=B1.out.size
 have B2:=hid (B1.out.trans (hb2.mono hz1))
 have D2:=hid hD2
 have M2:=hid hM2
 have AL:=hid (all_any w2)
 clear OP hb2 hD2 hM2 c0 c1 c2 c3 c4
 go_wp2_with fail
 refine AL.out.mono ?_
 rintro e w3 ⟨rfl,hb3⟩
 have B3:=hid (B2.out.trans (hb3.mono B2.out.size))
 have hz3:=B3.out.size
 have CA:=hid (can_ok room first uns ms ss am as_ cm cs_ M (M + 1) (M + 2) Nm S w3 (HM.out.agree (qc_ B3.out HS.out)) (HSu.out.agree (qc_ B3.out HS.out)) (fun b hb=>by have:=HS.out b hb;omega) (q0_ D2.out hb3) (M2.out.below hb3) HO.out)
 clear AL hb3 D2 M2
 go_wp2_with fail
 refine CA.out.mono ?_
 rintro e w4 ⟨Z,rfl,hZ,hC4,hb4⟩
 have B4:=hid (B3.out.trans (hb4.mono hz3))
 have C4:=hid hC4
 have hld:=ldBl (m:=0) hC4 (by omega)
 simp only [Nat.zero_mul,Nat.zero_add] at hld
 have heq:=eqZ (fun i=>cnG room ss ms (first - uns) (first + uns) i) HNE.out
 clear CA hb4 hC4
 go_wp2_with (refine wpList_plain rfl fun K hK=>?_;unfold Oper.wp;rw [zG_ 140 rfl rfl hld];refine hK _ _ ?_)
 clear heq hld hK
 go_wp2_with fail
 refine bodyPost_ret (v := .tuple #[.pointer (some ⟨M + 1,0,none⟩), .slice (some ⟨Z,0,none⟩) (ms.length + 1) (ms.length + 1), .int .i64 0]) (by simp [results,Tryz.results49,go_sem]) rfl ?_
 exact ⟨M + 1,Z,rfl,by omega,C4.out,B4.out⟩
def bndF (f:Nat→Bool):Sp:=⟨((ltB f 121).getD 0 0:Nat),((ltB f 121).getD ((ltB f 121).length - 1) 0:Nat)⟩
def rowF (room:Int) (ss:List Su) (ms:List Mo) (lo hi:Int) (m n:Nat):Bool:=cnG room ss ms lo hi (m * 121 + n)
def bndL (room:Int) (ss:List Su) (ms:List Mo) (lo hi:Int):List Sp:=(List.range (ms.length + 1)).map fun m=>bndF (rowF room ss ms lo hi m)
theorem ltB_ne {f:Nat→Bool} (h:∃ n,n < 121∧f n = true):0 < (ltB f 121).length:=by
 obtain ⟨n,hn,hf⟩:=h
 have:n ∈ ltB f 121:=List.mem_filter.2 ⟨List.mem_range.2 hn,hf⟩
 exact List.length_pos_of_mem this
theorem jj_ (f:Nat→Bool):(bl 121 f).all (·.oneCell') = true:=by
 simp [bl,Value.oneCell']
theorem yM_ (room first uns:Int) (ms:List Mo) (ss:List Su) (am as_:Option Addr) (cm cs_:Nat) (S:Nat→Prop) (w:World) (hm:LSl yn_ S w (.slice am ms.length cm) ms) (hs:LSl vQ_ S w (.slice as_ ss.length cs_) ss) (hS:∀ b,S b→b < w.heap.size) (hO:OkBed room first uns ms ss) (hne:∀ m,m ≤ ms.length→∃ n,n < 121∧rowF room ss ms (first - uns) (first + uns) m n = true) :
 Calls Tryz.prog 14 #[.agg (z7_ room first uns (.slice am ms.length cm) (.slice as_ ss.length cs_))] w fun e w'=>∃ v,e = .returned (.tuple #[v, .int .i64 0])∧w'.ownsRow w.heap.size 35 2 v (ms.length + 1) (spV (bndL room ss ms (first - uns) (first + uns)))∧Below w.heap.size w w':=by
 obtain ⟨w1,hw1⟩:∃ w1,w.alloc (.cells (z7_ room first uns (.slice am ms.length cm) (.slice as_ ss.length cs_)) 26) = w1:=⟨_,rfl⟩
 have hb1:Below w.heap.size w w1:=by rw [← hw1];exact (Below.refl _ _).alloc (nl_ _) _
 have hn1:w1.heap[w.heap.size]? = some (.cells (z7_ room first uns (.slice am ms.length cm) (.slice as_ ss.length cs_)) 26 (0,0)):=by rw [← hw1];exact ha_ _ _
 have hz1:w1.heap.size = w.heap.size + 1:=by rw [← hw1];simp
 have PO:=hid (xz_ room first uns ms ss am as_ cm cs_ S w1 (hm.agree (qc_ hb1 hS)) (hs.agree (qc_ hb1 hS)) (fun b hb=>by have:=hS b hb;omega) hO (by
  obtain ⟨n,h1,h2⟩:=hne 0 (by omega)
  exact ⟨n,h1,by simpa [rowF] using h2⟩))
 have c0:=cg_ hn1 (k:=0) rfl
 have c1:=cg_ hn1 (k:=1) rfl
 have c2:=cg_ hn1 (k:=2) rfl
 have c3:=cg_ hn1 (k:=3) rfl
 have c4:=cg_ hn1 (k:=4) rfl
 have hlen:=hO.len
 have HNE:=hid hne
 have B1:=hid hb1
 obtain ⟨G,hG⟩:∃ G:Nat→Sp,(fun m=>bndF (rowF room ss ms (first - uns) (first + uns) m)) = G:=⟨_,rfl⟩
 have HG:=hid hG
 obtain ⟨i0,hi0,hy0,hy1,hy2⟩:=info_parts Tryz.info35
 clear hm hs hS hO hne hb1 hn1 hG
 go_enter Tryz.func14,Tryz.ntmps14
 go_upto_region 1 with fail
 try rw [hw1]
 clear hw1
 go_wp2_with fail
 refine PO.out.mono ?_
 rintro e w2 ⟨M,Z,rfl,hZ,hC2,hb2⟩
 obtain ⟨q,hq⟩:∃ q,w.heap.size = q:=⟨_,rfl⟩
 try simp only [hq]
 rw [hq] at hz1
 have HQ:=hid hq
 have B2:=hid (show Below q w w2 from by rw [← hq];exact B1.out.trans (hb2.mono B1.out.size))
 have C2:=hid hC2
 have hZq:q < Z:=by omega
 have hz2:=hb2.size
 have hZl:=(ge_ hC2).1
 clear PO hC2 hb2 B1 c0 c1 c2 c3 c4 hq
 go_wp2_with fail
 go_loopw [7,19] (fun vo vi wr=>∃ m:Nat,m ≤ ms.length + 1∧vi = .int .i64 m∧wr.ownsRow (q + 1) 35 2 vo m (spV ((List.range m).map G))∧Hid (Below q w wr)∧Hid (wr.heap[Z]? = some (.cells (bl (121 * (ms.length + 1)) (cnG room ss ms (first - uns) (first + uns))) 140 (0,0)))∧q + 1 ≤ wr.heap.size∧(∀ g,vo.ownBlock = some g→g ≠ Z)) (fun _ vi _=>ms.length + 1 - (intOf vi).toNat)
 case atStart=>exact ⟨0,by omega,rfl,World.ownsRow_nil _ _ _ _,B2.out,C2.out,by omega,fun g h=>by cases h⟩
 case round=>
  clear B2 C2 hZl hz2 w2
  obtain ⟨m,hm,rfl,hown,HB,HC,hz,hgZ⟩:=hrel
  obtain ⟨sa,sc,rfl,hsc1,hsc2⟩:=owns_shape hown
  have hgO:∀ g,(Value.slice sa m sc).ownBlock = some g→g < wr.heap.size:=fun g hg=>(hown.lt g hg).2
  by_cases hlt:m < ms.length + 1
  · have hlt':(m:Int) < (ms.length:Int) + 1:=by omega
    have h0:(0:Int) ≤ (m:Int):=by omega
    have hld:=ldBl (m:=m) HC.out (by omega)
    rw [show (fun i=>cnG room ss ms (first - uns) (first + uns) (m * 121 + i)) = rowF room ss ms (first - uns) (first + uns) m from rfl] at hld
    obtain ⟨f,hf⟩:∃ f,rowF room ss ms (first - uns) (first + uns) m = f:=⟨_,rfl⟩
    have hnef:=ltB_ne (f:=f) (by rw [← hf];exact HNE.out m (by omega))
    have HX:=hid (show G m = bndF f by rw [← HG.out,← hf])
    rw [hf] at hld
    have hst:=run_storeCells_new (P:=Tryz.prog) wr 140 Tryz.zeroCells140 (bl 121 f) (by rw [k0_];kernel_rfl) (by rw [k0_];kernel_rfl) (jj_ f)
    obtain ⟨w3,hw3⟩:∃ x,wr.alloc (.cells (bl 121 f) 140) = x:=⟨_,rfl⟩
    have hb3:Below wr.heap.size wr w3:=by rw [← hw3];exact (Below.refl _ _).alloc (nl_ _) _
    have hn3:w3.heap[wr.heap.size]? = some (.cells (bl 121 f) 140 (0,0)):=by rw [← hw3];exact ha_ _ _
    have hld2:=ldBl (m:=0) hn3 (by omega)
    simp only [Nat.zero_mul,Nat.zero_add] at hld2
    have hsz:=k0_ 121 f
    have LI:=hid (list_any f w3)
    have hz3:=hb3.size
    have HB3:=hid hb3
    clear hb3 hn3 hf
    go_wp2_with (refine wpList_plain rfl fun K hK=>?_;unfold Oper.wp;first | rw [zG_ 140 rfl rfl hld] | rw [zG_ 140 rfl rfl hld2];refine hK _ _ ?_)
    refine LI.out.mono ?_
    rintro e w4 ⟨lv,rfl,hol,hb4⟩
    obtain ⟨g,c,rfl,hg⟩:=owns_some hol hnef
    obtain ⟨nl,hnl⟩:∃ nl,(ltB f 121).length = nl + 1:=⟨(ltB f 121).length - 1,by omega⟩
    obtain ⟨x,hx⟩:∃ x,bndF f = x:=⟨_,rfl⟩
    have hL:∀ i,i < nl + 1→(iv (ltB f 121))[i]? = some (.int .i64 ((ltB f 121).getD i 0:Nat)):=fun i hi=>by
     rw [iv,List.getElem?_map,List.getElem?_eq_getElem (by omega)]
     simp [List.getD_eq_getElem?_getD,List.getElem?_eq_getElem (show i < (ltB f 121).length by omega)]
    have hp0:=hL 0 (by omega)
    have hp1:=hL nl (by omega)
    rw [show (((ltB f 121).getD 0 0:Nat):Int) = x.lo by rw [← hx];rfl] at hp0
    rw [show (((ltB f 121).getD nl 0:Nat):Int) = x.hi by rw [← hx,bndF,hnl];rfl] at hp1
    have hll:=ltB_len f 121
    rw [hnl] at hol hll
    rw [hx] at HX
    have p0:=(vp_ hol (i:=0) (by omega) hp0).1
    have p1:=(vp_ hol (i:=nl) (by omega) hp1).1
    have hgl:=(hol.lt g rfl).2
    simp only [hnl]
    obtain ⟨x0,hx0⟩:∃ y,w4.drew = y:=⟨_,rfl⟩
    have hbd:Below w4.heap.size w4 x0:=by rw [← hx0];exact (Below.refl _ w4).drew
    have hb0:Below wr.heap.size wr x0:=HB3.out.trans ((hb4.trans (hbd.mono (by have:=hb4.size;omega))).mono hz3)
    have hgr:wr.heap.size ≤ g:=by omega
    have hzx:=hb0.size
    have OW0:=hid (ob_ hown hb0 (nl_ _))
    have HC0:=hid (q0_ HC.out hb0)
    have HB0:=hid (HB.out.trans (hb0.mono (by omega)))
    have hS0:x0.cell? ⟨g,0,none⟩ = some (.int .i64 x.lo)∧x0.cell? ⟨g,nl,none⟩ = some (.int .i64 x.hi):=⟨bc_ hbd hgl p0,bc_ hbd hgl p1⟩
    have hnl1:IntKind.i64.wrap (((nl + 1:Nat):Int) - 1) = (nl:Int):=by rw [IntWalk.i64_in _ (by omega)];omega
    have hnl2:IntKind.i64.wrap (nl:Int) = (nl:Int):=IntWalk.i64_in _ (by omega)
    have hnlI:¬ ((nl:Int) + 1 ≤ (nl:Int)):=by omega
    have hnl0:(0:Int) ≤ (nl:Int):=by omega
    have hgx0:g < x0.heap.size:=by have:=hbd.size;omega
    clear hst hw3 hld hld2 hsz LI hp0 hp1 hL hol hb4 p0 p1 hbd hb0 hown HB3 hx hnl hnef HB HC
    go_upto_region 7 with fail
    refine (wpIn_wide (n:=9)).1 ?_
    refine q6_ (fun V:World=>V.cell? ⟨g,0,none⟩ = some (.int .i64 x.lo)∧V.cell? ⟨g,nl,none⟩ = some (.int .i64 x.hi)) (by kernel_rfl) ?_
    try rw [hx0]
    clear hx0
    refine tkZ 0 25 (.slice sa m sc) rfl rfl hS0 ?_
    refine tkZ 1 26 (.slice (some ⟨g,0,none⟩) (nl + 1) c) rfl rfl hS0 ?_
    refine tkZ 2 27 (.pointer (some ⟨g,0,none⟩)) rfl rfl hS0 ?_
    refine tkZ 3 28 (.int .i64 x.lo) rfl rfl hS0 ?_
    refine tkZ 4 29 (.slice (some ⟨g,0,none⟩) (nl + 1) c) rfl rfl hS0 ?_
    refine tkZ 5 30 (.slice (some ⟨g,0,none⟩) (nl + 1) c) rfl rfl hS0 ?_
    refine tkZ 6 31 (.int .i64 ((nl + 1:Nat):Int)) rfl rfl hS0 ?_
    refine tkZ 7 32 (.int .i64 nl) rfl rfl hS0 ?_
    refine tkZ 8 33 (.pointer (some ⟨g,nl,none⟩)) rfl rfl hS0 ?_
    refine tkZ 9 34 (.int .i64 x.hi) rfl rfl hS0 ?_
    refine tkZ 10 35 (.agg #[.int .i64 x.lo, .int .i64 x.hi]) rfl rfl hS0 ?_
    refine aHO 11 rfl fun K hK=>?_
    go_simp
    obtain ⟨x2,hx2⟩:∃ y,x0.alloc (.cells #[.int .i64 x.lo, .int .i64 x.hi] 35) = y:=⟨_,rfl⟩
    have hb2:Below x0.heap.size x0 x2:=by rw [← hx2];exact (Below.refl _ _).alloc (nl_ _) _
    have hn2:x2.heap[x0.heap.size]? = some (.cells #[.int .i64 x.lo, .int .i64 x.hi] 35 (0,0)):=by rw [← hx2];exact ha_ _ _
    obtain ⟨bk,hbk⟩:∃ b,x0.heap.size = b:=⟨_,rfl⟩
    rw [hx2]
    simp only [hbk]
    have OW2:=ob_ OW0.out hb2 (nl_ _)
    have hz12:=hb2.size
    have HC2:=hid (q0_ HC0.out hb2)
    have HB2:=hid (HB0.out.trans (hb2.mono (by omega)))
    have hS2:x2.cell? ⟨g,0,none⟩ = some (.int .i64 x.lo)∧x2.cell? ⟨g,nl,none⟩ = some (.int .i64 x.hi):=⟨bc_ hb2 hgx0 hS0.1,bc_ hb2 hgx0 hS0.2⟩
    rw [hbk] at hn2
    refine hK _ _ ⟨hS2,?_⟩
    clear hK hS0 hx2 hb2
    refine aHO 12 rfl fun K hK=>?_
    obtain ⟨a5,c5,x3,hr,hown5,hg5,hat5⟩:=run_append_ao (P:=Tryz.prog) (w:=x2) 50 50 (q + 1) 35 i0 _ 2 16 Tryz.underlying50 hi0 hy0 hy1 hy2 rfl (by omega) _ m _ OW2 (some ⟨bk,0,none⟩) 1 1 (spV [x]) rfl (fun h=>by cases h) (fun ad had=>by cases had;exact fun j u hj=>World.news_of_block (cs:=#[.int .i64 x.lo, .int .i64 x.hi]) (t:=35) (fr:=(0,0)) hn2 j u (by simpa [spV,spC] using hj)) (by intro u hu;simp [spV,spC] at hu;rcases hu with rfl | rfl <;> rfl) (by unfold maxLen;omega) (by omega) (by omega)
    refine wa_ rfl rfl rfl hr ?_
    have hZl:=(ge_ HC2.out).1
    have n1:=hg5.block Z hZl (fun e=>hgZ Z e.symm rfl)
    have hrl:∀ b,(Value.slice sa m sc).ownBlock = some b→b < x0.heap.size:=fun b hb=>(OW0.out.lt b hb).2
    have hgx2:g < x2.heap.size:=by omega
    have hrw:(Value.slice sa m sc).ownBlock = some g→wr.heap.size ≤ g→False:=fun e h=>by have:=hgO g e;omega
    have n2:=hg5.block g hgx2 (fun e=>hrw e.symm hgr)
    have HC3:=hid (n1.trans HC2.out)
    have HB3:=hid (show Below q w x3 from HB2.out.grown hg5 (by omega) (fun b hb=>by have:=(OW2.lt b hb).1;omega))
    have OW3:=hid (show x3.ownsRow (q + 1) 35 2 (.slice a5 (m + 1) c5) (m + 1) (spV ((List.range (m + 1)).map G)) by
     rw [List.range_succ,List.map_append,List.map_singleton,HX.out]
     have:spV ((List.range m).map G ++ [x]) = spV ((List.range m).map G) ++ spV [x]:=by simp [spV]
     rw [this]
     exact hown5)
    have hgZ3:∀ g,(Value.slice a5 (m + 1) c5).ownBlock = some g→g ≠ Z:=fun g' hg'=>by
     rcases hat5 g' hg' with h | h
     · exact hgZ g' h
     · omega
    have hz13:=hg5.size
    have hce:∀ k u,x2.cell? ⟨g,k,none⟩ = some u→x3.cell? ⟨g,k,none⟩ = some u:=fun k u h=>(World.cell?_of_block (w:=x2) (w':=x3) (a:=⟨g,k,none⟩) n2).trans h
    refine hK _ _ ⟨⟨hce _ _ hS2.1,hce _ _ hS2.2⟩,?_⟩
    have hS3:x3.cell? ⟨g,0,none⟩ = some (.int .i64 x.lo)∧x3.cell? ⟨g,nl,none⟩ = some (.int .i64 x.hi):=⟨hce _ _ hS2.1,hce _ _ hS2.2⟩
    clear hK hS2 hr hown5 hg5 hat5 n1 n2 hce OW2 hn2
    refine aHO 13 rfl fun K hK=>?_
    go_simp
    refine hK _ _ ⟨hS3,?_⟩
    clear hK hS3
    refine q7_ (by kernel_rfl) ?_
    go_simp
    go_wp2_with fail
    go_roundw
    case rel=>exact ⟨m + 1,by omega,by go_num,OW3.out,HB3.out,HC3.out,by omega,hgZ3⟩
    case measure=>simp [intOf];omega
  · have hmm:m = ms.length + 1:=by omega
    have HM:=hid hmm
    have hnI:¬ (m:Int) < (ms.length:Int) + 1:=by omega
    have OW:=hid hown
    clear hmm hown
    go_wp2_with fail
    refine bodyPost_ret (v := .tuple #[.slice sa m sc, .int .i64 0]) (by simp [results,Tryz.results14,go_sem]) rfl ?_
    have h:=OW.out
    rw [HM.out] at h ⊢
    refine ⟨_,rfl,?_,by rw [HQ.out];exact HB.out⟩
    rw [HQ.out,bndL,HG.out]
    exact qF_ h (base':=q) (fun g hg=>by have:=(h.lt _ hg).1;omega)
theorem zk_ (b:Nat) (S:Nat→Prop) (w:World) (lo hi:Int) (h1:lo ≤ hi) (h2:hi ≤ lo + 1000) (h3 : -100000 ≤ lo∧lo ≤ 100000) (h:Hp b S w):Calls Tryz.prog 25 #[.pointer (some ⟨b,0,none⟩), .int .i64 lo, .int .i64 hi] w fun e w'=>∃ r:Int,e = .returned (.int .i64 r)∧(lo ≤ r∧r ≤ hi)∧Hp b S w'∧Keep (· = b) w w':=by
 obtain ⟨n,hn⟩:∃ n:Nat,hi - lo = (n:Int):=⟨(hi - lo).toNat,by omega⟩
 have hw1:IntKind.i64.wrap (hi - lo) = (n:Int):=by rw [IntWalk.i64_in _ (by omega),hn]
 have UP:=hid (qD_ b S w n (by omega) h)
 have HN:=hid hn
 clear h hn
 go_enter Tryz.func25,Tryz.ntmps25
 go_wp2_with fail
 refine UP.out.mono ?_
 rintro e w1 ⟨r,rfl,hr,hp,hk⟩
 have hnn:=HN.out
 have hw2:IntKind.i64.wrap (lo + (r:Int)) = lo + (r:Int):=IntWalk.i64_in _ (by omega)
 go_wp2_with fail
 go_ret
 exact ⟨lo + r,rfl,by omega,hp,hk⟩
theorem lies_any (room first uns:Int) (ms ss:Value) (x:Mo) (n s t:Int) (w:World) (hr:0 ≤ room∧room ≤ 1000) (hn:0 ≤ n∧n ≤ 1000) (hg:0 ≤ x.g∧x.g ≤ 100) (hs:0 ≤ s∧s ≤ 1000) (ht:0 ≤ t∧t ≤ 1000) :
 Calls Tryz.prog 26 #[.agg (z7_ room first uns ms ss), .agg (moC x), .int .i64 n, .agg #[.int .i64 s, .int .i64 t]] w fun e w'=>e = .returned (.int .i64 (grs room x.g n s t))∧Below w.heap.size w w':=by
 obtain ⟨w3,hw3⟩:∃ w3,((w.alloc (.cells (z7_ room first uns ms ss) 26)).alloc (.cells (moC x) 79)).alloc (.cells #[.int .i64 s, .int .i64 t] 81) = w3:=⟨_,rfl⟩
 have hb3:Below w.heap.size w w3:=by rw [← hw3];exact (((Below.refl _ _).alloc (nl_ _) _).alloc (by simp) _).alloc (by simp;omega) _
 have r1:w3.heap[w.heap.size]? = some (.cells (z7_ room first uns ms ss) 26 (0,0)):=by rw [← hw3];exact qb_ _ (qb_ _ (ha_ _ _))
 have r2:w3.heap[w.heap.size + 1]? = some (.cells (moC x) 79 (0,0)):=by rw [← hw3];have:=qb_ (.cells #[.int .i64 s, .int .i64 t] 81) (ha_ (w.alloc (.cells (z7_ room first uns ms ss) 26)) (.cells (moC x) 79));simpa using this
 have r3:w3.heap[w.heap.size + 1 + 1]? = some (.cells #[.int .i64 s, .int .i64 t] 81 (0,0)):=by rw [← hw3];have:=ha_ ((w.alloc (.cells (z7_ room first uns ms ss) 26)).alloc (.cells (moC x) 79)) (.cells #[.int .i64 s, .int .i64 t] 81);simpa using this
 have c0:=cg_ r1 (k:=0) (v := .int .i64 room) rfl
 have c1:=cg_ r2 (k:=0) (v := .int .i64 x.g) rfl
 have c2:=cg_ r3 (k:=0) (v := .int .i64 s) rfl
 have c3:=cg_ r3 (k:=1) (v := .int .i64 t) rfl
 obtain ⟨p,hp⟩:∃ p,n * x.g = p:=⟨_,rfl⟩
 have hpb:0 ≤ p∧p ≤ 100000:=by
  rw [← hp]
  refine ⟨Int.mul_nonneg hn.1 hg.1,?_⟩
  exact Int.le_trans (Int.mul_le_mul_of_nonneg_right hn.2 hg.1) (by omega)
 have hw1:IntKind.i64.wrap (n * x.g) = p:=by rw [IntWalk.i64_in _ (by omega),hp]
 have hq0:0 ≤ p.tdiv 100∧p.tdiv 100 ≤ 1000:=by rw [Int.tdiv_eq_ediv_of_nonneg hpb.1];omega
 obtain ⟨d,hd⟩:∃ d,p.tdiv 100 = d:=⟨_,rfl⟩
 have HD:=hid hd
 have HP:=hid hp
 have hwq:IntKind.i64.wrap (p.tdiv 100) = d:=by rw [hd];exact IntWalk.i64_in _ (by omega)
 rw [hd] at hq0
 have hw2:IntKind.i64.wrap (n + d) = n + d:=IntWalk.i64_in _ (by omega)
 have hw4:IntKind.i64.wrap (n + d + s) = n + d + s:=IntWalk.i64_in _ (by omega)
 have hw5:IntKind.i64.wrap (min room (n + d + s) - t) = min room (n + d + s) - t:=IntWalk.i64_in _ (by omega)
 have HB:=hid hb3
 clear hp hd r1 r2 r3 hb3
 go_enter Tryz.func26,Tryz.ntmps26
 go_upto_region 1 with fail
 try rw [hw3]
 clear hw3
 go_wp2_with fail
 go_ret
 exact ⟨by show Ending.returned (.int .i64 (max 0 (min room (n + d + s) - t))) = _;rw [grs,HP.out,HD.out],HB.out⟩
def k4_:List UInt8:=[115,117,114,118,101,121]
def j5_ (l:List Su) (i:Nat):List Int:=[(i:Int),((l.getD i ⟨0,0,0⟩).m:Int),(l.getD i ⟨0,0,0⟩).lo,(l.getD i ⟨0,0,0⟩).hi]
def qy_ (l:List Su):List Nat→Fo
 | [] => .nil
 | i :: r => .cons k4_ (j5_ l i) .nil (qy_ l r)
theorem yz_ (l:List Su):∀ a b:List Nat,qy_ l (a ++ b) = (qy_ l a).app (qy_ l b)
 | [],b=>rfl
 | i :: a,b=>by simp only [List.cons_append,qy_,Fo.app,yz_ l a b]
theorem qK_ (l:List Su):∀ a:List Nat,(qy_ l a).len = a.length
 | []=>rfl
 | i :: a=>by simp only [qy_,Fo.len,qK_ l a,List.length_cons]
def SvS (q:Nat) (v:Value) (y:Fo) (W:World):Prop:=∃ cs,W.ownsRow q 109 3 v y.len cs∧FCs (fun b=>Rg q W.heap.size b∧v.ownBlock ≠ some b) W y cs
theorem SvS.nil (q:Nat) (W:World):SvS q (.slice none 0 0) .nil W:=⟨[],World.ownsRow_nil _ _ _ _,rfl⟩
theorem SvS.below {q:Nat} {v:Value} {y:Fo} {W W':World} (h:SvS q v y W) (hb:Below W.heap.size W W'):SvS q v y W':=by
 obtain ⟨cs,h1,h2⟩:=h
 have:=hb.size
 exact ⟨cs,ob_ h1 hb (nl_ _),(h2.agree (qc_ hb fun b hb=>hb.1.2)).wide fun b hb=>⟨⟨hb.1.1,by have:=hb.1.2;omega⟩,hb.2⟩⟩
theorem SvS.fsl {q:Nat} {v:Value} {y:Fo} {W:World} (h:SvS q v y W):FSl (Rg q W.heap.size) W v y:=by
 obtain ⟨cs,h1,h2⟩:=h
 exact ⟨cs,SlC.of_owns h1,h2.wide fun b hb=>hb.1⟩
theorem SvS.push {q bi:Nat} {v v':Value} {y:Fo} {W W':World} {n:List UInt8} {l:List Int} (cs:List Value) (hf:FCs (fun b=>Rg q W.heap.size b∧v.ownBlock ≠ some b) W y cs) (hg:W.grownBy W' v.ownBlock) (ho:W'.ownsRow q 109 3 v' (y.len + 1) (cs ++ [.string (bs n), .slice (some ⟨bi,0,none⟩) l.length l.length, .slice none 0 0]))
 (hi:W.heap[bi]? = some (.cells (l.map (Value.int .i64)).toArray 3 (0,0))) (hbi:q ≤ bi∧v.ownBlock ≠ some bi) (hat:∀ g,v'.ownBlock = some g→v.ownBlock = some g ∨ g = W.heap.size) (hl:l.length ≤ maxLen):SvS q v' (y.app (.cons n l .nil .nil)) W':=by
 have hsz:=hg.size
 have hbl:=(ge_ hi).1
 have key:∀ b,b < W.heap.size→v.ownBlock ≠ some b→v'.ownBlock ≠ some b:=fun b h1 h2 e=>by
  rcases hat b e with h | h
  · exact h2 h
  · omega
 refine ⟨_,by rw [Fo.len_app];exact ho,?_⟩
 refine FCs.app ?_ (FCs.one ?_ ?_)
 · exact (hf.agree fun b hb=>hg.block b hb.1.2 fun e=>hb.2 e.symm).wide fun b hb=>⟨⟨hb.1.1,by have:=hb.1.2;omega⟩,key b hb.1.2 hb.2⟩
 · have hi':W'.heap[bi]? = some (.cells (l.map (Value.int .i64)).toArray 3 (0,0)):=(hg.block bi hbl fun e=>hbi.2 e.symm).trans hi
   have:=zc_ (S:=fun b=>Rg q W'.heap.size b∧v'.ownBlock ≠ some b) (k:=1) (n:=l.length) hi' ⟨⟨hbi.1,by omega⟩,key bi hbl hbi.2⟩ (by simp) hl
   simpa [zh_] using this
 · exact ⟨[],⟨rfl,none,0,rfl,nl_ _,by simp [maxLen],fun _=>rfl, .inl rfl⟩,rfl⟩
theorem jH_ (l:List Su) (ids:List Nat) (al ai:Option Addr) (cl ci:Nat) (S T:Nat→Prop) (w:World) (hl:LSl vQ_ S w (.slice al l.length cl) l) (hS:∀ b,S b→b < w.heap.size) (hi:SlC T w 1 (.slice ai ids.length ci) ids.length (iv ids)) (hT:∀ b,T b→b < w.heap.size) (hid:∀ i ∈ ids,i < l.length) (hn:ids.length ≤ 100) (hln:l.length ≤ 1000) :
 Calls Tryz.prog 9 #[.slice al l.length cl, .slice ai ids.length ci] w fun e w'=>∃ a c,e = .returned (.slice a ids.length c)∧FSl (Rg w.heap.size w'.heap.size) w' (.slice a ids.length c) (qy_ l ids)∧Below w.heap.size w w':=by
 have HL:=Go.Proofs.LF.hid hl
 have HS:=Go.Proofs.LF.hid hS
 have HI:=Go.Proofs.LF.hid hi
 have HT:=Go.Proofs.LF.hid hT
 have HD:=Go.Proofs.LF.hid hid
 obtain ⟨i0,hi0,hy0,hy1,hy2⟩:=info_parts Tryz.info85i
 obtain ⟨q,hq⟩:∃ q,w.heap.size = q:=⟨_,rfl⟩
 have HQ:=Go.Proofs.LF.hid hq
 clear hl hS hi hT hid hq
 go_enter Tryz.func9,Tryz.ntmps9
 go_wp2_with fail
 go_loopw [5,10] (fun vo vi wr=>∃ k:Nat,k ≤ ids.length∧vi = .int .i64 k∧SvS q vo (qy_ l (ids.take k)) wr∧Hid (Below q w wr)) (fun _ vi _=>ids.length - (intOf vi).toNat)
 case atStart=>exact ⟨0,by omega,rfl,SvS.nil _ _,by rw [← HQ.out];exact Below.refl _ _⟩
 case round=>
  obtain ⟨k,hk,rfl,hsv,HB⟩:=hrel
  have hsvl:(qy_ l (ids.take k)).len = k:=by rw [qK_,List.length_take];omega
  obtain ⟨cs,hown,hfc⟩:=hsv
  rw [hsvl] at hown
  obtain ⟨sa,sc,rfl,hsc1,hsc2⟩:=owns_shape hown
  by_cases hlt:k < ids.length
  · have hlt':(k:Int) < (ids.length:Int):=by omega
    have h0:(0:Int) ≤ (k:Int):=by omega
    obtain ⟨gi,oi,hai,hgi,_,_,hci⟩:=SlC.cells HI.out (by omega)
    obtain ⟨id_,hid_⟩:∃ i,ids[k] = i:=⟨_,rfl⟩
    have hidl:id_ < l.length:=HD.out id_ (by rw [← hid_];exact List.getElem_mem hlt)
    have ci0:=hci k (.int .i64 id_) (by simp [iv,hlt,hid_])
    obtain ⟨a0,k0,hae,_,_,hat⟩:=LSl.at HL.out
    obtain ⟨g,o,c1,hag,hSg,hR,hcl⟩:=hat id_ hidl
    obtain ⟨rfl,hck⟩:al = a0∧cl = k0:=by simpa using hae
    clear hck hae
    obtain ⟨x,hx⟩:∃ x,l[id_] = x:=⟨_,rfl⟩
    rw [hx] at hR
    have hR:c1 = (suC x).toList:=hR
    subst hR
    have hgw:=HS.out g hSg
    have hgiw:=HT.out gi hgi
    have hbw:Below w.heap.size w wr:=HQ.out ▸ HB.out
    have ci1:=bc_ hbw hgiw ci0
    have hXN:=Go.Proofs.LF.hid (show qy_ l (ids.take (k + 1)) = (qy_ l (ids.take k)).app (.cons k4_ [(id_:Int),(x.m:Int),x.lo,x.hi] .nil .nil) by
     rw [List.take_succ_eq_append_getElem hlt,yz_,hid_,qy_,qy_,j5_,List.getD_eq_getElem?_getD,List.getElem?_eq_getElem hidl,Option.getD_some,hx])
    have hiI:(id_:Int) < (l.length:Int):=by omega
    have hi0':(0:Int) ≤ (id_:Int):=by omega
    subst hai
    obtain ⟨x0,hx0⟩:∃ y,wr.drew = y:=⟨_,rfl⟩
    have hbd:Below wr.heap.size wr x0:=by rw [← hx0];exact (Below.refl _ wr).drew
    have hb0:Below w.heap.size w x0:=hbw.trans (hbd.mono hbw.size)
    have hS0:x0.cell? ⟨g,o + id_ * 3,none⟩ = some (.int .i64 x.m)∧x0.cell? ⟨g,o + id_ * 3 + 1,none⟩ = some (.int .i64 x.lo)∧x0.cell? ⟨g,o + id_ * 3 + 2,none⟩ = some (.int .i64 x.hi):=⟨bc_ hb0 hgw (by have:=hcl 0 _ rfl;simpa using this),bc_ hb0 hgw (by have:=hcl 1 _ rfl;simpa [Nat.add_assoc] using this),bc_ hb0 hgw (by have:=hcl 2 _ rfl;simpa [Nat.add_assoc] using this)⟩
    have hz0:=hbd.size
    have OW0:=ob_ hown hbd (nl_ _)
    have FC0:=(FCs.agree (qc_ hbd fun b hb=>hb.1.2) hfc).wide (S':=fun b=>Rg q x0.heap.size b∧(Value.slice sa k sc).ownBlock ≠ some b) fun b hb=>⟨⟨hb.1.1,by have:=hb.1.2;omega⟩,hb.2⟩
    have OWH:=Go.Proofs.LF.hid OW0
    have FCH:=Go.Proofs.LF.hid FC0
    have HBW:=Go.Proofs.LF.hid hb0
    subst hag
    clear hown hfc hbd hb0 hbw HB OW0 FC0 ci0 hci hcl hat hid_ hx
    go_upto_region 5 with fail
    refine (wpIn_wide (n:=9)).1 ?_
    refine q6_ (fun V:World=>V.cell? ⟨g,o + id_ * 3,none⟩ = some (.int .i64 x.m)∧V.cell? ⟨g,o + id_ * 3 + 1,none⟩ = some (.int .i64 x.lo)∧V.cell? ⟨g,o + id_ * 3 + 2,none⟩ = some (.int .i64 x.hi)) (by kernel_rfl) ?_
    try rw [hx0]
    clear hx0
    refine tkZ 0 14 (.slice sa k sc) rfl rfl hS0 ?_
    refine tkZ 1 15 (.int .i64 id_) rfl rfl hS0 ?_
    refine tkZ 2 16 (.slice (some ⟨g,o,none⟩) l.length cl) rfl rfl hS0 ?_
    refine tkZ 3 17 (.int .i64 id_) rfl rfl hS0 ?_
    refine tkZ 4 18 (.pointer (some ⟨g,o + id_ * 3,none⟩)) rfl rfl hS0 ?_
    refine tkZ 5 19 (.pointer (some ⟨g,o + id_ * 3,none⟩)) rfl rfl hS0 ?_
    refine tkZ 6 20 (.int .i64 x.m) rfl rfl hS0 ?_
    refine tkZ 7 21 (.slice (some ⟨g,o,none⟩) l.length cl) rfl rfl hS0 ?_
    refine tkZ 8 22 (.int .i64 id_) rfl rfl hS0 ?_
    refine tkZ 9 23 (.pointer (some ⟨g,o + id_ * 3,none⟩)) rfl rfl hS0 ?_
    refine tkZ 10 24 (.pointer (some ⟨g,o + id_ * 3 + 1,none⟩)) rfl rfl hS0 ?_
    refine tkZ 11 25 (.pointer (some ⟨g,o + id_ * 3 + 1,none⟩)) rfl rfl hS0 ?_
    refine tkZ 12 26 (.int .i64 x.lo) rfl rfl hS0 ?_
    refine tkZ 13 27 (.slice (some ⟨g,o,none⟩) l.length cl) rfl rfl hS0 ?_
    refine tkZ 14 28 (.int .i64 id_) rfl rfl hS0 ?_
    refine tkZ 15 29 (.pointer (some ⟨g,o + id_ * 3,none⟩)) rfl rfl hS0 ?_
    refine tkZ 16 30 (.pointer (some ⟨g,o + id_ * 3 + 1,none⟩)) rfl rfl hS0 ?_
    refine tkZ 17 31 (.pointer (some ⟨g,o + id_ * 3 + 2,none⟩)) rfl rfl hS0 ?_
    refine tkZ 18 32 (.int .i64 x.hi) rfl rfl hS0 ?_
    refine aHO 19 rfl fun K hK=>?_
    go_simp
    obtain ⟨x1,hx1⟩:∃ y,x0.alloc (.cells #[.int .i64 id_, .int .i64 x.m, .int .i64 x.lo, .int .i64 x.hi] 3) = y:=⟨_,rfl⟩
    have hb1:Below x0.heap.size x0 x1:=by rw [← hx1];exact (Below.refl _ _).alloc (nl_ _) _
    have hn1:x1.heap[x0.heap.size]? = some (.cells #[.int .i64 id_, .int .i64 x.m, .int .i64 x.lo, .int .i64 x.hi] 3 (0,0)):=by rw [← hx1];exact ha_ _ _
    have hz1:x1.heap.size = x0.heap.size + 1:=by rw [← hx1];simp
    obtain ⟨bi,hbi⟩:∃ b,x0.heap.size = b:=⟨_,rfl⟩
    rw [hx1]
    try simp only [hbi]
    have hgx0:g < x0.heap.size:=by have:=HBW.out.size;omega
    have hqx0:q ≤ x0.heap.size:=by have:=HBW.out.size;have:=HQ.out;omega
    have hnb:(Value.slice sa k sc).ownBlock ≠ some bi:=fun e=>by have:=(OWH.out.lt bi e).2;omega
    have hS1:x1.cell? ⟨g,o + id_ * 3,none⟩ = some (.int .i64 x.m)∧x1.cell? ⟨g,o + id_ * 3 + 1,none⟩ = some (.int .i64 x.lo)∧x1.cell? ⟨g,o + id_ * 3 + 2,none⟩ = some (.int .i64 x.hi):=⟨bc_ hb1 hgx0 hS0.1,bc_ hb1 hgx0 hS0.2.1,bc_ hb1 hgx0 hS0.2.2⟩
    have OW1:=Go.Proofs.LF.hid (ob_ OWH.out hb1 (nl_ _))
    have FC1:=Go.Proofs.LF.hid ((FCs.agree (qc_ hb1 fun b hb=>hb.1.2) FCH.out).wide (S':=fun b=>Rg q x1.heap.size b∧(Value.slice sa k sc).ownBlock ≠ some b) fun b hb=>⟨⟨hb.1.1,by have:=hb.1.2;omega⟩,hb.2⟩)
    have HB1:=Go.Proofs.LF.hid (HBW.out.trans (hb1.mono HBW.out.size))
    rw [hbi] at hn1 hz1
    refine hK _ _ ⟨hS1,?_⟩
    clear hK hS0 hx1 hb1 OWH FCH HBW
    refine tkZ 20 34 (.agg #[.string ⟨#[115,117,114,118,101,121]⟩, .slice (some ⟨bi,0,none⟩) 4 4, .slice none 0 0]) rfl rfl hS1 ?_
    refine aHO 21 rfl fun K hK=>?_
    go_simp
    obtain ⟨x2,hx2⟩:∃ y,x1.alloc (.cells #[.string ⟨#[115,117,114,118,101,121]⟩, .slice (some ⟨bi,0,none⟩) 4 4, .slice none 0 0] 109) = y:=⟨_,rfl⟩
    have hb2:Below x1.heap.size x1 x2:=by rw [← hx2];exact (Below.refl _ _).alloc (nl_ _) _
    have hn2:x2.heap[x1.heap.size]? = some (.cells #[.string ⟨#[115,117,114,118,101,121]⟩, .slice (some ⟨bi,0,none⟩) 4 4, .slice none 0 0] 109 (0,0)):=by rw [← hx2];exact ha_ _ _
    obtain ⟨bk,hbk⟩:∃ b,bi + 1 = b:=⟨_,rfl⟩
    rw [hx2]
    rw [hz1,hbk] at hn2
    try simp only [hbk]
    have hgx1:g < x1.heap.size:=by omega
    have hS2:x2.cell? ⟨g,o + id_ * 3,none⟩ = some (.int .i64 x.m)∧x2.cell? ⟨g,o + id_ * 3 + 1,none⟩ = some (.int .i64 x.lo)∧x2.cell? ⟨g,o + id_ * 3 + 2,none⟩ = some (.int .i64 x.hi):=⟨bc_ hb2 hgx1 hS1.1,bc_ hb2 hgx1 hS1.2.1,bc_ hb2 hgx1 hS1.2.2⟩
    have OW2:=ob_ OW1.out hb2 (nl_ _)
    have hz2:=hb2.size
    have FC2:=Go.Proofs.LF.hid ((FCs.agree (qc_ hb2 fun b hb=>hb.1.2) FC1.out).wide (S':=fun b=>Rg q x2.heap.size b∧(Value.slice sa k sc).ownBlock ≠ some b) fun b hb=>⟨⟨hb.1.1,by have:=hb.1.2;omega⟩,hb.2⟩)
    have HB2:=Go.Proofs.LF.hid (HB1.out.trans (hb2.mono HB1.out.size))
    have NI2:=q0_ (b:=bi) hn1 hb2
    refine hK _ _ ⟨hS2,?_⟩
    clear hK hS1 hx2 hb2 OW1 FC1 hn1
    refine aHO 22 rfl fun K hK=>?_
    obtain ⟨a5,c5,x3,hr,hown5,hg5,hat5⟩:=run_append_ao (P:=Tryz.prog) (w:=x2) 38 38 q 109 i0 _ 3 64 Tryz.underlying38 hi0 hy0 hy1 hy2 rfl (by omega) _ k _ OW2 (some ⟨bk,0,none⟩) 1 1 [.string ⟨#[115,117,114,118,101,121]⟩, .slice (some ⟨bi,0,none⟩) 4 4, .slice none 0 0] rfl (fun h=>by cases h) (fun ad had=>by cases had;exact fun j u hj=>World.news_of_block (cs:=#[.string ⟨#[115,117,114,118,101,121]⟩, .slice (some ⟨bi,0,none⟩) 4 4, .slice none 0 0]) (t:=109) (fr:=(0,0)) hn2 j u (by simpa using hj)) (by intro u hu;simp at hu;rcases hu with rfl | rfl | rfl <;> rfl) (by unfold maxLen;omega) (by omega) (by omega)
    refine wa_ rfl rfl rfl hr ?_
    have SV3:SvS q (.slice a5 (k + 1) c5) (qy_ l (ids.take (k + 1))) x3:=by
     rw [hXN.out]
     refine SvS.push (bi:=bi) cs FC2.out hg5 (by rw [hsvl];exact hown5) NI2 ⟨by omega,hnb⟩ hat5 (by simp [maxLen])
    have SVH:=Go.Proofs.LF.hid SV3
    have hrq:∀ b,(Value.slice sa k sc).ownBlock = some b→q ≤ b:=fun b hb=>(OW2.lt b hb).1
    have hgq:(Value.slice sa k sc).ownBlock ≠ some g:=fun e=>by have:=hrq g e;have:=HQ.out;omega
    have n2:=hg5.block g (by omega) (fun e=>hgq e.symm)
    have hce:∀ k u,x2.cell? ⟨g,k,none⟩ = some u→x3.cell? ⟨g,k,none⟩ = some u:=fun k u h=>(World.cell?_of_block (w:=x2) (w':=x3) (a:=⟨g,k,none⟩) n2).trans h
    have HB3:=Go.Proofs.LF.hid (show Below q w x3 from (HQ.out ▸ HB2.out:Below q w x2).grown hg5 (by omega) (fun b hb=>hrq b hb))
    have hS3:x3.cell? ⟨g,o + id_ * 3,none⟩ = some (.int .i64 x.m)∧x3.cell? ⟨g,o + id_ * 3 + 1,none⟩ = some (.int .i64 x.lo)∧x3.cell? ⟨g,o + id_ * 3 + 2,none⟩ = some (.int .i64 x.hi):=⟨hce _ _ hS2.1,hce _ _ hS2.2.1,hce _ _ hS2.2.2⟩
    refine hK _ _ ⟨hS3,?_⟩
    clear hK hS2 hr hown5 hg5 hat5 n2 hce OW2 hn2 FC2 SV3 NI2 HB2 hrq hgq hnb
    refine aHO 23 rfl fun K hK=>?_
    go_simp
    refine hK _ _ ⟨hS3,?_⟩
    clear hK hS3
    refine q7_ (by kernel_rfl) ?_
    go_simp
    go_wp2_with fail
    go_roundw
    case rel=>exact ⟨k + 1,by omega,by go_num,SVH.out,HB3.out⟩
    case measure=>simp [intOf];omega
  · have hkk:k = ids.length:=by omega
    have HK:=Go.Proofs.LF.hid hkk
    have hnI:¬ (k:Int) < (ids.length:Int):=by omega
    have hsv:SvS q (.slice sa k sc) (qy_ l (ids.take k)) wr:=⟨cs,by rw [hsvl];exact hown,hfc⟩
    have SVH:=Go.Proofs.LF.hid hsv
    clear hkk hown hfc hsv
    go_wp2_with fail
    go_ret
    have h:=SVH.out.fsl
    rw [HK.out,List.take_length] at h
    rw [HK.out,HQ.out]
    exact ⟨sa,sc,rfl,h,HB.out⟩
theorem Tryz.info37r:(Tryz.prog.info? 37).map (fun i=>(i.zero,i.size,i.bytes)) = some (some (.agg #[.int .i64 0, .int .i64 0, .int .i64 0]),3,24):=by kernel_rfl
def surQ:List (Int × Su)→Fo
 | [] => .nil
 | p :: r => .cons k4_ [p.1,(p.2.m:Int),p.2.lo,p.2.hi] .nil (surQ r)
theorem yh_:∀ L,(surQ L).len = L.length
 | []=>rfl
 | p :: r=>by simp only [surQ,Fo.len,yh_ r,List.length_cons]
theorem xY_:∀ (k:Nat) (L:List (Int × Su)),(surQ L).drop k = surQ (L.drop k)
 | 0,L=>by cases L <;> rfl
 | k + 1,[]=>rfl
 | k + 1,p :: r=>by simp only [surQ,Fo.drop,List.drop_succ_cons,xY_ k r]
theorem surF_Q (l:List Su):∀ ids:List Nat,qy_ l ids = surQ (ids.map fun i:Nat=>((i:Int),l.getD i ⟨0,0,0⟩))
 | []=>rfl
 | i :: r=>by simp only [qy_,List.map_cons,surQ,j5_,surF_Q l r]
def suL (L:List Su):List Value:=L.flatMap fun x=>(suC x).toList
theorem kR_ (L:List (Int × Su)) (a:Option Addr) (c:Nat) (S:Nat→Prop) (w:World) (hf:FSl S w (.slice a L.length c) (surQ L)) (hS:∀ b,S b→b < w.heap.size) (hn:L.length ≤ 100) :
 Calls Tryz.prog 12 #[.slice a L.length c] w fun e w'=>∃ v,e = .returned (.tuple #[v, .bool true])∧w'.ownsRow w.heap.size 37 3 v L.length (suL (L.map Prod.snd))∧Below w.heap.size w w':=by
 obtain ⟨cs,hsl,hfc⟩:=hf
 rw [yh_] at hsl
 have HSL:=hid hsl
 have HFC:=hid hfc
 have HS:=hid hS
 obtain ⟨i0,hi0,hy0,hy1,hy2⟩:=info_parts Tryz.info37r
 obtain ⟨q,hq⟩:∃ q,w.heap.size = q:=⟨_,rfl⟩
 have HQ:=hid hq
 clear hsl hfc hS hq
 go_enter Tryz.func12,Tryz.ntmps12
 go_wp2_with fail
 go_loopw [4,9] (fun vo vi wr=>∃ k:Nat,k ≤ L.length∧vi = .int .i64 k∧wr.ownsRow q 37 3 vo k (suL ((L.take k).map Prod.snd))∧Hid (Below q w wr)) (fun _ vi _=>L.length - (intOf vi).toNat)
 case atStart=>exact ⟨0,by omega,rfl,World.ownsRow_nil _ _ _ _,by rw [← HQ.out];exact Below.refl _ _⟩
 case round=>
  obtain ⟨k,hk,rfl,hown,HB⟩:=hrel
  obtain ⟨sa,sc,rfl,hsc1,hsc2⟩:=owns_shape hown
  have hq0:=HB.out.size
  have hqq:q ≤ wr.heap.size:=by have:=HQ.out;omega
  by_cases hlt:k < L.length
  · have hlt':(k:Int) < (L.length:Int):=by omega
    have h0:(0:Int) ≤ (k:Int):=by omega
    obtain ⟨g,o,hag,hSg,_,_,hcl⟩:=SlC.cells HSL.out (by omega)
    have hd:=HFC.out.drop (i:=k)
    rw [xY_,List.drop_eq_getElem_cons hlt] at hd
    obtain ⟨p,hp⟩:∃ p,L[k] = p:=⟨_,rfl⟩
    obtain ⟨pi,x⟩:=p
    rw [hp] at hd
    obtain ⟨vn,vs,cs',hcs,hin,⟨ds,hvs,_⟩,_⟩:=hd
    have hin:SlC S w 1 vn 4 [.int .i64 pi, .int .i64 x.m, .int .i64 x.lo, .int .i64 x.hi]:=hin
    obtain ⟨an,cn,rfl,_,_⟩:=SlC.shape hin
    obtain ⟨as_,cs_,hvs',_,_⟩:=SlC.shape hvs
    obtain ⟨gn,on,rfl,hSn,_,_,hcn⟩:=SlC.cells hin (by omega)
    subst hvs'
    have hgw:=HS.out g hSg
    have hgn:=HS.out gn hSn
    have hbw:Below w.heap.size w wr:=HQ.out ▸ HB.out
    have hat:∀ j u,(Value.string (bs k4_) :: Value.slice (some ⟨gn,on,none⟩) 4 cn :: Value.slice as_ Fo.nil.len cs_ :: cs')[j]? = some u→wr.cell? ⟨g,o + k * 3 + j,none⟩ = some u:=fun j u hj=>by
     rw [← hcs,List.getElem?_drop] at hj
     have:=bc_ hbw hgw (hcl _ _ hj)
     rwa [← Nat.add_assoc] at this
    have e0:=hat 0 _ rfl
    rw [Nat.add_zero] at e0
    have e1:=hat 1 _ rfl
    have e2:=hat 2 _ rfl
    have hLT:=hid (show suL ((L.take (k + 1)).map Prod.snd) = suL ((L.take k).map Prod.snd) ++ (suC x).toList by
     rw [List.take_succ_eq_append_getElem hlt,hp];simp [suL])
    obtain ⟨w2,hw2⟩:∃ w2,wr.alloc (.cells #[.string (bs k4_), .slice (some ⟨gn,on,none⟩) 4 cn, .slice as_ Fo.nil.len cs_] 109) = w2:=⟨_,rfl⟩
    have hb2:Below wr.heap.size wr w2:=by rw [← hw2];exact (Below.refl _ _).alloc (nl_ _) _
    have hn2:w2.heap[wr.heap.size]? = some (.cells #[.string (bs k4_), .slice (some ⟨gn,on,none⟩) 4 cn, .slice as_ Fo.nil.len cs_] 109 (0,0)):=by rw [← hw2];exact ha_ _ _
    have z0:=cg_ hn2 (k:=0) (v := .string ⟨#[115,117,114,118,101,121]⟩) rfl
    have z1:=cg_ hn2 (k:=1) (v := .slice (some ⟨gn,on,none⟩) 4 cn) rfl
    obtain ⟨bx,hbx⟩:∃ b,wr.heap.size = b:=⟨_,rfl⟩
    rw [hbx] at hn2 z0 z1
    have OW2:=ob_ hown hb2 (nl_ _)
    have HB2:=HB.out.trans (hb2.mono hqq)
    have hqx:q ≤ bx:=by omega
    have hbxl:=(ge_ hn2).1
    have hrb:∀ b,(Value.slice sa k sc).ownBlock = some b→q ≤ b∧b < bx:=fun b hb=>by rw [← hbx];exact hown.lt b hb
    have hc1:=bc_ (HQ.out ▸ HB2:Below w.heap.size w w2) hgn (hcn 1 _ rfl)
    have hc2:=bc_ (HQ.out ▸ HB2:Below w.heap.size w w2) hgn (hcn 2 _ rfl)
    have hc3:=bc_ (HQ.out ▸ HB2:Below w.heap.size w w2) hgn (hcn 3 _ rfl)
    have hgq:gn < q:=by have:=HQ.out;omega
    subst hag
    clear hat hcn hin hvs hcs hcl hbw hown hb2
    go_upto_region 7 with fail
    try rw [hw2]
    try simp only [hbx]
    obtain ⟨x0,hx0⟩:∃ y,w2.drew = y:=⟨_,rfl⟩
    have hbd:Below w2.heap.size w2 x0:=by rw [← hx0];exact (Below.refl _ w2).drew
    have hgn2:gn < w2.heap.size:=by omega
    have hS0:x0.cell? ⟨bx,1,none⟩ = some (.slice (some ⟨gn,on,none⟩) 4 cn)∧x0.cell? ⟨gn,on + 1,none⟩ = some (.int .i64 x.m)∧x0.cell? ⟨gn,on + 2,none⟩ = some (.int .i64 x.lo)∧x0.cell? ⟨gn,on + 3,none⟩ = some (.int .i64 x.hi):=⟨bc_ hbd hbxl z1,bc_ hbd hgn2 hc1,bc_ hbd hgn2 hc2,bc_ hbd hgn2 hc3⟩
    have hz0:=hbd.size
    have OW0:=hid (ob_ OW2 hbd (nl_ _))
    have HB0:=hid (HB2.trans (hbd.mono (by omega)))
    clear hbd OW2 HB2 hc1 hc2 hc3 z0 z1 e0 e1 e2 hn2 hw2 hbx
    refine (wpIn_wide (n:=9)).1 ?_
    refine q6_ (fun V:World=>V.cell? ⟨bx,1,none⟩ = some (.slice (some ⟨gn,on,none⟩) 4 cn)∧V.cell? ⟨gn,on + 1,none⟩ = some (.int .i64 x.m)∧V.cell? ⟨gn,on + 2,none⟩ = some (.int .i64 x.lo)∧V.cell? ⟨gn,on + 3,none⟩ = some (.int .i64 x.hi)) (by kernel_rfl) ?_
    try rw [hx0]
    clear hx0
    refine tkZ 0 22 (.slice sa k sc) rfl rfl hS0 ?_
    refine tkZ 1 23 (.pointer (some ⟨bx,1,none⟩)) rfl rfl hS0 ?_
    refine tkZ 2 24 (.slice (some ⟨gn,on,none⟩) 4 cn) rfl rfl hS0 ?_
    refine tkZ 3 25 (.pointer (some ⟨gn,on + 1,none⟩)) rfl rfl hS0 ?_
    refine tkZ 4 26 (.int .i64 x.m) rfl rfl hS0 ?_
    refine tkZ 5 27 (.pointer (some ⟨bx,1,none⟩)) rfl rfl hS0 ?_
    refine tkZ 6 28 (.slice (some ⟨gn,on,none⟩) 4 cn) rfl rfl hS0 ?_
    refine tkZ 7 29 (.pointer (some ⟨gn,on + 2,none⟩)) rfl rfl hS0 ?_
    refine tkZ 8 30 (.int .i64 x.lo) rfl rfl hS0 ?_
    refine tkZ 9 31 (.pointer (some ⟨bx,1,none⟩)) rfl rfl hS0 ?_
    refine tkZ 10 32 (.slice (some ⟨gn,on,none⟩) 4 cn) rfl rfl hS0 ?_
    refine tkZ 11 33 (.pointer (some ⟨gn,on + 3,none⟩)) rfl rfl hS0 ?_
    refine tkZ 12 34 (.int .i64 x.hi) rfl rfl hS0 ?_
    refine tkZ 13 35 (.agg #[.int .i64 x.lo, .int .i64 x.hi]) rfl rfl hS0 ?_
    refine tkZ 14 36 (.agg #[.int .i64 x.m, .int .i64 x.lo, .int .i64 x.hi]) rfl rfl hS0 ?_
    refine aHO 15 rfl fun K hK=>?_
    go_simp
    obtain ⟨x1,hx1⟩:∃ y,x0.alloc (.cells #[.int .i64 x.m, .int .i64 x.lo, .int .i64 x.hi] 37) = y:=⟨_,rfl⟩
    have hb1:Below x0.heap.size x0 x1:=by rw [← hx1];exact (Below.refl _ _).alloc (nl_ _) _
    have hn1:x1.heap[x0.heap.size]? = some (.cells #[.int .i64 x.m, .int .i64 x.lo, .int .i64 x.hi] 37 (0,0)):=by rw [← hx1];exact ha_ _ _
    obtain ⟨bk,hbk⟩:∃ b,x0.heap.size = b:=⟨_,rfl⟩
    rw [hx1]
    try simp only [hbk]
    have hb0:bx < x0.heap.size:=by omega
    have hg0:gn < x0.heap.size:=by omega
    have hS1:x1.cell? ⟨bx,1,none⟩ = some (.slice (some ⟨gn,on,none⟩) 4 cn)∧x1.cell? ⟨gn,on + 1,none⟩ = some (.int .i64 x.m)∧x1.cell? ⟨gn,on + 2,none⟩ = some (.int .i64 x.lo)∧x1.cell? ⟨gn,on + 3,none⟩ = some (.int .i64 x.hi):=⟨bc_ hb1 hb0 hS0.1,bc_ hb1 hg0 hS0.2.1,bc_ hb1 hg0 hS0.2.2.1,bc_ hb1 hg0 hS0.2.2.2⟩
    have OW1:=ob_ OW0.out hb1 (nl_ _)
    have HB1:=HB0.out.trans (hb1.mono (by omega))
    have hz1:=hb1.size
    rw [hbk] at hn1
    refine hK _ _ ⟨hS1,?_⟩
    clear hK hS0 hx1 hb1 OW0 HB0
    refine aHO 16 rfl fun K hK=>?_
    obtain ⟨a5,c5,x3,hr,hown5,hg5,hat5⟩:=run_append_ao (P:=Tryz.prog) (w:=x1) 24 24 q 37 i0 _ 3 24 Tryz.underlying24 hi0 hy0 hy1 hy2 rfl (by omega) _ k _ OW1 (some ⟨bk,0,none⟩) 1 1 (suC x).toList rfl (fun h=>by cases h) (fun ad had=>by cases had;exact fun j u hj=>World.news_of_block (cs:=#[.int .i64 x.m, .int .i64 x.lo, .int .i64 x.hi]) (t:=37) (fr:=(0,0)) hn1 j u (by simpa [suC] using hj)) (by intro u hu;simp [suC] at hu;rcases hu with rfl | rfl | rfl <;> rfl) (by unfold maxLen;omega) (by omega) (by omega)
    refine wa_ rfl rfl rfl hr ?_
    have hx1b:bx < x1.heap.size:=by omega
    have hx1g:gn < x1.heap.size:=by omega
    have n1:=hg5.block bx hx1b (fun e=>by have:=(hrb bx e.symm).2;omega)
    have n2:=hg5.block gn hx1g (fun e=>by have:=(hrb gn e.symm).1;omega)
    have hce1:∀ k u,x1.cell? ⟨bx,k,none⟩ = some u→x3.cell? ⟨bx,k,none⟩ = some u:=fun k u h=>(World.cell?_of_block (w:=x1) (w':=x3) (a:=⟨bx,k,none⟩) n1).trans h
    have hce2:∀ k u,x1.cell? ⟨gn,k,none⟩ = some u→x3.cell? ⟨gn,k,none⟩ = some u:=fun k u h=>(World.cell?_of_block (w:=x1) (w':=x3) (a:=⟨gn,k,none⟩) n2).trans h
    have HB3:=hid (show Below q w x3 from HB1.grown hg5 (by omega) (fun b hb=>(hrb b hb).1))
    have OW3:=hid (show x3.ownsRow q 37 3 (.slice a5 (k + 1) c5) (k + 1) (suL ((L.take (k + 1)).map Prod.snd)) by rw [hLT.out];exact hown5)
    have hS3:x3.cell? ⟨bx,1,none⟩ = some (.slice (some ⟨gn,on,none⟩) 4 cn)∧x3.cell? ⟨gn,on + 1,none⟩ = some (.int .i64 x.m)∧x3.cell? ⟨gn,on + 2,none⟩ = some (.int .i64 x.lo)∧x3.cell? ⟨gn,on + 3,none⟩ = some (.int .i64 x.hi):=⟨hce1 _ _ hS1.1,hce2 _ _ hS1.2.1,hce2 _ _ hS1.2.2.1,hce2 _ _ hS1.2.2.2⟩
    refine hK _ _ ⟨hS3,?_⟩
    clear hK hS1 hr hown5 hg5 hat5 n1 n2 hce1 hce2 hn1 OW1 HB1
    refine aHO 17 rfl fun K hK=>?_
    go_simp
    refine hK _ _ ⟨hS3,?_⟩
    clear hK hS3
    refine q7_ (by kernel_rfl) ?_
    go_simp
    go_wp2_with fail
    go_roundw
    case rel=>exact ⟨k + 1,by omega,by go_num,OW3.out,HB3.out⟩
    case measure=>simp [intOf];omega
  · have hkk:k = L.length:=by omega
    have HK:=hid hkk
    have hnI:¬ (k:Int) < (L.length:Int):=by omega
    have OW:=hid hown
    clear hkk hown
    go_wp2_with fail
    refine bodyPost_ret (v := .tuple #[.slice sa k sc, .bool true]) (by simp [results,Tryz.results12,go_sem]) rfl ?_
    have h:=OW.out
    rw [HK.out,List.take_length] at h
    rw [HK.out,HQ.out]
    exact ⟨_,rfl,h,HB.out⟩
theorem year1_any (room first uns:Int) (ms:List Mo) (ss:List Su) (am as_ at_:Option Addr) (cm cs_ ct b7 b8:Nat) (S:Nat→Prop) (w:World) (hm:LSl yn_ S w (.slice am ms.length cm) ms) (hs:LSl vQ_ S w (.slice as_ ss.length cs_) ss) (hS:∀ b,S b→b < w.heap.size) (hO:OkBed room first uns ms ss) (hne:∀ m,m ≤ ms.length→∃ n,n < 121∧rowF room ss ms (first - uns) (first + uns) m n = true)
 (h7:w.heap[b7]? = some (.cells (z7_ room first uns (.slice am ms.length cm) (.slice none 0 0)) 26 (0,0))) (h8:w.heap[b8]? = some (.cells #[.slice at_ (ms.length + 1) ct] 27 (0,0))) :
 Calls Tryz.prog 13 #[.slice as_ ss.length cs_, .pointer (some ⟨b7,0,none⟩), .pointer (some ⟨b8,0,none⟩)] w fun e w'=>∃ a c,e = .returned (.tuple #[.slice a (ms.length + 1) c, .bool true])∧w'.ownsRow w.heap.size 35 2 (.slice a (ms.length + 1) c) (ms.length + 1) (spV (bndL room ss ms (first - uns) (first + uns)))∧Below w.heap.size w w':=by
 have q0:=cg_ h7 (k:=0) (v := .int .i64 room) rfl
 have q1:=cg_ h7 (k:=1) (v := .int .i64 first) rfl
 have q2:=cg_ h7 (k:=2) (v := .int .i64 uns) rfl
 have q3:=cg_ h7 (k:=3) (v := .slice am ms.length cm) rfl
 have q4:=cg_ h7 (k:=4) (v := .slice none 0 0) rfl
 obtain ⟨w1,hw1⟩:∃ w1,w.alloc (.cells (z7_ room first uns (.slice am ms.length cm) (.slice as_ ss.length cs_)) 26) = w1:=⟨_,rfl⟩
 have hb1:Below w.heap.size w w1:=by rw [← hw1];exact (Below.refl _ _).alloc (nl_ _) _
 have hn1:w1.heap[w.heap.size]? = some (.cells (z7_ room first uns (.slice am ms.length cm) (.slice as_ ss.length cs_)) 26 (0,0)):=by rw [← hw1];exact ha_ _ _
 have c0:=cg_ hn1 (k:=0) (v := .int .i64 room) rfl
 have c1:=cg_ hn1 (k:=1) (v := .int .i64 first) rfl
 have c2:=cg_ hn1 (k:=2) (v := .int .i64 uns) rfl
 have c3:=cg_ hn1 (k:=3) (v := .slice am ms.length cm) rfl
 have c4:=cg_ hn1 (k:=4) (v := .slice as_ ss.length cs_) rfl
 have BO:=hid (yM_ room first uns ms ss am as_ cm cs_ S w1 (hm.agree (qc_ hb1 hS)) (hs.agree (qc_ hb1 hS)) (fun b hb=>by have:=hS b hb;have:=hb1.size;omega) hO hne)
 have B1:=hid hb1
 have H8:=hid h8
 have h8l:=(ge_ h8).1
 obtain ⟨BL,hBL⟩:∃ l,bndL room ss ms (first - uns) (first + uns) = l:=⟨_,rfl⟩
 rw [hBL] at BO
 clear hm hs hS hO hne hb1 hn1 h7 h8
 go_enter Tryz.func13,Tryz.ntmps13
 go_upto_region 3 with fail
 go_wp2_with fail
 rw [show w.alloc (.cells #[.int .i64 room, .int .i64 first, .int .i64 uns, .slice am ms.length cm, .slice as_ ss.length cs_] 26) = w1 from hw1]
 refine BO.out.mono ?_
 rintro e w2 ⟨v,rfl,hown,hb2⟩
 obtain ⟨a,c,rfl,_,_⟩:=owns_shape hown
 have hz1:=B1.out.size
 have B2:=hid (B1.out.trans (hb2.mono hz1))
 have OW:=hid hown
 clear hown hb2 BO c0 c1 c2 c3 c4 q0 q1 q2 q3 q4 hw1
 go_upto_region 4 with fail
 obtain ⟨x0,hx0⟩:∃ y,w2.drew = y:=⟨_,rfl⟩
 have hbd:Below w2.heap.size w2 x0:=by rw [← hx0];exact (Below.refl _ w2).drew
 have B0:=hid (B2.out.trans (hbd.mono B2.out.size))
 have hS0:x0.cell? ⟨b8,0,none⟩ = some (.slice at_ (ms.length + 1) ct):=cg_ (q0_ H8.out B0.out) (k:=0) rfl
 have OW0:=hid (ob_ OW.out hbd (nl_ _))
 clear hbd OW B2
 refine (wpIn_wide (n:=9)).1 ?_
 refine q6_ (fun V:World=>V.cell? ⟨b8,0,none⟩ = some (.slice at_ (ms.length + 1) ct)) (by kernel_rfl) ?_
 try rw [hx0]
 clear hx0
 refine tkY 0 17 (.slice a (ms.length + 1) c) rfl rfl hS0 (fun w' hs=>?_) ?_
 · go_simp
 refine tkY 1 18 (.int .i64 0) rfl rfl hS0 (fun w' hs=>?_) ?_
 · go_simp
 refine tkY 2 19 (.bool true) rfl rfl hS0 (fun w' hs=>?_) ?_
 · go_simp
 refine tkY 3 20 (.bool true) rfl rfl hS0 (fun w' hs=>?_) ?_
 · go_simp
 refine tkY 4 21 (.slice a (ms.length + 1) c) rfl rfl hS0 (fun w' hs=>?_) ?_
 · go_simp
 refine tkY 5 22 (.int .i64 ((ms.length + 1:Nat):Int)) rfl rfl hS0 (fun w' hs=>?_) ?_
 · go_simp
 refine tkY 6 23 (.slice at_ (ms.length + 1) ct) rfl rfl hS0 (fun w' hs=>?_) ?_
 · go_simp
 refine tkY 7 24 (.int .i64 ((ms.length + 1:Nat):Int)) rfl rfl hS0 (fun w' hs=>?_) ?_
 · go_simp
 refine tkY 8 25 (.bool true) rfl rfl hS0 (fun w' hs=>?_) ?_
 · go_simp
 refine tkY 9 26 (.bool true) rfl rfl hS0 (fun w' hs=>?_) ?_
 · go_simp
 refine aHO 10 rfl fun K hK=>?_
 go_simp
 refine hK _ _ ⟨hS0,?_⟩
 clear hK
 refine aHO 11 rfl fun K hK=>?_
 go_simp
 refine hK _ _ ⟨hS0,?_⟩
 clear hK
 refine q7_ (by kernel_rfl) ?_
 go_simp
 go_wp2_with fail
 refine bodyPost_ret (v := .tuple #[.slice a (ms.length + 1) c, .bool true]) (by simp [results,Tryz.results13,go_sem]) rfl ?_
 have h:=OW0.out
 exact ⟨a,c,rfl,by rw [hBL];exact qF_ h (base':=w.heap.size) (fun g hg=>by have:=(h.lt _ hg).1;omega),B0.out⟩
theorem grs_mono {room g n s t sl sh tl th:Int} (h1:sl ≤ s∧s ≤ sh) (h2:tl ≤ t∧t ≤ th):grs room g n sl th ≤ grs room g n s t∧grs room g n s t ≤ grs room g n sh tl:=by
 simp only [grs]
 omega
theorem grs_bd {room g n s t:Int} (hr:0 ≤ room) (ht:0 ≤ t):0 ≤ grs room g n s t∧grs room g n s t ≤ room:=by
 simp only [grs]
 omega
theorem RealL.snoc {room:Int} {ms:List Mo} {rs:List Int} {x:Mo} {n k:Int} (h:RealL room [] ms rs) (hn:rs[ms.length]? = some n) (hk:0 ≤ k∧k ≤ room) (h1:lvLo room x n ≤ k) (h2:k ≤ lvHi room x n):RealL room [] (ms ++ [x]) (rs ++ [k]):=by
 have hl:=h.len
 refine ⟨by simp [hl],fun i m hm=>?_,fun i y a b hy ha hb=>?_⟩
 · by_cases e:i < rs.length
   · rw [List.getElem?_append_left e] at hm
     exact h.ok i m hm
   · rw [List.getElem?_append_right (by omega)] at hm
     have h3:i - rs.length = 0:=by
      cases hz:i - rs.length with
      | zero=>rfl
      | succ z=>rw [hz] at hm;simp at hm
     rw [h3] at hm
     obtain rfl:k = m:=by simpa using hm
     exact ⟨hk,rfl⟩
 · by_cases e:i < ms.length
   · rw [List.getElem?_append_left e] at hy
     rw [List.getElem?_append_left (by omega)] at ha
     rw [List.getElem?_append_left (by omega)] at hb
     exact h.st i y a b hy ha hb
   · rw [List.getElem?_append_right (by omega)] at hy
     have h3:i - ms.length = 0:=by
      cases hz:i - ms.length with
      | zero=>rfl
      | succ z=>rw [hz] at hy;simp at hy
     have hi:i = ms.length:=by omega
     rw [h3] at hy
     obtain rfl:x = y:=by simpa using hy
     subst hi
     rw [List.getElem?_append_left (by omega),hn] at ha
     obtain rfl:n = a:=by simpa using ha
     rw [List.getElem?_append_right (by omega),show ms.length + 1 - rs.length = 0 by omega] at hb
     obtain rfl:k = b:=by simpa using hb
     exact ⟨h1,h2⟩
theorem RealL.one {room n:Int} (h:0 ≤ n∧n ≤ room):RealL room [] [] [n]:=⟨rfl,fun i m hm=>by
 cases i with
 | zero => obtain rfl : n = m := by simpa using hm
           exact ⟨h,rfl⟩
 | succ i=>simp at hm,fun i x a b hx=>by simp at hx⟩
theorem RealL.with {room:Int} {S:List Su} {ms:List Mo} {rs:List Int} (h:RealL room [] ms rs) (ha:∀ i n,rs[i]? = some n→agr S i n = true):RealL room S ms rs:=⟨h.len,fun i n hn=>⟨(h.ok i n hn).1,ha i n hn⟩,h.st⟩
end Go.Proofs.LB