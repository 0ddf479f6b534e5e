/- Parts of the proof of a law of layer 11 (file): LbS19, LbS20p, LbS20, LbF1, LbB17, LbT1. The conditions stand in each theorem. -/
import Derived.Test.YtffjknkcogmnbaaGreatDoorProg
import Derived.Test.YtffjknkcogmnbaaGreatDoorSpaa
import Derived.Test.YtffjknkcogmnbaaGreatDoorSpac
import Derived.Test.YtffjknkcogmnbaaGreatDoorSpae
import Derived.Test.YtffjknkcogmnbaaGreatDoorSpag
import Derived.Test.YtffjknkcogmnbaaGreatDoorSpah
import Derived.Test.YtffjknkcogmnbaaGreatDoorSpai
import Derived.Test.YtffjknkcogmnbaaGreatDoorSpaj
import Derived.Test.YtffjknkcogmnbaaGreatDoorSpak
import Derived.Test.YtffjknkcogmnbaaGreatDoorSpal
import Derived.Test.YtffjknkcogmnbaaGreatDoorSpan
import Derived.Test.YtffjknkcogmnbaaGreatDoorSpao
import Derived.Test.YtffjknkcogmnbaaGreatDoorSpap
import Derived.Test.YtffjknkcogmnbaaGreatDoorSpaq
import Derived.Test.YtffjknkcogmnbaaGreatDoorSpar
import Derived.Test.YtffjknkcogmnbaaGreatDoorSpas
import Derived.Test.YtffjknkcogmnbaaGreatDoorSpat
import Derived.Test.YtffjknkcogmnbaaGreatDoorSpau
import Derived.Test.YtffjknkcogmnbaaGreatDoorSpav
import Derived.Test.YtffjknkcogmnbaaGreatDoorSpaw
import Derived.Test.YtffjknkcogmnbaaGreatDoorSpax
import Derived.Test.YtffjknkcogmnbaaGreatDoorSpay
import Derived.Test.YtffjknkcogmnbaaGreatDoorSpaz
import Derived.Test.YtffjknkcogmnbaaGreatDoorSpba
import Derived.Test.YtffjknkcogmnbaaGreatDoorSpbd
import Derived.Test.YtffjknkcogmnbaaGreatDoorSpbe
set_option linter.all false
set_option linter.unusedVariables false
set_option linter.unusedSimpArgs false
namespace Go.Proofs.LS
open Go.RowKit Go.Sort Go.Proofs.LF Go.Proofs.LB
set_option maxHeartbeats 4000000
set_option maxRecDepth 100000
attribute [local go_sem] q1_ q2_ q6_
theorem Tryz.info27':(Tryz.prog.info? 27).map (fun i=>(i.zero,i.size,i.bytes)) = some (some (.slice none 0 0),1,24):=by kernel_rfl
theorem Tryz.info3':(Tryz.prog.info? 3).map (fun i=>(i.zero,i.size,i.bytes)) = some (some (.int .i64 0),1,8):=by kernel_rfl
theorem make55 (N:Nat) (hN:N ≤ 1000) (W:World):∃ cs:Array Value,cs.size = N∧(Instr.makeSlice 55 (.int .i64 (N:Int)) (.int .i64 (N:Int))).run Tryz.prog W = .ok (.slice (some ⟨W.heap.size,0,none⟩) N N) (W.alloc (.cells cs 27)):=by
 obtain ⟨i0,hi0,hz0,hz1,hz2⟩:=info_parts Tryz.info27'
 refine ⟨madeCells (Value.slice none 0 0).cells (N * i0.size),by rw [qs_,hz1,Nat.mul_one],?_⟩
 exact zH_ (P:=Tryz.prog) 55 27 i0 _ Tryz.underlying55 hi0 hz0 .i64 .i64 N N (nl_ _) (by rw [hz2];omega) (by omega) W
theorem make27 (N:Nat) (hN:N ≤ 1000):∃ cs:Array Value,cs.size = N∧∀ W,(Instr.makeSlice 27 (.int .i64 (N:Int)) (.int .i64 (N:Int))).run Tryz.prog W = .ok (.slice (some ⟨W.heap.size,0,none⟩) N N) (W.alloc (.cells cs 3)):=by
 obtain ⟨i0,hi0,hz0,hz1,hz2⟩:=info_parts Tryz.info3'
 refine ⟨madeCells (Value.int .i64 0).cells (N * i0.size),by rw [qs_,hz1,Nat.mul_one],fun W=>?_⟩
 exact zH_ (P:=Tryz.prog) 27 3 i0 _ Tryz.underlying27 hi0 hz0 .i64 .i64 N N (nl_ _) (by rw [hz2];omega) (by omega) W
structure ShS (nS nC b0 k:Nat) (w W:World):Prop where
 b:Below b0 w W
 t:∃ tb:Array Value,tb.size = nC∧W.heap[b0]? = some (.cells tb 27 (0,0))∧∀ r,r < k→∃ b cs,tb[r]? = some (.slice (some ⟨b,0,none⟩) nS nS)∧b0 < b∧W.heap[b]? = some (.cells cs 3 (0,0))∧cs.size = nS
theorem ShS.below {nS nC b0 k:Nat} {w W W':World} (h:ShS nS nC b0 k w W) (hb:Below W.heap.size W W'):ShS nS nC b0 k w W':=by
 obtain ⟨tb,h1,h2,h3⟩:=h.t
 have hl:=(ge_ h2).1
 refine ⟨h.b.trans (hb.mono (by omega)),tb,h1,q0_ h2 hb,fun r hr=>?_⟩
 obtain ⟨b,cs,a1,a2,a3,a4⟩:=h3 r hr
 exact ⟨b,cs,a1,a2,q0_ a3 hb,a4⟩
theorem ShS.row {nS nC b0 k:Nat} {w W:World} (h:ShS nS nC b0 k w W) {cs:Array Value} (hs:cs.size = nS) {bn:Nat} (hn:W.heap[bn]? = some (.cells cs 3 (0,0))) (hb:b0 < bn) (hk:k < nC):ShS nS nC b0 (k + 1) w (W.setCell ⟨b0,k,none⟩ (.slice (some ⟨bn,0,none⟩) nS nS)):=by
 obtain ⟨tb,h1,h2,h3⟩:=h.t
 refine ⟨h.b.setCell (p:=⟨b0,k,none⟩) (nl_ _) _,tb.setIfInBounds k (.slice (some ⟨bn,0,none⟩) nS nS),by simpa using h1,q4_ h2,fun r hr=>?_⟩
 by_cases e:r = k
 · subst e
   exact ⟨bn,cs,by simp [h1,hk],hb,(Below.heap_setCell _ _ _ _ (by simp;omega)).trans hn,hs⟩
 · obtain ⟨b,cs',a1,a2,a3,a4⟩:=h3 r (by omega)
   exact ⟨b,cs',by rw [Array.getElem?_setIfInBounds_ne (by omega)];exact a1,a2,(Below.heap_setCell _ _ _ _ (by simp;omega)).trans a3,a4⟩
theorem ShS.put {nS nC b0 k:Nat} {w W:World} (h:ShS nS nC b0 k w W) {bn j:Nat} (u:Value) (hb:b0 < bn):ShS nS nC b0 k w (W.setCell ⟨bn,j,none⟩ u):=by
 obtain ⟨tb,h1,h2,h3⟩:=h.t
 refine ⟨h.b.setCell (p:=⟨bn,j,none⟩) (by simp;omega) _,tb,h1,(Below.heap_setCell _ _ _ _ (by simp;omega)).trans h2,fun r hr=>?_⟩
 obtain ⟨b,cs',a1,a2,a3,a4⟩:=h3 r (by omega)
 by_cases e:b = bn
 · subst e
   exact ⟨b,cs'.setIfInBounds j u,a1,a2,q4_ a3,by simpa using a4⟩
 · exact ⟨b,cs',a1,a2,(Below.heap_setCell _ _ _ _ (by simpa using e)).trans a3,a4⟩
theorem yU_ (B N D M nS nC:Nat) (as_ ac:Option Addr) (cs_ cc:Nat) (v:Value) (ws:List Way) (w:World) (hN:NetS B N v ws w) (hlen:ws.length ≤ 100) (hD:w.heap[D]? = some (.cells #[.slice as_ nS cs_, .slice ac nC cc, .map (some M)] 221 (0,0))) (hnS:nS ≤ 100) (hnC:nC ≤ 100)
 (hw:∀ x ∈ ws,x.f ≠ 0→x.t ≠ 0→1 ≤ x.f∧x.f ≤ nS∧7 ≤ x.t∧x.t < 7 + nC) :
 Calls Tryz.prog 69 #[.pointer (some ⟨N,0,none⟩), .pointer (some ⟨D,0,none⟩)] w fun e w'=>(∃ r,e = .returned r)∧Below w.heap.size w w':=by
 have HN:=hid hN
 have HW:=hid hw
 have hDl:=(ge_ hD).1
 obtain ⟨va,vc,hve,hvc,_⟩:=owns_shape hN.own
 have HVE:=hid hve
 have HD:=hid hD
 obtain ⟨c0,hc0,hmk0⟩:=make55 nC (by omega) w
 obtain ⟨c1,hc1,hmk1⟩:=make27 nS (by omega)
 have d1:=cg_ hD (k:=1) (v := .slice ac nC cc) rfl
 obtain ⟨w1,hw1⟩:∃ x,w.alloc (.cells c0 27) = x:=⟨_,rfl⟩
 have hb1:Below w.heap.size w w1:=by rw [← hw1];exact (Below.refl _ _).alloc (nl_ _) _
 have hn1:w1.heap[w.heap.size]? = some (.cells c0 27 (0,0)):=by rw [← hw1];exact ha_ _ _
 obtain ⟨b0,hb0⟩:∃ b,w.heap.size = b:=⟨_,rfl⟩
 have S1:=hid (show ShS nS nC b0 0 w w1 from ⟨hb0 ▸ hb1,c0,hc0,hb0 ▸ hn1,fun r hr=>by omega⟩)
 have HB0:=hid hb0
 have HDL:=hid (show D < b0 from hb0 ▸ hDl)
 rw [hw1] at hmk0
 clear hN hw hve hD hb1 hn1 hc0
 go_enter Tryz.func69,Tryz.ntmps69
 go_wp2_with fail
 try rw [hw1]
 try simp only [hb0]
 clear hw1 hb0 hmk0 d1 hDl c0
 go_loopw [18] (fun vi wr=>∃ k:Nat,k ≤ nC∧vi = .int .i64 k∧Hid (ShS nS nC b0 k w wr)) (fun vi _=>nC - (intOf vi).toNat)
 case atStart=>exact ⟨0,by omega,rfl,S1.out⟩
 case round=>
  clear S1 w1
  obtain ⟨k,hk,rfl,HS⟩:=hrel
  by_cases hlt:k < nC
  · have hlt':(k:Int) < (nC:Int):=by omega
    have h0:(0:Int) ≤ (k:Int):=by omega
    obtain ⟨tb,t1,t2,t3⟩:=HS.out.t
    have hbl:=(ge_ t2).1
    have d0:=cg_ (q0_ HD.out (HB0.out ▸ HS.out.b:Below w.heap.size w wr)) (k:=0) (v := .slice as_ nS cs_) rfl
    obtain ⟨w2,hw2⟩:∃ w2,wr.alloc (.cells c1 3) = w2:=⟨_,rfl⟩
    have hb2:Below wr.heap.size wr w2:=by rw [← hw2];exact (Below.refl _ _).alloc (nl_ _) _
    have hn2:w2.heap[wr.heap.size]? = some (.cells c1 3 (0,0)):=by rw [← hw2];exact ha_ _ _
    have SR:=hid ((HS.out.below hb2).row hc1 hn2 hbl hlt)
    obtain ⟨tk,htk⟩:∃ y,tb[k]? = some y:=⟨tb[k]'(by omega),by simp⟩
    have u0:=cg_ (q0_ t2 hb2) (k:=k) htk
    have u1:=cells_frz (q0_ t2 hb2) (k:=k)
    have hmkr:=hmk1 wr
    rw [hw2] at hmkr
    clear t1 t2 t3 hb2 hn2 HS htk
    go_wp2_with fail
    try rw [hw2]
    clear hw2 hmkr u0 u1 d0
    go_roundw
    case rel=>exact ⟨k + 1,by omega,by go_num,SR.out⟩
    case measure=>simp [intOf];omega
  · have hkn:nC = k:=by omega
    subst hkn
    have n0:=cg_ (HN.out.below (HB0.out ▸ HS.out.b:Below w.heap.size w wr)).n (k:=0) (v := .slice va ws.length vc) (by rw [HVE.out];rfl)
    go_wp2_with fail
    clear n0
    go_loopw [37] (fun vi wk=>∃ i:Nat,i ≤ ws.length∧vi = .int .i64 i∧Hid (ShS nS nC b0 nC w wk)) (fun vi _=>ws.length - (intOf vi).toNat)
    case atStart=>exact ⟨0,by omega,rfl,HS⟩
    case round=>
     clear HS
     obtain ⟨i,hi,rfl,HS⟩:=hrel
     by_cases hlt2:i < ws.length
     · have hltI:(i:Int) < (ws.length:Int):=by omega
       have hi0:(0:Int) ≤ (i:Int):=by omega
       have hNr:=HN.out.below (HB0.out ▸ HS.out.b:Below w.heap.size w wr)
       obtain ⟨g,gc,hv2,hgB,hgl,hgc,hgm,hat⟩:=hNr.at hlt2
       rw [HVE.out] at hv2
       obtain ⟨rfl,rfl⟩:va = some ⟨g,0,none⟩∧vc = gc:=by simpa using hv2
       obtain ⟨x,hx⟩:∃ x,ws[i] = x:=⟨_,rfl⟩
       have hxW:=HW.out x (by rw [← hx];exact List.getElem_mem hlt2)
       rw [hx] at hat
       have e0:=(hat 0 _ rfl).1
       rw [Nat.add_zero] at e0
       have e1:=(hat 1 _ rfl).1
       have e2:=(hat 2 _ rfl).1
       have e3:=(hat 3 _ rfl).1
       have e4:=(hat 4 _ rfl).1
       have e5:=(hat 5 _ rfl).1
       obtain ⟨w2,hw2⟩:∃ w2,wr.alloc (.cells #[.int .i64 x.f, .int .i64 x.t, .int .i64 x.lo, .int .i64 x.hi, .int .i64 x.cost, .int .i64 x.goes] 229) = w2:=⟨_,rfl⟩
       have hb2:Below wr.heap.size wr w2:=by rw [← hw2];exact (Below.refl _ _).alloc (nl_ _) _
       have hn2:w2.heap[wr.heap.size]? = some (.cells (wC x) 229 (0,0)):=by rw [← hw2];exact ha_ _ _
       have hz2:wr.heap.size < w2.heap.size:=by rw [← hw2];simp
       have z0:=cg_ hn2 (k:=0) (v := .int .i64 x.f) rfl
       have z1:=cg_ hn2 (k:=1) (v := .int .i64 x.t) rfl
       have S2:=hid (HS.out.below hb2)
       obtain ⟨bx,hbx⟩:∃ b,wr.heap.size = b:=⟨_,rfl⟩
       have hbxs:∀ b0',(∃ o,wr.heap[b0']? = some o)→b0' < bx:=fun b0' ⟨o,ho⟩=>by rw [← hbx];exact (ge_ ho).1
       rw [hbx] at hn2 z0 z1
       have NX:=hid hn2
       unfold maxLen at hgm
       have SOLD:=hid HS.out.t
       have HB2:=hid hb2
       clear hat hx hn2 hNr hv2 hb2 HS
       by_cases hf:x.f = 0
       · have hfI:(x.f:Int) = 0:=by omega
         go_wp2_with fail
         go_roundw
         case rel=>exact ⟨i + 1,by omega,by go_num,hid (by have:=S2.out;rw [← hw2,hf] at this;exact this)⟩
         case measure=>simp [intOf];omega
       · have hfI:¬ (x.f:Int) = 0:=by omega
         by_cases ht:x.t = 0
         · have htI:(x.t:Int) = 0:=by omega
           go_wp2_with fail
           go_roundw
           case rel=>exact ⟨i + 1,by omega,by go_num,hid (by have:=S2.out;rw [← hw2,ht] at this;exact this)⟩
           case measure=>simp [intOf];omega
         · have htI:¬ (x.t:Int) = 0:=by omega
           have hr:=hxW hf ht
           obtain ⟨r,hre⟩:∃ r,x.t = r + 7:=⟨x.t - 7,by omega⟩
           obtain ⟨j,hje⟩:∃ j,x.f = j + 1:=⟨x.f - 1,by omega⟩
           have hrC:r < nC:=by omega
           have hjS:j < nS:=by omega
           have hrI:(r:Int) < (nC:Int):=by omega
           have hr0:(0:Int) ≤ (r:Int):=by omega
           have hjI:(j:Int) < (nS:Int):=by omega
           have hj0:(0:Int) ≤ (j:Int):=by omega
           have hwp1:IntKind.i64.wrap ((x.t:Int) - 1) = ((r + 6:Nat):Int):=by rw [IntWalk.i64_in _ (by omega)];omega
           have hwp2:IntKind.i64.wrap (r:Int) = (r:Int):=IntWalk.i64_in _ (by omega)
           have hwp3:IntKind.i64.wrap ((x.f:Int) - 1) = (j:Int):=by rw [IntWalk.i64_in _ (by omega)];omega
           clear hre hje
           obtain ⟨tb,t1,t2,t3⟩:=SOLD.out
           obtain ⟨b,cs,a1,a2,a3,a4⟩:=t3 r hrC
           have hbbx:b < bx:=hbxs b ⟨_,a3⟩
           have T2:=hid (q0_ t2 HB2.out)
           have A1:=hid a1
           have A3:=hid (q0_ a3 HB2.out)
           clear t2 t3 a1 a3 hbxs
           go_upto_region 11 with fail
           rotate_left
           · exfalso
             rename_i h
             rcases h with h | h
             · simp [hf] at h
             · simp [ht] at h
           try rw [hw2]
           try simp only [hbx]
           obtain ⟨x0,hx0⟩:∃ y,w2.drew = y:=⟨_,rfl⟩
           have hbd:Below w2.heap.size w2 x0:=by rw [← hx0];exact (Below.refl _ w2).drew
           have hS0:x0.cell? ⟨b0,r,none⟩ = some (.slice (some ⟨b,0,none⟩) nS nS)∧x0.cell? ⟨bx,0,none⟩ = some (.int .i64 x.f)∧x0.cell? ⟨bx,1,none⟩ = some (.int .i64 x.t)∧x0.cell? ⟨bx,5,none⟩ = some (.int .i64 x.goes):=⟨cg_ (q0_ T2.out hbd) (k:=r) A1.out,cg_ (q0_ NX.out hbd) (k:=0) rfl,cg_ (q0_ NX.out hbd) (k:=1) rfl,cg_ (q0_ NX.out hbd) (k:=5) rfl⟩
           have S3:=hid (S2.out.below hbd)
           have T3:=hid (q0_ T2.out hbd)
           have A4:=hid (q0_ A3.out hbd)
           have NX3:=hid (q0_ NX.out hbd)
           clear hbd T2 A3 NX S2 SOLD HB2 hw2 hbx z0 z1 e0 e1 e2 e3 e4 e5
           refine (wpIn_wide (n:=9)).1 ?_
           refine q8_ (fun V:World=>V.cell? ⟨b0,r,none⟩ = some (.slice (some ⟨b,0,none⟩) nS nS)∧V.cell? ⟨bx,0,none⟩ = some (.int .i64 x.f)∧V.cell? ⟨bx,1,none⟩ = some (.int .i64 x.t)∧V.cell? ⟨bx,5,none⟩ = some (.int .i64 x.goes)) (by kernel_rfl) ?_
           rw [hx0]
           clear hx0
           refine tkZ 0 49 (.slice (some ⟨b0,0,none⟩) nC nC) rfl rfl hS0 ?_
           refine tkZ 1 50 (.pointer (some ⟨bx,1,none⟩)) rfl rfl hS0 ?_
           refine tkZ 2 51 (.int .i64 x.t) rfl rfl hS0 ?_
           refine tkZ 3 52 (.int .i64 (((r + 6:Nat):Int))) rfl rfl hS0 ?_
           refine tkZ 4 53 (.int .i64 r) rfl rfl hS0 ?_
           refine tkZ 5 54 (.pointer (some ⟨b0,r,none⟩)) rfl rfl hS0 ?_
           refine tkZ 6 55 (.slice (some ⟨b,0,none⟩) nS nS) rfl rfl hS0 ?_
           refine tkZ 7 56 (.pointer (some ⟨bx,0,none⟩)) rfl rfl hS0 ?_
           refine tkZ 8 57 (.int .i64 x.f) rfl rfl hS0 ?_
           refine tkZ 9 58 (.int .i64 j) rfl rfl hS0 ?_
           refine tkZ 10 59 (.pointer (some ⟨bx,5,none⟩)) rfl rfl hS0 ?_
           refine tkZ 11 60 (.int .i64 x.goes) rfl rfl hS0 ?_
           refine tkZ 12 61 (.pointer (some ⟨b,j,none⟩)) rfl rfl hS0 ?_
           refine aHO 13 rfl fun K hK=>?_
           obtain ⟨cj,hcj⟩:∃ y,cs[j]? = some y:=⟨cs[j]'(by omega),by simp⟩
           have z0:=cg_ A4.out (k:=j) hcj
           have z1:=cells_frz A4.out (k:=j)
           go_simp
           have S4:=hid (S3.out.put (j:=j) (.int .i64 x.goes) a2)
           have hne:∀ k,k ≠ b→(x0.setCell ⟨b,j,none⟩ (.int .i64 x.goes)).heap[k]? = x0.heap[k]?:=fun k hk=>Below.heap_setCell _ _ _ _ (by simpa using hk)
           refine hK _ _ ⟨⟨cg_ ((hne b0 (by omega)).trans T3.out) (k:=r) A1.out,cg_ ((hne bx (by omega)).trans NX3.out) (k:=0) rfl,cg_ ((hne bx (by omega)).trans NX3.out) (k:=1) rfl,cg_ ((hne bx (by omega)).trans NX3.out) (k:=5) rfl⟩,?_⟩
           clear hK z0 z1 hS0 hne hcj
           refine q7_ (by kernel_rfl) ?_
           go_simp
           go_wp2_with fail
           go_roundw
           case rel=>exact ⟨i + 1,by omega,by go_num,S4.out⟩
           case measure=>simp [intOf];omega
     · have hin:i = ws.length:=by omega
       subst hin
       go_wp2_with fail
       go_ret
       exact ⟨⟨_,rfl⟩,by rw [HB0.out];exact HS.out.b⟩
def LdW (S:List St) (C:List Sp) (x:Way):Prop:=x.f < 12∧x.t < 12∧x.f ≠ x.t∧(0 ≤ x.lo∧x.lo ≤ 1000000)∧(0 ≤ x.hi∧x.hi ≤ 1000000)∧x.goes = 0∧(0 ≤ x.cost∧x.cost ≤ 1)∧(x.f ≠ 0→x.t ≠ 0→1 ≤ x.f∧x.f ≤ S.length∧7 ≤ x.t∧x.t < 7 + C.length)
theorem yt_ {α:Type} {l:List α} {k:Nat} {d:α} (h:k < l.length):l.getD k d ∈ l:=by
 rw [List.getD_eq_getElem?_getD,List.getElem?_eq_getElem h];exact List.getElem_mem h
theorem ld_st {S:List St} {C:List Sp} (hO:OkSc S C) {k:Nat} (hk:k < S.length):LdW S C ⟨0,1 + k,(qU_ (S.getD k ⟨0,0,0,0,0,0,0⟩)).lo,(qU_ (S.getD k ⟨0,0,0,0,0,0,0⟩)).hi,0,0⟩:=by
 obtain ⟨x,hx⟩:∃ x,S.getD k ⟨0,0,0,0,0,0,0⟩ = x:=⟨_,rfl⟩
 have hm:x ∈ S:=by rw [← hx];exact yt_ hk
 rw [hx]
 have hsp:(⟨x.ll,x.lh⟩:Sp) ∈ qL_ S C∧(⟨x.sl,x.sh⟩:Sp) ∈ qL_ S C∧(⟨x.el,x.eh⟩:Sp) ∈ qL_ S C:=by
  refine ⟨?_,?_,?_⟩ <;> exact List.mem_append_right _ (List.mem_flatMap.2 ⟨x,hm,by simp [spL]⟩)
 have h1:=zj_ (hO.sp _ hsp.1).1
 have h2:=zj_ (hO.sp _ hsp.2.1).1
 have h3:=zj_ (hO.sp _ hsp.2.2).1
 have h4:=hO.go x hm
 have hs:=hO.s
 simp only [qU_] at h4 h1 h2 h3 ⊢
 refine ⟨by simp,by simp only;omega,by simp only;omega,by simp only;omega,by simp only;omega,rfl,by simp,fun h=>absurd rfl h⟩
theorem ld_sp {S:List St} {C:List Sp} (hO:OkSc S C) {t:Nat} (ht:t < C.length):LdW S C ⟨7 + t,0,(C.getD t ⟨0,0⟩).lo,(C.getD t ⟨0,0⟩).hi,0,0⟩:=by
 obtain ⟨x,hx⟩:∃ x,C.getD t ⟨0,0⟩ = x:=⟨_,rfl⟩
 have hm:x ∈ C:=by rw [← hx];exact yt_ ht
 rw [hx]
 have hsp:x ∈ qL_ S C:=List.mem_append_left _ hm
 have h1:=zj_ (hO.sp _ hsp).1
 have hc:=hO.c
 refine ⟨by simp only;omega,by simp,by simp only;omega,by simp only;omega,by simp only;omega,rfl,by simp,fun _ h=>absurd rfl h⟩
theorem ld_r {S:List St} {C:List Sp} (hO:OkSc S C) {t:Nat} (ht:t < C.length):∀ x ∈ laidR S t,LdW S C x:=by
 intro x hx
 obtain ⟨k,hk,rfl⟩:=List.mem_map.1 hx
 have hk':k < S.length:=by have:=(List.mem_filter.1 hk).1;simpa using this
 have hc:=hO.c
 have hs:=hO.s
 have hot:0 ≤ oth S t k∧oth S t k ≤ 1:=by rw [oth];split <;> omega
 refine ⟨by simp only;omega,by simp only;omega,by simp only;omega,by simp,by simp,rfl,hot,fun _ _=>by simp only;omega⟩
theorem jv_ {S:List St} {C:List Sp} (hO:OkSc S C):∀ x ∈ laid S C,LdW S C x:=by
 have h1:∀ k,k ≤ S.length→∀ x ∈ zI_ S k,LdW S C x:=by
  intro k hk
  induction k with
  | zero=>intro x hx;cases hx
  | succ k ih=>
    intro x hx
    rcases List.mem_append.1 hx with h | h
    · exact ih (by omega) x h
    · rw [List.mem_singleton.1 h];exact ld_st hO (by omega)
 have h2:∀ t,t ≤ C.length→∀ x ∈ laidT S C t,LdW S C x:=by
  intro t ht
  induction t with
  | zero=>exact h1 _ (nl_ _)
  | succ t ih=>
    intro x hx
    rcases List.mem_append.1 hx with h | h
    · rcases List.mem_append.1 h with h | h
      · exact ih (by omega) x h
      · exact ld_r hO (by omega) x h
    · rw [List.mem_singleton.1 h];exact ld_sp hO (by omega)
 exact h2 _ (nl_ _)
theorem j2_ {S:List St} {C:List Sp} (hO:OkSc S C):Flow (laid S C):=by
 have h:∀ i,i < (laid S C).length→LdW S C (at_ (laid S C) i):=fun i hi=>by rw [kt_ hi];exact jv_ hO _ (List.getElem_mem hi)
 refine ⟨fun i hi=>⟨(h i hi).1,(h i hi).2.1,(h i hi).2.2.1⟩,fun i hi=>(h i hi).2.2.2.1.1,fun i hi=>?_,fun v hv=>?_⟩
 · rw [(h i hi).2.2.2.2.2.1];exact ⟨by omega,(h i hi).2.2.2.2.1.1⟩
 · rw [nt]
   exact zp_ fun i hi=>by
    rw [gs,(h i hi).2.2.2.2.2.1]
    simp
theorem yG_ {S:List St} {C:List Sp} (hO:OkSc S C):WB0 (laid S C):=fun i hi=>by
 have h:=jv_ hO _ (List.getElem_mem hi)
 rw [← kt_ hi] at h
 exact ⟨h.2.2.2.1.2,h.2.2.2.2.1.2,h.2.2.2.2.2.2.1.1,h.2.2.2.2.2.2.1.2⟩
theorem ends_laid {S:List St} {C:List Sp} (hO:OkSc S C) {ws:List Way} (hS:z6_ (laid S C) ws):∀ x ∈ ws,x.f ≠ 0→x.t ≠ 0→1 ≤ x.f∧x.f ≤ S.length∧7 ≤ x.t∧x.t < 7 + C.length:=by
 intro x hx h1 h2
 obtain ⟨i,hi,rfl⟩:=List.mem_iff_getElem.1 hx
 have hi':i < (laid S C).length:=by rw [hS.len];exact hi
 have h:=jv_ hO _ (List.getElem_mem hi')
 rw [← kt_ hi'] at h
 rw [← kt_ hi] at h1 h2 ⊢
 have he:=hS.at i
 rw [← he.1] at h1 ⊢
 rw [← he.2.1] at h2 ⊢
 exact h.2.2.2.2.2.2.2 h1 h2
theorem Least_any (S:List St) (C:List Sp) (xs:List Way) (as_ ac:Option Addr) (cs_ cc:Nat) (Bl:Nat→Prop) (w:World) (hs:LSl v3_ Bl w (.slice as_ S.length cs_) S) (hc:LSl vO_ Bl w (.slice ac C.length cc) C) (hB:∀ b,Bl b→b < w.heap.size) (hO:OkSc S C) (hx:Fit xs) (hS:z6_ (laid S C) xs) :
 Calls Tryz.prog 23 #[.agg #[.slice as_ S.length cs_, .slice ac C.length cc]] w fun e w'=>∃ r ws,e = .returned (.tuple #[r, .int .i64 (costW ws), .int .i64 0])∧Fit ws∧z6_ (laid S C) ws∧(∀ ys,z6_ (laid S C) ys→Fit ys→costW ws ≤ costW ys)∧Below w.heap.size w w':=by
 have hlen:(laid S C).length ≤ 41:=by
  have a1:=vc_ S C C.length
  have a2:=hO.s
  have a3:=hO.c
  have a4:C.length * (S.length + 1) ≤ 35:=Nat.le_trans (Nat.mul_le_mul (show C.length ≤ 5 by omega) (show S.length + 1 ≤ 7 by omega)) (nl_ _)
  rw [laid];omega
 obtain ⟨w1,hw1⟩:∃ w1,w.alloc (.cells #[.slice as_ S.length cs_, .slice ac C.length cc] 60) = w1:=⟨_,rfl⟩
 have hb1:Below w.heap.size w w1:=by rw [← hw1];exact (Below.refl _ _).alloc (nl_ _) _
 have hn1:w1.heap[w.heap.size]? = some (.cells #[.slice as_ S.length cs_, .slice ac C.length cc] 60 (0,0)):=by rw [← hw1];exact ha_ _ _
 have c0:=cg_ hn1 (k:=0) (v := .slice as_ S.length cs_) rfl
 have c1:=cg_ hn1 (k:=1) (v := .slice ac C.length cc) rfl
 have OP:=hid (opened_ok S C as_ ac cs_ cc Bl w1 (hs.agree (q9_ hb1 hB)) (hc.agree (q9_ hb1 hB)) (fun b hb=>by have:=hB b hb;have:=hb1.size;omega) hO)
 have HSs:=hid hs
 have HCs:=hid hc
 have HB:=hid hB
 have HO:=hid hO
 have HX:=hid hx
 have HSX:=hid hS
 have B1:=hid hb1
 have hOs:=hO.s
 have hOc:=hO.c
 clear hs hc hB hO hx hS hb1 hn1
 go_enter Tryz.func23,Tryz.ntmps23
 go_upto_region 1 with fail
 try rw [hw1]
 clear hw1
 go_wp2_with fail
 refine OP.out.mono ?_
 rintro e w2 ⟨M,rfl,hM,hD2,⟨Nm,hM2⟩,hb2⟩
 have B2:=hid (B1.out.trans (hb2.mono B1.out.size))
 have D2:=hid hD2
 have M2:=hid hM2
 have TH:=hid (theft_any (M + 1) w2)
 have hz1:=B1.out.size
 clear OP hb2 hD2 hM2 c0 c1
 go_wp2_with fail
 refine TH.out.mono ?_
 rintro e w3 ⟨b1,rfl,hb1',hF3,hb3⟩
 have B3:=hid (B2.out.trans (hb3.mono B2.out.size))
 have D3:=hid (q0_ D2.out hb3)
 have FI:=hid (w8_ S C xs M (M + 1) b1 Nm as_ ac cs_ cc Bl w3 (HSs.out.agree (q9_ B3.out HB.out)) (HCs.out.agree (q9_ B3.out HB.out)) (fun b hb=>by have:=HB.out b hb;have:=B3.out.size;omega) D3.out (M2.out.kept (hb3.block M M2.out.lt)) hF3 HO.out (j2_ HO.out) (yG_ HO.out) HX.out HSX.out)
 clear TH hF3 hb3 D2 M2
 go_wp2_with fail
 refine FI.out.mono ?_
 rintro e w4 ⟨N,B,v,ws,rfl,hN,hNS,hFit,hSame,hopt,hb4⟩
 have B4:=hid (B3.out.trans (hb4.mono B3.out.size))
 have D4:=hid (q0_ D3.out hb4)
 have hwl:ws.length ≤ 100:=by have:=hSame.len;omega
 have HWB:=hid (wb_of (yG_ HO.out) hSame.symm hFit.toFlow)
 have RES:=hid (And.intro hFit (And.intro hSame hopt))
 have hNS:=hid hNS
 clear FI hb4 hFit hopt D3
 go_wp2_with fail
 obtain ⟨w5,hw5⟩:∃ x,w4.alloc (.cells #[.bool false, .slice none 0 0] 164) = x:=⟨_,rfl⟩
 have hb5:Below w4.heap.size w4 w5:=by rw [← hw5];exact (Below.refl _ _).alloc (nl_ _) _
 have B5:=hid (B4.out.trans (hb5.mono B4.out.size))
 have NS5:=hid (hNS.out.below hb5)
 have SH:=hid (yU_ B N (M + 1) M S.length C.length as_ ac cs_ cc v ws w5 NS5.out hwl (q0_ D4.out hb5) (by omega) (by omega) (ends_laid HO.out hSame))
 rw [hw5]
 refine SH.out.mono ?_
 rintro e w6 ⟨⟨r,rfl⟩,hb6⟩
 have B6:=hid (B5.out.trans (hb6.mono B5.out.size))
 have CO:=hid (cost_any B N v ws w6 (NS5.out.below hb6) HWB.out hwl)
 clear SH hb6 NS5 hw5 hb5 hSame
 go_wp2_with fail
 refine CO.out.mono ?_
 rintro e w7 ⟨rfl,hb7⟩
 have B7:=hid (B6.out.trans (hb7.mono B6.out.size))
 clear CO hb7
 go_wp2_with fail
 refine bodyPost_ret (v := .tuple #[r, .int .i64 (costW ws), .int .i64 0]) (by simp [results,Tryz.results23,go_sem]) rfl ?_
 exact ⟨r,ws,rfl,RES.out.1,RES.out.2.1,RES.out.2.2,B7.out⟩
theorem st_at {W:World} {a:Option Addr} {n c:Nat} {l:List St} (h:LSl v3_ (fun q=>q < W.heap.size) W (.slice a n c) l) {k:Nat} {s:St} (hs:l[k]? = some s):∃ g o,a = some ⟨g,o,none⟩∧g < W.heap.size∧W.cell? ⟨g,o + k * 7,none⟩ = some (.int .i64 s.t)∧W.cell? ⟨g,o + k * 7 + 1,none⟩ = some (.int .i64 s.ll)∧W.cell? ⟨g,o + k * 7 + 2,none⟩ = some (.int .i64 s.lh)∧W.cell? ⟨g,o + k * 7 + 3,none⟩ = some (.int .i64 s.sl)∧W.cell? ⟨g,o + k * 7 + 4,none⟩ = some (.int .i64 s.sh)∧W.cell? ⟨g,o + k * 7 + 5,none⟩ = some (.int .i64 s.el)∧W.cell? ⟨g,o + k * 7 + 6,none⟩ = some (.int .i64 s.eh):=by
 obtain ⟨hk,rfl⟩:=List.getElem?_eq_some_iff.1 hs
 obtain ⟨a',c',he,_,_,hat⟩:=LSl.at h
 obtain ⟨g,o,cs,e1,e2,e3,e4⟩:=hat k hk
 have e5:cs = (stC l[k]).toList:=e3
 subst e5
 obtain ⟨rfl,_,_⟩:a = a'∧n = l.length∧c = c':=by simpa using he
 exact ⟨g,o,e1,e2,by simpa using e4 0 _ rfl,by simpa [Nat.add_assoc] using e4 1 _ rfl,by simpa [Nat.add_assoc] using e4 2 _ rfl,by simpa [Nat.add_assoc] using e4 3 _ rfl,by simpa [Nat.add_assoc] using e4 4 _ rfl,by simpa [Nat.add_assoc] using e4 5 _ rfl,by simpa [Nat.add_assoc] using e4 6 _ rfl⟩
theorem sp_at {W:World} {a:Option Addr} {n c:Nat} {l:List Sp} (h:LSl vO_ (fun q=>q < W.heap.size) W (.slice a n c) l) {k:Nat} {s:Sp} (hs:l[k]? = some s):∃ g o,a = some ⟨g,o,none⟩∧g < W.heap.size∧W.cell? ⟨g,o + k * 2,none⟩ = some (.int .i64 s.lo)∧W.cell? ⟨g,o + k * 2 + 1,none⟩ = some (.int .i64 s.hi):=by
 obtain ⟨hk,rfl⟩:=List.getElem?_eq_some_iff.1 hs
 obtain ⟨a',c',he,_,_,hat⟩:=LSl.at h
 obtain ⟨g,o,cs,e1,e2,e3,e4⟩:=hat k hk
 have e5:cs = (spC l[k]).toList:=e3
 subst e5
 obtain ⟨rfl,_,_⟩:a = a'∧n = l.length∧c = c':=by simpa using he
 exact ⟨g,o,e1,e2,by simpa using e4 0 _ rfl,by simpa [Nat.add_assoc] using e4 1 _ rfl⟩
def stL (S:List St):List Value:=S.flatMap fun x=>(stC x).toList
def zA_ (C:List Sp):List Value:=C.flatMap fun x=>(spC x).toList
theorem own_in {B e k n:Nat} {v:Value} {cs:List Value} {W:World} (h:W.ownsRow B e k v n cs):SlC (fun q=>q < W.heap.size) W k v n cs:=(SlC.of_owns h).wide fun _ e=>e.2
theorem yC_ {B:Nat} {v:Value} {l:List St} {W:World} (h:W.ownsRow B 72 7 v l.length (stL l)):LSl v3_ (fun q=>q < W.heap.size) W v l:=⟨_,own_in h,lcs_st _ _ l⟩
theorem own_sp {B:Nat} {v:Value} {l:List Sp} {W:World} (h:W.ownsRow B 35 2 v l.length (zA_ l)):LSl vO_ (fun q=>q < W.heap.size) W v l:=⟨_,own_in h,yg_ _ _ l⟩
def stX (S:List St) (i:Nat):St:=S.getD i ⟨0,0,0,0,0,0,0⟩
theorem qI_ {S:List St} {i:Nat} (h:i < S.length):S[i]? = some (stX S i):=by
 rw [stX,List.getD_eq_getElem?_getD,List.getElem?_eq_getElem h];rfl
theorem jf_ (S:List St) (m t k:Nat) (as_ ac:Option Addr) (cs_ cc:Nat) (w:World) (hs:LSl v3_ (fun q=>q < w.heap.size) w (.slice as_ S.length cs_) S) (hk:k ≤ 1000) (ht:t ≤ 1000) (hn:S.length ≤ 1000) :
 Calls Tryz.prog 53 #[.agg #[.slice as_ S.length cs_, .slice ac m cc], .int .i64 t, .int .i64 k] w fun e w'=>e = .returned (.bool (rch S t k))∧Below w.heap.size w w':=by
 obtain ⟨w1,hw1⟩:∃ w1,w.alloc (.cells #[.slice as_ S.length cs_, .slice ac m cc] 60) = w1:=⟨_,rfl⟩
 have hb1:Below w.heap.size w w1:=by rw [← hw1];exact (Below.refl _ _).alloc (nl_ _) _
 have hn1:w1.heap[w.heap.size]? = some (.cells #[.slice as_ S.length cs_, .slice ac m cc] 60 (0,0)):=by rw [← hw1];exact ha_ _ _
 have c0:=cg_ hn1 (k:=0) (v := .slice as_ S.length cs_) rfl
 have HS:=hid (hs.on hb1)
 have HB1:=hid hb1
 clear hs hb1 hn1
 go_enter Tryz.func53,Tryz.ntmps53
 go_upto_region 1 with fail
 try rw [hw1]
 clear hw1
 go_wp2_with fail
 clear c0
 go_loopw [12] (fun vi wr=>∃ i:Nat,i ≤ S.length∧vi = .int .i64 i∧Hid (∀ j,j < i→(decide ((stX S j).t = (t:Int)) && decide (j ≤ k + 1) && decide (k ≤ j + 1)) = false)∧Hid (Below w1.heap.size w1 wr)) (fun vi _=>S.length - (intOf vi).toNat)
 case atStart=>exact ⟨0,by omega,rfl,hid (fun j hj=>by omega),hid (Below.refl _ _)⟩
 case round=>
  obtain ⟨i,hi,rfl,HN,HB⟩:=hrel
  by_cases hlt:i < S.length
  · have hlt':(0:Int) ≤ (i:Int)∧(i:Int) < (S.length:Int):=by omega
    obtain ⟨g,o,rfl,hg,p0,p1,p2,p3,p4,p5,p6⟩:=st_at (HS.out.on HB.out) (qI_ hlt)
    obtain ⟨x,hx⟩:∃ x,stX S i = x:=⟨_,rfl⟩
    rw [hx] at p0 p1 p2 p3 p4 p5 p6
    have HX:=hid hx
    clear hx
    obtain ⟨x1,hx1⟩:∃ y,wr.alloc (.cells (stC x) 72) = y:=⟨_,rfl⟩
    have hb2:Below wr.heap.size wr x1:=by rw [← hx1];exact (Below.refl _ _).alloc (nl_ _) _
    have hn2:x1.heap[wr.heap.size]? = some (.cells (stC x) 72 (0,0)):=by rw [← hx1];exact ha_ _ _
    have q0:=cg_ hn2 (k:=0) (v := .int .i64 x.t) rfl
    have HB2:=hid (HB.out.trans (hb2.mono HB.out.size))
    have w1':IntKind.i64.wrap ((i:Int) - (k:Int)) = (i:Int) - (k:Int):=IntWalk.i64_in _ (by omega)
    have w2':IntKind.i64.wrap ((k:Int) - (i:Int)) = (k:Int) - (i:Int):=IntWalk.i64_in _ (by omega)
    have hin:IntKind.i64.wrap ((i:Int) + 1) = (i:Int) + 1:=IntWalk.i64_in _ (by omega)
    unfold stC at hx1 hn2
    clear hb2 hn2
    go_upto_region 4 with fail
    try rw [hx1]
    clear hx1 p0 p1 p2 p3 p4 p5 p6
    by_cases ht':x.t = (t:Int)
    · have e1:(x.t == (t:Int)) = true:=by simp [ht']
      by_cases hd:i ≤ k + 1∧k ≤ i + 1
      · have e2:decide (max ((i:Int) - k) ((k:Int) - i) < 2) = true:=by simp;omega
        have e2':max ((i:Int) - k) ((k:Int) - i) < 2:=by omega
        have HR:=hid (show rch S t k = true by
         rw [rch,List.any_eq_true]
         refine ⟨i,List.mem_range.2 hlt,?_⟩
         have:=HX.out
         rw [stX] at this
         rw [this]
         simp [ht',hd.1,hd.2])
        go_wp2_with fail
        go_ret
        exact ⟨by rw [HR.out];rfl,HB1.out.trans (HB2.out.mono HB1.out.size)⟩
      · have e2:decide (max ((i:Int) - k) ((k:Int) - i) < 2) = false:=by simp;omega
        have e2':¬ max ((i:Int) - k) ((k:Int) - i) < 2:=by omega
        have HN2:=hid (show ∀ j,j < i + 1→(decide ((stX S j).t = (t:Int)) && decide (j ≤ k + 1) && decide (k ≤ j + 1)) = false from fun j hj=>by
         by_cases e:j = i
         · subst e
           by_cases h1:j ≤ k + 1 <;> by_cases h2:k ≤ j + 1 <;> simp [h1,h2] at hd ⊢
         · exact HN.out j (by omega))
        clear hd
        go_wp2_with fail
        go_roundw
        case rel=>exact ⟨i + 1,by omega,by go_num,HN2,HB2⟩
        case measure=>simp [intOf];omega
    · have e1:(x.t == (t:Int)) = false:=by simp [ht']
      have HN2:=hid (show ∀ j,j < i + 1→(decide ((stX S j).t = (t:Int)) && decide (j ≤ k + 1) && decide (k ≤ j + 1)) = false from fun j hj=>by
       by_cases e:j = i
       · subst e
         rw [HX.out]
         simp [ht']
       · exact HN.out j (by omega))
      go_wp2_with fail
      go_roundw
      case rel=>exact ⟨i + 1,by omega,by go_num,HN2,HB2⟩
      case measure=>simp [intOf];omega
  · have hnl:¬ (i:Int) < (S.length:Int):=by omega
    have HR:=hid (show rch S t k = false by
     rw [rch,List.any_eq_false]
     intro j hj
     have:=HN.out j (by have:=List.mem_range.1 hj;omega)
     rw [stX] at this
     simp only [this];simp)
    have HBz:=hid (HB1.out.trans (HB.out.mono HB1.out.size))
    go_wp2_with fail
    go_ret
    exact ⟨by rw [HR.out];rfl,HBz.out⟩
theorem one_st (S:List St):∀ u ∈ stL S,u.oneCell' = true:=fun u hu=>by
 obtain ⟨x,_,h⟩:=List.mem_flatMap.1 hu
 simp [stC] at h
 rcases h with rfl | rfl | rfl | rfl | rfl | rfl | rfl <;> rfl
theorem one_sp (C:List Sp):∀ u ∈ zA_ C,u.oneCell' = true:=fun u hu=>by
 obtain ⟨x,_,h⟩:=List.mem_flatMap.1 hu
 simp [spC] at h
 rcases h with rfl | rfl <;> rfl
theorem dupS_any (l:List St) (an:Option Addr) (cn:Nat) (w:World) (hl:SlC (fun q=>q < w.heap.size) w 7 (.slice an l.length cn) l.length (stL l)) (hlen:l.length ≤ 1000) :
 Calls Tryz.prog 21 #[.slice an l.length cn] w fun e w'=>∃ a c,e = .returned (.slice a l.length c)∧w'.ownsRow w.heap.size 72 7 (.slice a l.length c) l.length (stL l)∧Below w.heap.size w w':=by
 obtain ⟨i0,hi0,hz0,hz1,hz2⟩:=info_parts Tryz.info72
 have hcap:=SlC.caps hl
 have hl0:=hl.1
 have hon:=one_st l
 go_enter Tryz.func21,Tryz.ntmps21
 go_wp2_with (first | (at_make;refine wpList_make_own _ rfl _ _ 58 rfl w.heap.size 72 i0 _ 7 Tryz.underlying58 hi0 hz0 hz1 .i64 .i64 l.length l.length rfl rfl rfl (by rw [hz2];omega) (by unfold maxLen;omega) (nl_ _) ?_;intro w1 hown1 hgrow1) | (at_builtin;refine wpList_append_fits_any _ rfl _ _ 58 rfl w.heap.size 72 i0 7 Tryz.underlying58 hi0 hz1 w.heap.size 0 l.length [] rfl hown1 an l.length cn (stL l) rfl hl0 hcap.2.2 (SlC.news hl (qd_.grown hgrow1 (fun b hb=>⟨hb,by simp⟩))) hon (by omega) ?_;intro w2 hown2 hgrow2))
 go_ret
 have h2:=hown2
 simp only [Nat.zero_add,List.nil_append] at h2
 exact ⟨_,_,rfl,h2,((Below.refl _ _).grown hgrow1 (nl_ _) (by simp)).grown hgrow2 hgrow1.size (fun k hk=>by cases hk;exact nl_ _)⟩
theorem dupC_any (l:List Sp) (an:Option Addr) (cn:Nat) (w:World) (hl:SlC (fun q=>q < w.heap.size) w 2 (.slice an l.length cn) l.length (zA_ l)) (hlen:l.length ≤ 1000) :
 Calls Tryz.prog 22 #[.slice an l.length cn] w fun e w'=>∃ a c,e = .returned (.slice a l.length c)∧w'.ownsRow w.heap.size 35 2 (.slice a l.length c) l.length (zA_ l)∧Below w.heap.size w w':=by
 obtain ⟨i0,hi0,hz0,hz1,hz2⟩:=info_parts Tryz.info35
 have hcap:=SlC.caps hl
 have hl0:=hl.1
 have hon:=one_sp l
 go_enter Tryz.func22,Tryz.ntmps22
 go_wp2_with (first | (at_make;refine wpList_make_own _ rfl _ _ 50 rfl w.heap.size 35 i0 _ 2 Tryz.underlying50 hi0 hz0 hz1 .i64 .i64 l.length l.length rfl rfl rfl (by rw [hz2];omega) (by unfold maxLen;omega) (nl_ _) ?_;intro w1 hown1 hgrow1) | (at_builtin;refine wpList_append_fits_any _ rfl _ _ 50 rfl w.heap.size 35 i0 2 Tryz.underlying50 hi0 hz1 w.heap.size 0 l.length [] rfl hown1 an l.length cn (zA_ l) rfl hl0 hcap.2.2 (SlC.news hl (qd_.grown hgrow1 (fun b hb=>⟨hb,by simp⟩))) hon (by omega) ?_;intro w2 hown2 hgrow2))
 go_ret
 have h2:=hown2
 simp only [Nat.zero_add,List.nil_append] at h2
 exact ⟨_,_,rfl,h2,((Below.refl _ _).grown hgrow1 (nl_ _) (by simp)).grown hgrow2 hgrow1.size (fun k hk=>by cases hk;exact nl_ _)⟩
theorem zq_ (l:List St) (a:Option Addr) (c:Nat) (w:World) (hl:SlC (fun q=>q < w.heap.size) w 7 (.slice a l.length c) l.length (stL l)) (hlen:l.length ≤ 1000) (hne:0 < l.length) :
 Calls Tryz.prog 63 #[.slice a l.length c] w fun e w'=>∃ a' c',e = .returned (.slice a' l.length c')∧w'.ownsRow w.heap.size 72 7 (.slice a' l.length c') l.length (stL l)∧Below w.heap.size w w':=by
 obtain ⟨j0,hj0,hy0,hy1,hy2⟩:=info_parts Tryz.info72
 have hl0:=hl.1
 have q58:∀ (w:World) (a:Option Addr) (n c:Nat),(binOp .eql 58 (.slice a n c) (.slice none 0 0)).run Tryz.prog w = .ok (.bool a.isNone) w:=fun w a n c=>Lib.run_eql_slice_nil w 58 72 a n c 0 0 Tryz.underlying58
 obtain ⟨g,o,rfl,hg,_,_,_⟩:=SlC.cells hl hne
 have hbel:Below w.heap.size w (w.alloc (.cells #[] 72)):=(Below.refl _ _).alloc (nl_ _) _
 have hnews:=SlC.news hl (q9_ hbel fun b hb=>hb)
 have how:(w.alloc (.cells #[] 72)).ownsRow w.heap.size 72 7 (.slice (some ⟨w.heap.size,0,none⟩) 0 0) 0 []:=qB_ (n:=0) (cap:=0) (cur:=#[]) (nl_ _) (ha_ _ _) (by omega) (by unfold maxLen;omega) (by simp) (by simp)
 have HB:=hid hbel
 clear hbel hl
 go_enter Tryz.func63,Tryz.ntmps63
 go_wp2_with (at_builtin;go_loud (refine q5_ _ rfl _ _ _ rfl w.heap.size 72 j0 _ 7 56 Tryz.underlying58 hj0 hy0 hy1 hy2 rfl (by omega) _ 0 [] rfl how (some ⟨g,o,none⟩) l.length c _ rfl hl0 (fun h=>by cases h) hnews (one_st l) (by unfold maxLen;omega) (by omega) (by simp) ?_);intro a1 c1 w1 hown1 hgrow1 hat1)
 simp only [Nat.zero_add,List.nil_append] at hown1
 go_ret
 refine ⟨a1,c1,by simp,hown1,HB.out.grown hgrow1 (by simp) (fun b hb=>by cases hb;exact nl_ _)⟩
theorem ret35' {f:Func} {r:Nat} (hr:f.results = #[.cell r 35]) {tmps:Array Value} {W:World} {b:Nat} {x y:Value} (h:W.heap[b]? = some (.cells #[x,y] 35 (0,0))) (h2:tmps.getD r undef = .pointer (some ⟨b,0,none⟩)) :
 (results f tmps).run Tryz.prog W = .ok (.agg #[x,y]) W:=by
 have h0:=cg_ h (k:=0) rfl
 have h1:=cg_ h (k:=1) rfl
 rw [zx_ hr,h2]
 simp [go_sem,h0,h1]
theorem zV_ {b:Nat} {S O:Nat→Prop} {W W':World} (h:Hp b S W) (hS:∀ q,S q→q < W.heap.size) (hk:Keep O W W') (hb:¬ O b) (hO:∀ q,S q→¬ O q):Hp b S W':=by
 obtain ⟨a,l,c,nx,rd,h1,h2,h3,h4,h5⟩:=h
 have hl:=(ge_ h1).1
 exact ⟨a,l,c,nx,rd,(hk.block b hl hb).trans h1,h2,h3,SlC.agree h4 (hk.agree fun q hq=>⟨hS q hq,hO q hq⟩),h5⟩
theorem zQ_ (b:Nat) (S:Nat→Prop) (n wd:Nat) (w:World) (h:Hp b S w) (hS:∀ q,S q→q < w.heap.size) (hn:n ≤ 30) (hw:wd ≤ 10) :
 Calls Tryz.prog 55 #[.pointer (some ⟨b,0,none⟩), .int .i64 n, .int .i64 wd] w fun e w'=>∃ x:Sp,e = .returned (.agg (spC x))∧(0 ≤ x.lo∧x.lo ≤ n∧(n:Int) ≤ x.hi∧x.hi ≤ 30)∧Hp b S w'∧Keep (· = b) w w':=by
 obtain ⟨w1,hw1⟩:∃ w1,w.alloc (.cells #[.int .i64 0, .int .i64 0] 35) = w1:=⟨_,rfl⟩
 have hb1:Below w.heap.size w w1:=by rw [← hw1];exact (Below.refl _ _).alloc (nl_ _) _
 have hn1:w1.heap[w.heap.size]? = some (.cells #[.int .i64 0, .int .i64 0] 35 (0,0)):=by rw [← hw1];exact ha_ _ _
 have hbl:b < w.heap.size:=by obtain ⟨a,l,c,nx,rd,h1,_⟩:=h;exact (ge_ h1).1
 have H1:=zV_ h hS (Keep.of_below (O:=fun _=>False) hb1) (fun e=>e) (fun _ _ e=>e)
 have U1:=hid (zi_ b S w1 wd (by omega) H1)
 have K1:=hid (Keep.of_below (O:=(· = b)) hb1)
 obtain ⟨q,hq⟩:∃ q,w.heap.size = q:=⟨_,rfl⟩
 have HQ:=hid hq
 rw [hq] at hn1 hbl
 have N1:=hid hn1
 have HS:=hid (fun z (e:S z)=>(show z < q from hq ▸ hS z e))
 clear h hS hb1 H1 hn1
 go_enter Tryz.func55,Tryz.ntmps55
 go_upto_region 1 with fail
 try rw [hw1]
 try simp only [hq]
 clear hw1 hq
 go_wp2_with fail
 refine U1.out.mono ?_
 rintro e w2 ⟨u1,rfl,hu1,hp2,hk2⟩
 have U2:=hid (zi_ b S w2 wd (by omega) hp2)
 have K2:=hid (K1.out.trans hk2)
 have N2:=hid ((hk2.block q (ge_ N1.out).1 (by omega)).trans N1.out)
 have s1:IntKind.i64.wrap ((n:Int) - (u1:Int)) = (n:Int) - (u1:Int):=IntWalk.i64_in _ (by omega)
 clear U1 K1 N1 hp2 hk2
 go_wp2_with fail
 refine U2.out.mono ?_
 rintro e w3 ⟨u2,rfl,hu2,hp3,hk3⟩
 have K3:=hid (K2.out.trans hk3)
 have N3:=hid ((hk3.block q (ge_ N2.out).1 (by omega)).trans N2.out)
 have s2:IntKind.i64.wrap ((n:Int) + (u2:Int)) = (n:Int) + (u2:Int):=IntWalk.i64_in _ (by omega)
 have HP3:=hid hp3
 have p0:=cg_ N3.out (k:=0) (v := .int .i64 0) rfl
 have p1:=cg_ N3.out (k:=1) (v := .int .i64 0) rfl
 have f0:=cells_frz N3.out (k:=0)
 have f1:=cells_frz N3.out (k:=1)
 clear U2 K2 N2 hp3 hk3
 go_wp2_with fail
 obtain ⟨lo,hlo⟩:∃ z:Int,max 0 ((n:Int) - (u1:Int)) = z:=⟨_,rfl⟩
 obtain ⟨hi,hhi⟩:∃ z:Int,min 30 ((n:Int) + (u2:Int)) = z:=⟨_,rfl⟩
 rw [hlo,hhi]
 obtain ⟨w4,hw4⟩:∃ y,(w3.setCell ⟨q,0,none⟩ (.int .i64 lo)).setCell ⟨q,1,none⟩ (.int .i64 hi) = y:=⟨_,rfl⟩
 have hk4:Keep (· = q) w3 w4:=by rw [← hw4];exact (Keep.setCell (O:=(· = q)) (A:=w3) (p:=⟨q,0,none⟩) rfl).trans (Keep.setCell (p:=⟨q,1,none⟩) rfl)
 have hn4:w4.heap[q]? = some (.cells #[.int .i64 lo, .int .i64 hi] 35 (0,0)):=by rw [← hw4];exact (q4_ (q4_ N3.out)).trans (by rfl)
 rw [hw4]
 refine bodyPost_ret (ret35' rfl hn4 rfl) rfl ?_
 have hsz:=K3.out.size
 have hqq:=HQ.out
 exact ⟨⟨lo,hi⟩,rfl,by show 0 ≤ lo∧lo ≤ n∧(n:Int) ≤ hi∧hi ≤ 30;omega,zV_ HP3.out (fun z e=>by have:=HS.out z e;omega) hk4 (by omega) (fun z e=>by have:=HS.out z e;omega),K3.out.thenO hk4 fun j hj => .inr (by omega)⟩
end Go.Proofs.LS
namespace Go.Proofs.LB
open Go.RowKit Go.Sort Go.Proofs.LF Go.Proofs.LS
set_option maxHeartbeats 4000000
set_option maxRecDepth 100000
attribute [local go_sem] q1_ q2_ q6_
def iv (l:List Nat):List Value:=l.map fun n:Nat=>Value.int .i64 (n:Int)
end Go.Proofs.LB
namespace Go.Proofs.LS
open Go.RowKit Go.Sort Go.Proofs.LF Go.Proofs.LB
set_option maxHeartbeats 4000000
set_option maxRecDepth 100000
attribute [local go_sem] q1_ q2_ q6_
def S3:List St:=[⟨0,10,10,0,0,0,0⟩,⟨1,10,10,0,0,4,6⟩,⟨0,10,10,0,0,0,0⟩]
def C3:List Sp:=[⟨22,25⟩,⟨0,3⟩]
def X3:List Way:=((leastW 100 S3 C3).getD none).getD []
end Go.Proofs.LS