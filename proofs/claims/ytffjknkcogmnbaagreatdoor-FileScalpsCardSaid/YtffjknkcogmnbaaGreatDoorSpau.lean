/- Parts of the proof of a law of layer 11 (file): LfYaq. The conditions stand in each theorem. -/
import Derived.Test.YtffjknkcogmnbaaGreatDoorProg
import Derived.Test.YtffjknkcogmnbaaGreatDoorSpac
import Derived.Test.YtffjknkcogmnbaaGreatDoorSpae
import Derived.Test.YtffjknkcogmnbaaGreatDoorSpan
import Derived.Test.YtffjknkcogmnbaaGreatDoorSpap
import Derived.Test.YtffjknkcogmnbaaGreatDoorSpas
set_option linter.all false
set_option linter.unusedVariables false
set_option linter.unusedSimpArgs false
set_option linter.all false
set_option linter.unusedVariables false
set_option linter.unusedSimpArgs false
namespace Go.Proofs.LF
open Go.RowKit Go.Sort
set_option maxHeartbeats 4000000
set_option maxRecDepth 100000
attribute [local go_sem] q1_ q2_ q6_
def PutE (y:Fo) (p:List Ky) (n:List UInt8) (l:List Int) (s:Fo) (w:World) (e:Ending) (w':World):Prop:=
 ∃ a c,e = .returned (.tuple #[.slice a (putY y p n l s).len c, .int .i64 (ww_ y p n l s)])∧FOw 109 (Rg w.heap.size w'.heap.size) w' (.slice a (putY y p n l s).len c) (putY y p n l s)∧Below w.heap.size w w'
theorem FOw.nil {E:TypeId} {S:Nat→Prop} {w:World}:FOw E S w (.slice none 0 0) .nil:=⟨[],World.ownsRow_nil _ _ _ _,fun g h=>by simp [Value.ownBlock] at h,rfl⟩
theorem PutE.bad {y:Fo} {p:List Ky} {n:List UInt8} {l:List Int} {s:Fo} {w w':World} {x:Int} (hx:ww_ y p n l s = x) (h0:x ≠ 0) (hb:Below w.heap.size w w'):PutE y p n l s w (.returned (.tuple #[.slice none 0 0, .int .i64 x])) w':=by
 subst hx
 have hy:putY y p n l s = .nil:=by rw [putY,if_neg h0]
 refine ⟨none,0,by rw [hy];rfl,by rw [hy];exact FOw.nil,hb⟩
theorem put_fin {w0 wr W8 w8 w9:World} {B ob g o c9 X:Nat} {T2 T8:Nat→Prop} {F:Fo→Fo} {v V:Value} {sub out z:Fo} {a9:Option Addr} (hC:Ctx 109 38 B ob wr g o T2 F) (hFs:FOw 109 T2 wr v sub) (hB:Below w0.heap.size w0 wr) (hw0:w0.heap.size ≤ B)
 (hb8':Below wr.heap.size wr W8) (hb8:Below W8.heap.size W8 w8) (hT8:∀ b,T8 b→Rg W8.heap.size w8.heap.size b) (hgrow:w8.grownBy w9 v.ownBlock) (hV:V = .slice a9 X c9) (hF9:FOw 109 (fun b=>T2 b ∨ T8 b ∨ Rg w8.heap.size w9.heap.size b) w9 V z) (hz:F z = out) :
 ∃ a' c',(w9.setCell ⟨g,o,none⟩ V).heap[ob]? = some (.cells #[.slice a' out.len c'] 38 (0,0))∧FOw 109 (Rg B (w9.setCell ⟨g,o,none⟩ V).heap.size) (w9.setCell ⟨g,o,none⟩ V) (.slice a' out.len c') out∧Below w0.heap.size w0 (w9.setCell ⟨g,o,none⟩ V):=by
 have hb:=hb8'.trans (hb8.mono hb8'.size)
 have hz1:=hb8'.size
 have hz2:=hb8.size
 have hz3:=hgrow.size
 have hvT:∀ b,v.ownBlock = some b→T2 b:=fun b hb=>let ⟨_,_,h,_⟩:=hFs;h b hb
 have hgT:=hC.1
 have hT2:=hC.2.2.2.1
 have hgl:=hC.2.1
 have hgB:=hC.2.2.1
 have hzs:(w9.setCell ⟨g,o,none⟩ V).heap.size = w9.heap.size:=by simp [World.setCell]
 have hblk:∀ b,b < wr.heap.size→¬ T2 b→w9.heap[b]? = wr.heap[b]?:=fun b hbl hbT=>(hgrow.block b (by omega) (fun e=>hbT (hvT b e.symm))).trans (hb.block b hbl)
 have hF10:FOw 109 (fun b=>T2 b ∨ T8 b ∨ Rg w8.heap.size w9.heap.size b) (w9.setCell ⟨g,o,none⟩ V) V z:=hF9.agree fun b hb=>by
  refine Below.heap_setCell _ _ _ _ (fun e=>?_)
  subst e
  rcases hb with h | h | h
  · exact hgT h
  · have:=(hT8 _ h).1;omega
  · have:=h.1;omega
 obtain ⟨v',ho,hfin⟩:=hC.2.2.2.2 (w9.setCell ⟨g,o,none⟩ V) V z _ (by omega) (fun b b1 b2 b3=>(Below.heap_setCell _ _ _ _ b3).trans (hblk b b1 b2)) (zg_ (hblk g hgl hgT)) hF10 (fun b hb=>by
  rcases hb with h | h | h
  · exact .inl h
  · have:=hT8 b h;exact .inr ⟨by have:=this.1;omega,by have:=this.2;omega⟩
  · exact .inr ⟨by have:=h.1;omega,by have:=h.2;omega⟩)
 rw [hz] at hfin
 obtain ⟨a',c',rfl,_,_,_⟩:=hfin.fsl.at
 refine ⟨a',c',ho,hfin.wide (fun b hb=>⟨hb.1,hb.2.1⟩),?_⟩
 have h9:Below w0.heap.size w0 w9:=(hB.trans (hb.mono hB.size)).grown hgrow (by have:=hB.size;omega) (fun k hk=>by have:=(hT2 k (hvT k hk)).1;omega)
 exact Below.setCell h9 (by show w0.heap.size ≤ g;omega) _
theorem vQ_ {w:World} {g o:Nat} {X:Obj} (h:g < w.heap.size):(w.alloc X).drew.cell? ⟨g,o,none⟩ = w.cell? ⟨g,o,none⟩:=World.cell?_of_block (a:=⟨g,o,none⟩) (heap_alloc_old w X h)
theorem own_one2 (n:List UInt8) (l:List Int) (s:Fo) (vn vs:Value) (b:Nat) (t:TypeId) (fr:Nat × Nat) (S:Nat→Prop) (W:World) (hb:W.heap[b]? = some (.cells #[.string (bs n),vn,vs] t fr)) (h1:qF_ S W vn l) (h2:FSl S W vs s)
 (hS:∀ b,S b→b < W.heap.size) (s1:n.length ≤ 1000) (s2:l.length ≤ 1000) (s3:s.len ≤ 1000) (s4:s.Sm) :
 Calls Tryz.prog 121 #[.slice (some ⟨b,0,none⟩) 1 1] W fun e w'=>∃ g c an cn ab cb T,e = .returned (.slice (some ⟨g,0,none⟩) 1 c)∧1 ≤ c∧W.heap.size ≤ g∧g < w'.heap.size∧w'.cell? ⟨g,0,none⟩ = some (.string (bs n))∧w'.cell? ⟨g,1,none⟩ = some (.slice an l.length cn)∧w'.cell? ⟨g,2,none⟩ = some (.slice ab s.len cb) ∧
  (∀ b,T b→Rg W.heap.size w'.heap.size b)∧qT_ 109 T w' (.cons n l s .nil) [.string (bs n), .slice an l.length cn, .slice ab s.len cb]∧Below W.heap.size W w':=by
 have hlt:b < W.heap.size:=(ge_ hb).1
 refine (jC_ _ (.cons n l s .nil) (some ⟨b,0,none⟩) 1 (fun x=>S x ∨ x = b) W (Nat.lt_succ_self _) (xi_ hb h1 h2) (fun x hx=>hx.elim (hS x) (fun h=>by omega)) (by simp [Fo.len]) ⟨s1,s2,s3,s4,trivial⟩).mono ?_
 rintro e w' ⟨a,c,rfl,hF,hbel⟩
 obtain ⟨ds,hown,hvs,hf⟩:=hF
 obtain ⟨vn',vs',cs',S1,S2,S3,rfl,hsub,d1,d2,d3,hI,⟨es,hs1,hs2,hs3⟩,h0⟩:=id hf
 obtain ⟨an,cn,rfl,_⟩:=SlC.shape hI
 obtain ⟨ab,cb,rfl,_⟩:=owns_shape hs1
 obtain rfl:cs' = []:=h0
 rcases hown.2 with ⟨_,h00⟩ | ⟨g,cap,cur,he,hbg,hg,hnc,hcap,hcs,htk⟩
 · simp [Fo.len] at h00
 cases he
 have hc:∀ j u,[Value.string (bs n), .slice an l.length cn, .slice ab s.len cb][j]? = some u→w'.cell? ⟨g,j,none⟩ = some u:=fun j u hj=>by
  simp only [World.cell?,hg]
  rw [← htk,List.getElem?_take] at hj
  split at hj
  · simpa using hj
  · cases hj
 exact ⟨g,c,an,cn,ab,cb,_,rfl,by simpa [Fo.len] using hnc,(hvs g rfl).1,(hvs g rfl).2,hc 0 _ rfl,hc 1 _ rfl,hc 2 _ rfl,fun b hb=>hb.1,hf,hbel⟩
theorem Put_any (y:Fo) (p:List Ky) (n:List UInt8) (l:List Int) (s:Fo) (ay ap an ab:Option Addr) (cy cp cn cb:Nat) (S T U:Nat→Prop) (w:World) (hv:FSl S w (.slice ay y.len cy) y) (hS:∀ b,S b→b < w.heap.size) (hp:Pth T w (.slice ap p.length cp) p) (hT:∀ b,T b→b < w.heap.size)
 (hI:qF_ U w (.slice an l.length cn) l) (hF:FSl U w (.slice ab s.len cb) s) (hU:∀ b,U b→b < w.heap.size)
 (hlen:y.len ≤ 1000) (hsm:y.Sm) (hcnt:y.cnt ≤ 900) (lp:p.length ≤ 1000) (s1:n.length ≤ 1000) (s2:l.length ≤ 1000) (s3:s.len ≤ 1000) (s4:s.Sm) (scnt:s.cnt ≤ 800) :
 Calls Tryz.prog 73 #[.slice ay y.len cy, .slice ap p.length cp, .agg #[.string (bs n), .slice an l.length cn, .slice ab s.len cb]] w (PutE y p n l s w):=by
 have hb0:Below w.heap.size w (w.alloc (.cells #[.string (bs n), .slice an l.length cn, .slice ab s.len cb] 109)):=(Below.refl _ _).alloc (nl_ _) _
 have hN0:=hid (ha_ w (.cells #[.string (bs n), .slice an l.length cn, .slice ab s.len cb] 109))
 have HC:=hid (za_ y ay cy S _ (hv.agree (q9_ hb0 hS)) (fun b hb=>by have:=hS b hb;simp;omega) hlen hsm hcnt)
 have HB0:=hid hb0
 have HV:=hid hv
 have HP:=hid hp
 have HS:=hid hS
 have HT:=hid hT
 have HU:=hid hU
 have HI:=hid hI
 have HF:=hid hF
 have HSM:=hid hsm
 have HS4:=hid s4
 clear hb0 hv hp hS hT hsm hI hF hU s4
 go_enter Tryz.func73,Tryz.ntmps73
 go_wp2_with fail
 refine HC.out.mono ?_
 rintro e w1 ⟨rfl,hb1⟩
 have hz1:=hb1.size
 simp only [World.size_alloc] at hz1
 have HB1:=hid (HB0.out.trans (hb1.mono (by simp)))
 have HN1:=hid ((hb1.block w.heap.size (by simp)).trans hN0.out)
 clear hb1
 by_cases hc:qz_ y = 0
 · have hc':(qz_ y != 0) = false:=by simpa using hc
   have HA:=hid (at_any y p ay ap cy cp S T w1 (HV.out.agree (q9_ HB1.out HS.out)) (fun b hb=>by have:=HS.out b hb;omega) (HP.out.agree (q9_ HB1.out HT.out)) (fun b hb=>by have:=HT.out b hb;omega) hlen HSM.out lp)
   have HCY:=hid hc
   clear hc
   go_wp2_with fail
   refine HA.out.mono ?_
   rintro e w2 ⟨n',l',s',an',cn',ab',cb',hat,rfl,_,_,hb2⟩
   have hz2:=hb2.size
   have HB2:=hid ((HB1.out.trans (hb2.mono (by omega))).alloc (show w.heap.size ≤ w2.heap.size by omega) (.cells #[.string (bs n'), .slice an' l'.length cn', .slice ab' s'.len cb'] 109))
   have HN2:=hid ((heap_alloc_old w2 (.cells #[.string (bs n'), .slice an' l'.length cn', .slice ab' s'.len cb'] 109) (show w.heap.size < w2.heap.size by omega)).trans ((hb2.block w.heap.size (by omega)).trans HN1.out))
   clear hb2 hat
   go_upto_region 5 with fail
   obtain ⟨w3,hw3⟩:∃ w3,w2.alloc (.cells #[.string (bs n'), .slice an' l'.length cn', .slice ab' s'.len cb'] 109) = w3:=⟨_,rfl⟩
   rw [hw3] at HB2 HN2 ⊢
   obtain ⟨q,hq⟩:∃ q,(atF y p).isSome = q:=⟨_,rfl⟩
   obtain ⟨bad,hbad⟩:∃ bad:Bool,bad = (!q && decide (0 < p.length)):=⟨_,rfl⟩
   have HQ:=hid hq
   rw [hq]
   clear hq
   go_cut [33] from 27 to 32 (fun v wx=>v = .bool bad∧wx = w3)
   case first=>
    cases q with
    | true=>
      go_wp2_with fail
      go_meet
      case rel=>exact ⟨by rw [hbad];rfl,rfl⟩
    | false=>
      go_wp2_with fail
      go_meet
      case rel=>exact ⟨by rw [hbad];simp,rfl⟩
   case rest=>
    obtain ⟨rfl,rfl⟩:=hcut
    have hz3:w2.heap.size + 1 = wc.heap.size:=by rw [← hw3];simp
    clear hw3
    have q0:=cg_ HN2.out (k:=0) rfl
    have q1:=cg_ HN2.out (k:=1) rfl
    have q2:=cg_ HN2.out (k:=2) rfl
    cases bad with
    | true=>
      have hE:ww_ y p n l s = 1:=by
       have h1:q = false∧0 < p.length:=by simpa using hbad.symm
       have h2:(atF y p).isNone∧p ≠ []:=⟨by have:=HQ.out;rw [h1.1] at this;simpa using this,fun e=>by rw [e] at h1;simp at h1⟩
       rw [ww_,if_neg (by simpa using HCY.out),if_pos h2]
      have HE:=hid hE
      clear hE hbad
      go_wp2_with fail
      refine bodyPost_ret (v := .tuple #[.slice none 0 0, .int .i64 1]) (by simp [results,Tryz.results73,go_sem]) rfl ?_
      exact PutE.bad HE.out (by decide) HB2.out
    | false=>
      have hok:¬ ((atF y p).isNone∧p ≠ []):=by
       rintro ⟨h1,h2⟩
       have h3:q = false:=by rw [← HQ.out];simpa using h1
       have h4:0 < p.length:=List.length_pos_iff.2 h2
       rw [h3] at hbad
       simp [h4] at hbad
      have HOK:=hid hok
      clear hok hbad HQ
      go_wp2_with fail
      have hbx:Below wc.heap.size wc (wc.alloc (.cells #[.string (bs n), .slice an l.length cn, .slice ab s.len cb] 109)):=(Below.refl _ _).alloc (nl_ _) _
      have hbw:=HB2.out.trans (hbx.mono (by omega))
      refine (ji_ (.cons n l s .nil) (some ⟨wc.heap.size,0,none⟩) 1 (fun x=>U x ∨ x = wc.heap.size) _ (xi_ (ha_ wc _) (HI.out.agree (q9_ hbw HU.out)) (HF.out.agree (q9_ hbw HU.out))) (fun b hb=>by rcases hb with hb | hb;(have:=HU.out b hb;simp;omega);simp [hb]) (by simp [Fo.len]) ⟨s1,s2,s3,HS4.out,trivial⟩ (by simp [Fo.cnt];omega)).mono ?_
      rintro e w4 ⟨rfl,hb4⟩
      have hz4:=hb4.size
      simp only [World.size_alloc] at hz4
      have HB4:=hid (hbw.trans (hb4.mono (by simp;omega)))
      have HN4:=hid ((hb4.block w.heap.size (by simp;omega)).trans ((heap_alloc_old wc _ (by omega)).trans HN2.out))
      clear hb4 hbw hbx q0 q1 q2 HN2
      by_cases h60:1 + s.cnt ≤ 60
      · have hd:decide ((Fo.cons n l s .nil).cnt ≤ 60) = true:=by simp [Fo.cnt,h60]
        rw [hd]
        clear hd
        have HO:=hid (jC_ (y.cnt + 1) y ay cy S w4 (by omega) (HV.out.agree (q9_ HB4.out HS.out)) (fun b hb=>by have:=HS.out b hb;omega) hlen HSM.out)
        go_wp2_with fail
        refine HO.out.mono ?_
        rintro e w5 ⟨a5,c5,rfl,hF5,hb5⟩
        have hz5:=hb5.size
        have HB5:=hid (HB4.out.trans (hb5.mono (by omega)))
        have HN5:=hid ((hb5.block w.heap.size (by omega)).trans HN4.out)
        have HF5:=hid hF5
        clear hb5 hF5 HN4
        have hb6:Below w5.heap.size w5 (w5.alloc (.cells #[.slice a5 y.len c5] 38)):=(Below.refl _ _).alloc (nl_ _) _
        have HB6:=hid (HB5.out.trans (hb6.mono (by omega)))
        have HO6:=hid (ha_ w5 (.cells #[.slice a5 y.len c5] 38))
        have HF6:=hid (HF5.out.agree (q9_ hb6 (fun b hb=>hb.2)))
        have HN6:=hid ((hb6.block w.heap.size (by omega)).trans HN5.out)
        clear hb6
        go_wp2_with fail
        go_loopw [12,42] (fun pt ix wr=>∃ (k g o cs:Nat) (az:Option Addr) (sub:Fo) (T2:Nat→Prop) (F:Fo→Fo),k ≤ p.length∧pt = .pointer (some ⟨g,o,none⟩)∧ix = .int .i64 k∧Hid (Ctx 109 38 w4.heap.size w5.heap.size wr g o T2 F)∧wr.cell? ⟨g,o,none⟩ = some (.slice az sub.len cs)∧wr.frozen? ⟨g,o,none⟩ = false ∧
         Hid (FOw 109 T2 wr (.slice az sub.len cs) sub)∧sub.len ≤ 1000∧Hid sub.Sm∧Hid (F (j8_ n l s (p.drop k) sub) = j8_ n l s p y)∧Hid (p.drop k ≠ []→(atF sub (p.drop k)).isSome = true)∧Hid (wr.heap[w.heap.size]? = some (.cells #[.string (bs n), .slice an l.length cn, .slice ab s.len cb] 109 (0,0)))∧Below w.heap.size w wr) (fun _ i _=>p.length - (intOf i).toNat)
        case atStart=>exact ⟨0,w5.heap.size,0,c5,a5,y,Rg w4.heap.size w5.heap.size,id,Nat.zero_le _,rfl,rfl,Ctx.start HO6.out hz5 (fun b hb=>⟨hb.1,by have:=hb.2;simp;omega,by have:=hb.2;omega⟩),cg_ HO6.out (k:=0) rfl,cells_frz HO6.out (k:=0),HF6.out,hlen,HSM.out,rfl,
         (fun h => by have := HOK.out; cases ha : atF y p with
                      | none=>exact absurd ⟨by rw [ha];rfl,h⟩ this
                      | some x=>simp [ha]),HN6.out,HB6.out⟩
        case round=>
         obtain ⟨k,g,o,cs,az,sub,T2,F,hk,rfl,rfl,hC,hcell,hfz,hFs,hsl,hss,hput,hatk,hNr,hB⟩:=hrel
         have hzr:=hB.size
         by_cases hlt:k < p.length
         · have hlt':(k:Int) < (p.length:Int):=by omega
           obtain ⟨gp,op,rfl,hgp,_,_,hpc⟩:=SlC.cells HP.out (by omega)
           obtain ⟨k0,k1,k2⟩:=qO_ hlt
           have ha:=q9_ hB HT.out
           have c0:=ha.cell hgp (hpc _ _ k0)
           have c1:=ha.cell hgp (hpc _ _ k1)
           have c2:=ha.cell hgp (hpc _ _ k2)
           rw [← Nat.add_assoc] at c1 c2
           have hdr:p.drop k = p[k] :: p.drop (k + 1):=List.drop_eq_getElem_cons hlt
           obtain ⟨ky,hky⟩:∃ ky,p[k] = ky:=⟨_,rfl⟩
           rw [hky] at c0 c1 c2 hdr
           have hat1:=hatk.out (by rw [hdr];simp)
           have hput1:=hput.out
           rw [hdr] at hat1 hput1
           rcases x7_ (fun i=>decide (zf_ sub i = some ky)) sub.len with ⟨hi,hall⟩ | ⟨i,hil,hi,hki,hbef⟩
           · have hfn:j7_ ky sub = none:=xM_ fun j hj=>by have:=hall j hj;simpa using this
             simp only [atF,hfn] at hat1
             simp at hat1
           · obtain ⟨n2,l2,s2',r2,hd2⟩:=Fo.drop_lt hil
             have hkn:kyOf n2 l2 = ky:=by
              have:decide (zf_ sub i = some ky) = true:=hki
              simp [zf_,hd2] at this
              exact this
             have hne:∀ j,j < i→zf_ sub j ≠ some ky:=fun j hj=>by have:=hbef j hj;simpa using this
             have hfn:j7_ ky sub = some (n2,l2,s2'):=by
              rw [ki_ (i:=i) hne,hd2]
              simp [j7_,hkn]
             have hput2:F (sub.setN i n2 l2 (j8_ n l s (p.drop (k + 1)) s2')) = j8_ n l s p y:=by
              rw [← hput1,j8_,modK_at hd2 hkn hne]
             have hat2:p.drop (k + 1) ≠ []→(atF s2' (p.drop (k + 1))).isSome = true:=fun hne=>by
              simp only [atF,hfn,hne,if_false] at hat1
              exact hat1
             obtain ⟨t1,t2,t3,t4,_⟩:n2.length ≤ 1000∧l2.length ≤ 1000∧s2'.len ≤ 1000∧s2'.Sm∧r2.Sm:=by have:=hss.out.drop (i:=i);rwa [hd2] at this
             obtain ⟨g2,cap2,vn2,vs2,T3,hvs2,hcap1,hcap2,d0,d1,d2,hTg2,hI2,hF3,hC3⟩:=hC.out.step hcell hFs.out hd2
             cases hvs2
             have hg2z:wr.frozen? ⟨g2,i * 3 + 2,none⟩ = false:=by
              obtain ⟨ds,hown,_,_⟩:=hFs.out
              rcases hown.2 with ⟨h0,_⟩ | ⟨g',cap',cur',he',_,hg',_⟩
              · cases h0
              · cases he';exact cells_frz hg'
             obtain ⟨a3,c3,rfl,_,_,_⟩:=hF3.fsl.at
             have hil':(i:Int) < (sub.len:Int):=by omega
             have hi0:(0:Int) ≤ (i:Int):=by omega
             unfold maxLen at hcap2
             have hBa:Below wr.heap.size wr (wr.alloc (.cells #[.string (bs ky.n), .bool ky.h, .int .i64 ky.x] 96)).drew:=((Below.refl _ _).alloc (nl_ _) _).drew
             have hT2:∀ b,T2 b→b < wr.heap.size:=fun b hb=>(hC.out.2.2.2.1 b hb).2.1
             obtain ⟨ds,hsl1,hsl2⟩:=hFs.out.fsl
             have hagA:=q9_ hBa hT2
             have hnew:=ha_ wr (.cells #[.string (bs ky.n), .bool ky.h, .int .i64 ky.x] 96)
             have HI3:=hid (yd_ 123 enters135 (fun i=>decide (zf_ sub i = some ky)) [.pointer (some ⟨wr.heap.size,0,none⟩)] sub.len (some ⟨g2,0,none⟩) cs ds T2 _ (hsl1.agree hagA) (fun b hb=>by have:=hT2 b hb;simp;omega) (by omega)
              (isKP_node (hsl1.agree hagA) (hsl2.agree hagA) (fun b hb=>by have:=hT2 b hb;simp;omega) (by simp) (cg_ hnew (k:=0) rfl) (cg_ hnew (k:=1) rfl) (cg_ hnew (k:=2) rfl)))
             have HBA:=hid hBa
             have HC3:=hid hC3
             have HF3:=hid hF3
             have HPUT:=hid hput2
             have HAT:=hid hat2
             have HT2:=hid hT2
             have HC2:=hid hC.out
             have hgl:g < wr.heap.size:=hC.out.2.1
             clear hpc k0 k1 k2 hky hdr hki hbef hkn hne hfn hput1 hput2 hat1 hat2 hd2 hBa hsl1 hsl2 hagA hnew hC3 hF3 hT2 hC hI2 hFs hput hatk ha hss
             go_wp2_with fail
             go_region_held3 (fun w'=>w'.cell? ⟨g,o,none⟩ = some (.slice (some ⟨g2,0,none⟩) sub.len cs))
              (first
                | exact bc_ hb7 (by simp;omega) (by with_reducible assumption)
                | go_keep)
              (first
                | (go_at_call 122; refine HI3.out.mono ?_
                   rintro e w7 ⟨rfl,hb7⟩
                   rw [hi]))
             have hb7':Below wr.heap.size wr w7:=HBA.out.trans (Below.mono (show Below (wr.alloc (.cells #[.string (bs ky.n), .bool ky.h, .int .i64 ky.x] 96)).drew.heap.size (wr.alloc (.cells #[.string (bs ky.n), .bool ky.h, .int .i64 ky.x] 96)).drew w7 from ⟨hb7.os,hb7.tape,hb7.output,hb7.size,hb7.block⟩) (by simp))
             have HB7:=hid (hB.trans (hb7'.mono hzr))
             have HC7:=hid (HC3.out.grow hb7'.size (fun b hb=>hb7'.block b hb))
             have HF7:=hid (HF3.out.agree (q9_ hb7' (fun b hb=>(HC3.out.2.2.2.1 b hb).2.1)))
             have HN7:=hid ((hb7'.block w.heap.size (ge_ hNr.out).1).trans hNr.out)
             have hg2l:g2 < wr.heap.size:=HT2.out g2 hTg2
             have e2:=bc_ hb7' hg2l d2
             have f2:w7.frozen? ⟨g2,i * 3 + 2,none⟩ = false:=(World.frozen?_of_block (a:=⟨g2,i * 3 + 2,none⟩) (hb7'.block g2 hg2l)).trans hg2z
             clear hb7 hb7'
             go_wp2_with fail
             go_roundw
             case rel=>exact ⟨k + 1,g2,i * 3 + 2,c3,a3,s2',T3,fun z=>F (sub.setN i n2 l2 z),by omega,rfl,by go_num,HC7.out,e2,f2,HF7.out,t3,t4,HPUT.out,HAT.out,HN7.out,HB7.out⟩
             case measure=>simp [intOf];omega
         · obtain rfl:k = p.length:=by omega
           have hlt':¬ (p.length:Int) < (p.length:Int):=by omega
           have q0:=cg_ hNr.out (k:=0) rfl
           have q1:=cg_ hNr.out (k:=1) rfl
           have q2:=cg_ hNr.out (k:=2) rfl
           have hput1:=hput.out
           rw [List.drop_length,j8_] at hput1
           have HPUT:=hid hput1
           have hT2:∀ b,T2 b→b < wr.heap.size:=fun b hb=>(hC.out.2.2.2.1 b hb).2.1
           have HT2:=hid hT2
           have hgl:g < wr.heap.size:=hC.out.2.1
           clear hput1 hT2 hput hatk
           go_upto_region 16 with fail
           have hbn:w.heap.size < wr.heap.size:=(ge_ hNr.out).1
           have hbA:Below wr.heap.size wr (wr.alloc (.cells #[.string (bs n), .slice an l.length cn, .slice ab s.len cb] 109)).drew:=((Below.refl _ _).alloc (nl_ _) _).drew
           have hbA2:=hB.trans (hbA.mono hzr)
           have OW:=hid (own_one2 n l s _ _ wr.heap.size 109 (0,0) U (wr.alloc (.cells #[.string (bs n), .slice an l.length cn, .slice ab s.len cb] 109)).drew (ha_ wr _) (HI.out.agree (q9_ hbA2 HU.out)) (HF.out.agree (q9_ hbA2 HU.out)) (fun b hb=>by have:=HU.out b hb;simp;omega) s1 s2 s3 HS4.out)
           have HBA:=hid hbA
           have hfsA:=hid (FOw.agree hFs.out (q9_ hbA HT2.out))
           have hgT:¬ T2 g:=hC.out.1
           have hvT:∀ b,(Value.slice az sub.len cs).ownBlock = some b→T2 b:=fun b hb=>let ⟨_,_,h,_⟩:=hFs.out;h b hb
           have hgb:g ≠ w.heap.size:=by have:=hC.out.2.2.1;omega
           have hng:(Value.slice az sub.len cs).ownBlock ≠ some g:=fun e=>hgT (hvT g e)
           have hnb:(Value.slice az sub.len cs).ownBlock ≠ some w.heap.size:=fun e=>by have:=(hC.out.2.2.2.1 _ (hvT _ e)).1;omega
           clear hbA hbA2
           refine (wpIn_wide (n:=9)).1 ?_
           refine yF_ (fun lx w'=>(Unl lx 11→w'.cell? ⟨g,o,none⟩ = some (.slice az sub.len cs))∧w'.cell? ⟨w.heap.size,0,none⟩ = some (.string (bs n))∧w'.cell? ⟨w.heap.size,1,none⟩ = some (.slice an l.length cn)∧w'.cell? ⟨w.heap.size,2,none⟩ = some (.slice ab s.len cb)) (by kernel_rfl) ?_
           have hS0:∀ lx,(fun (lx:Array Bool) (w':World)=>(Unl lx 11→w'.cell? ⟨g,o,none⟩ = some (.slice az sub.len cs))∧w'.cell? ⟨w.heap.size,0,none⟩ = some (.string (bs n))∧w'.cell? ⟨w.heap.size,1,none⟩ = some (.slice an l.length cn)∧w'.cell? ⟨w.heap.size,2,none⟩ = some (.slice ab s.len cb)) lx wr.drew:=fun lx=>⟨fun _=>hcell,q0,q1,q2⟩
           refine qi_ (fun _=>trivial) (by kernel_rfl) 0 57 (.pointer (some ⟨g,o,none⟩)) rfl rfl (by kernel_rfl) (by kernel_rfl) (by kernel_rfl) (by kernel_rfl) (fun _ _=>by simp only [qS_ (show 0 ≠ 11 by decide)]) (fun _ _ _ h=>h) (.inl ⟨by kernel_rfl,fun w' hs=>?_⟩) (hS0 _) ?_
           · obtain ⟨lx,hlx,hrx,hsx⟩:=hs
             go_simp
           refine qi_ (fun _=>trivial) (by kernel_rfl) 1 58 (.pointer (some ⟨g,o,none⟩)) rfl rfl (by kernel_rfl) (by kernel_rfl) (by kernel_rfl) (by kernel_rfl) (fun _ _=>by simp only [qS_ (show 1 ≠ 11 by decide)]) (fun _ _ _ h=>h) (.inl ⟨by kernel_rfl,fun w' hs=>?_⟩) (hS0 _) ?_
           · obtain ⟨lx,hlx,hrx,hsx⟩:=hs
             go_simp
           refine qi_ (fun _=>trivial) (by kernel_rfl) 2 59 (.pointer (some ⟨g,o,none⟩)) rfl rfl (by kernel_rfl) (by kernel_rfl) (by kernel_rfl) (by kernel_rfl) (fun _ _=>by simp only [qS_ (show 2 ≠ 11 by decide)]) (fun _ _ _ h=>h) (.inl ⟨by kernel_rfl,fun w' hs=>?_⟩) (hS0 _) ?_
           · obtain ⟨lx,hlx,hrx,hsx⟩:=hs
             go_simp
           refine qi_ (fun _=>trivial) (by kernel_rfl) 3 60 (.slice az sub.len cs) rfl rfl (by kernel_rfl) (by kernel_rfl) (by kernel_rfl) (by kernel_rfl) (fun _ _=>by simp only [qS_ (show 3 ≠ 11 by decide)]) (fun _ _ _ h=>h) (.inl ⟨by kernel_rfl,fun w' hs=>?_⟩) (hS0 _) ?_
           · obtain ⟨lx,hlx,hrx,hsx⟩:=hs
             have hux:=hsx.1 (vM_ hlx (k:=11) rfl (by kernel_rfl) (vM_ hlx (k:=9) rfl (by kernel_rfl) (ve_ hrx)))
             go_simp
           refine qi_ (fun _=>trivial) (by kernel_rfl) 4 61 (.agg #[.string (bs n), .slice an l.length cn, .slice ab s.len cb]) rfl rfl (by kernel_rfl) (by kernel_rfl) (by kernel_rfl) (by kernel_rfl) (fun _ _=>by simp only [qS_ (show 4 ≠ 11 by decide)]) (fun _ _ _ h=>h) (.inl ⟨by kernel_rfl,fun w' hs=>?_⟩) (hS0 _) ?_
           · obtain ⟨lx,hlx,hrx,hsx⟩:=hs
             obtain ⟨_,q0,q1,q2⟩:=hsx
             go_simp
           clear hS0
           refine qA_ (i:=5) (by kernel_rfl) rfl (by kernel_rfl) (fun K hK=>?_)
           go_simp
           refine hK _ _ ⟨⟨fun _=>bc_ HBA.out hgl hcell,bc_ HBA.out hbn q0,bc_ HBA.out hbn q1,bc_ HBA.out hbn q2⟩,?_⟩
           clear hK
           refine qA_ (i:=6) (by kernel_rfl) rfl (by kernel_rfl) (fun K hK=>?_)
           go_simp
           refine ⟨trivial,(callsIn_wide.2 OW.out).mono ?_⟩
           rintro e w8 ⟨g8,c8,an8,cn8,ab8,cb8,T8,rfl,hc8,hg8,hg8l,m0,m1,m2,hT8,hN8,hb8⟩
           have hc8':w8.cell? ⟨g,o,none⟩ = some (.slice az sub.len cs):=bc_ hb8 (by simp;omega) ((vQ_ hgl).trans hcell)
           have hc8i:(0:Int) < (c8:Int):=by omega
           have hx8:w.heap.size < (wr.alloc (.cells #[.string (bs n), .slice an l.length cn, .slice ab s.len cb] 109)).drew.heap.size:=by simp;omega
           refine hK _ _ ⟨⟨fun _=>hc8',bc_ hb8 hx8 (bc_ HBA.out hbn q0),bc_ hb8 hx8 (bc_ HBA.out hbn q1),bc_ hb8 hx8 (bc_ HBA.out hbn q2)⟩,?_⟩
           clear hK
           refine qA_ (i:=7) (by kernel_rfl) rfl (by kernel_rfl) (fun K hK=>?_)
           go_simp
           refine hK _ _ ⟨⟨fun _=>hc8',bc_ hb8 hx8 (bc_ HBA.out hbn q0),bc_ hb8 hx8 (bc_ HBA.out hbn q1),bc_ hb8 hx8 (bc_ HBA.out hbn q2)⟩,?_⟩
           clear hK
           refine qA_ (i:=8) (by kernel_rfl) rfl (by kernel_rfl) (fun K hK=>?_)
           go_simp
           refine hK _ _ ⟨⟨fun _=>hc8',bc_ hb8 hx8 (bc_ HBA.out hbn q0),bc_ hb8 hx8 (bc_ HBA.out hbn q1),bc_ hb8 hx8 (bc_ HBA.out hbn q2)⟩,?_⟩
           clear hK
           refine qA_ (i:=9) (by kernel_rfl) rfl (by kernel_rfl) (fun K hK=>?_)
           go_simp
           refine ⟨trivial,(callsIn_wide.2 (put_any sub s n l an8 ab8 az cn8 cb8 cs T2 T8 w8 (hfsA.out.agree (q9_ hb8 (fun b hb=>by have:=HT2.out b hb;simp;omega))) hN8 (fun b h1 h2=>by have:=HT2.out b h1;have:=(hT8 b h2).1;simp at this;omega) (fun b hb=>by have:=HT2.out b hb;have:=hb8.size;simp at this;omega) (fun b hb=>(hT8 b hb).2) hsl s2)).mono ?_⟩
           rintro e w9 ⟨a9,c9,rfl,hF9,hgrow⟩
           have hc9:w9.cell? ⟨g,o,none⟩ = some (.slice az sub.len cs):=qh_ hgrow hng hc8'
           have hblk9:w9.heap[g]? = wr.heap[g]?:=(hgrow.block g (by have:=hb8.size;simp at this;omega) (fun e=>hng e.symm)).trans ((hb8.block g (by simp;omega)).trans (heap_alloc_old wr _ hgl))
           have hz9:w9.frozen? ⟨g,o,none⟩ = false:=(World.frozen?_of_block (a:=⟨g,o,none⟩) hblk9).trans hfz
           have r0:=qh_ hgrow hnb (bc_ hb8 hx8 (bc_ HBA.out hbn q0))
           have r1:=qh_ hgrow hnb (bc_ hb8 hx8 (bc_ HBA.out hbn q1))
           have r2:=qh_ hgrow hnb (bc_ hb8 hx8 (bc_ HBA.out hbn q2))
           refine hK _ _ ⟨⟨fun _=>hc9,r0,r1,r2⟩,?_⟩
           clear hK
           refine qA_ (i:=10) (by kernel_rfl) rfl (by kernel_rfl) (fun K hK=>?_)
           go_simp
           refine hK _ _ ⟨⟨fun _=>hc9,r0,r1,r2⟩,?_⟩
           clear hK
           refine qA_ (i:=11) (by kernel_rfl) rfl (by kernel_rfl) (fun K hK=>?_)
           go_simp
           refine hK _ _ ⟨⟨fun h=>(by cases h),(World.cell?_setCell_far _ _ _ _ hgb).trans r0,(World.cell?_setCell_far _ _ _ _ hgb).trans r1,(World.cell?_setCell_far _ _ _ _ hgb).trans r2⟩,?_⟩
           clear hK r0 r1 r2
           refine xL_ (by kernel_rfl) ?_
           go_simp
           all_goals
            have hfin:=put_fin hC.out hFs.out hB (by omega) HBA.out (show Below (wr.alloc (.cells #[.string (bs n), .slice an l.length cn, .slice ab s.len cb] 109)).drew.heap.size (wr.alloc (.cells #[.string (bs n), .slice an l.length cn, .slice ab s.len cb] 109)).drew w8 from ⟨hb8.os,hb8.tape,hb8.output,hb8.size,hb8.block⟩) hT8 ⟨hgrow.os,hgrow.tape,hgrow.output,hgrow.size,hgrow.block⟩ rfl hF9 HPUT.out
            clear hb8 hgrow hc9 hblk9 hz9 m0 m1 m2 hc8' q0 q1 q2
            clear hN8 hF9 hT8
            generalize w9.setCell ⟨g,o,none⟩ (.slice a9 (we_ n l s sub).len c9) = wf at hfin ⊢
            obtain ⟨a',c',hob,hFo,hBf⟩:=hfin
            have hcF:=y1_ (n:=n) (l:=l) (s:=s) p y
            have hcy:y.cnt ≤ 60:=by
             have h:=HCY.out
             unfold qz_ at h
             split at h
             · assumption
             · omega
            have hnm:=putF_nm s1 s2 HS4.out.nm p y HSM.out.nm
            have hE:ww_ y p n l s = qz_ (j8_ n l s p y):=by rw [ww_,if_neg (by simpa using HCY.out),if_neg HOK.out,if_neg (by omega)]
            have hY:putY y p n l s = if ww_ y p n l s = 0 then j8_ n l s p y else .nil:=rfl
            clear HPUT
            generalize j8_ n l s p y = zz at hob hFo hcF hnm hE hY ⊢
            have hln:=Fo.len_le_cnt zz
            have CF:=hid (za_ zz a' c' _ wf hFo.fsl (fun b hb=>hb.2) (by omega) (hnm.sm (by omega)) (by omega))
            have hob0:=cg_ hob (k:=0) rfl
            have HOB:=hid hob
            have HFO:=hid hFo
            have HBF:=hid hBf
            have HE:=hid hE
            have HY:=hid hY
            have hBz:=hBf.size
            clear hob hFo hBf hnm hE hY
            go_wp2_with fail
            refine CF.out.mono ?_
            rintro e w11 ⟨rfl,hb11⟩
            have hob1:=cg_ ((hb11.block _ (ge_ HOB.out).1).trans HOB.out) (k:=0) rfl
            have HB11:=hid (HBF.out.trans (hb11.mono hBz))
            have HF11:=hid (HFO.out.agree (q9_ hb11 (fun b hb=>hb.2)))
            have hz11:=hb11.size
            clear hb11
            by_cases hcf:qz_ zz = 0
            · have hcf':(qz_ zz != 0) = false:=by simpa using hcf
              go_wp2_with fail
              refine bodyPost_ret (v := .tuple #[.slice a' zz.len c', .int .i64 0]) (by simp [results,Tryz.results73,go_sem]) rfl ?_
              have hy:putY y p n l s = zz:=by rw [HY.out,HE.out,hcf,if_pos rfl]
              exact ⟨a',c',by rw [hy,HE.out,hcf],by rw [hy];exact HF11.out.wide (fun b hb=>⟨by have:=hb.1;omega,by have:=hb.2;omega⟩),HB11.out⟩
            · have hcf':(qz_ zz != 0) = true:=by simpa using hcf
              go_wp2_with fail
              refine bodyPost_ret (v := .tuple #[.slice none 0 0, .int .i64 (qz_ zz)]) (by simp [results,Tryz.results73,go_sem]) rfl ?_
              exact PutE.bad HE.out hcf HB11.out
      · have hd:decide ((Fo.cons n l s .nil).cnt ≤ 60) = false:=decide_eq_false (by simp only [Fo.cnt];omega)
        rw [hd]
        have HE:=hid (show ww_ y p n l s = 2 by rw [ww_,if_neg (by simpa using HCY.out),if_neg HOK.out,if_pos (by omega)])
        clear hd
        go_wp2_with fail
        refine bodyPost_ret (v := .tuple #[.slice none 0 0, .int .i64 2]) (by simp [results,Tryz.results73,go_sem]) rfl ?_
        exact PutE.bad HE.out (by decide) HB4.out
 · have hc':(qz_ y != 0) = true:=by simpa using hc
   have HE:=hid (show ww_ y p n l s = qz_ y by rw [ww_,if_pos hc])
   have HX:=hid hc
   clear hc
   go_wp2_with fail
   refine bodyPost_ret (v := .tuple #[.slice none 0 0, .int .i64 (qz_ y)]) (by simp [results,Tryz.results73,go_sem]) rfl ?_
   exact PutE.bad HE.out HX.out HB1.out
end Go.Proofs.LF