/- Parts of the proof of a law of layer 11 (file): LfYav, LbB1, LbMap, LbB2, LbB4, LbB5, LbB6, LbS1, LbB7, LbS2, LbB8, LbS3, LbB9, LbS4, LbB12. The conditions stand in each theorem. -/
import Derived.Test.YtffjknkcogmnbaaGreatDoorProg
import Derived.Test.YtffjknkcogmnbaaGreatDoorSpaa
import Derived.Test.YtffjknkcogmnbaaGreatDoorSpab
import Derived.Test.YtffjknkcogmnbaaGreatDoorSpac
import Derived.Test.YtffjknkcogmnbaaGreatDoorSpae
import Derived.Test.YtffjknkcogmnbaaGreatDoorSpag
import Derived.Test.YtffjknkcogmnbaaGreatDoorSpah
import Derived.Test.YtffjknkcogmnbaaGreatDoorSpai
import Derived.Test.YtffjknkcogmnbaaGreatDoorSpaj
import Derived.Test.YtffjknkcogmnbaaGreatDoorSpak
import Derived.Test.YtffjknkcogmnbaaGreatDoorSpal
import Derived.Test.YtffjknkcogmnbaaGreatDoorSpam
import Derived.Test.YtffjknkcogmnbaaGreatDoorSpan
import Derived.Test.YtffjknkcogmnbaaGreatDoorSpao
import Derived.Test.YtffjknkcogmnbaaGreatDoorSpap
import Derived.Test.YtffjknkcogmnbaaGreatDoorSpaq
import Derived.Test.YtffjknkcogmnbaaGreatDoorSpar
import Derived.Test.YtffjknkcogmnbaaGreatDoorSpas
import Derived.Test.YtffjknkcogmnbaaGreatDoorSpat
import Derived.Test.YtffjknkcogmnbaaGreatDoorSpau
import Derived.Test.YtffjknkcogmnbaaGreatDoorSpav
import Derived.Test.YtffjknkcogmnbaaGreatDoorSpaw
import Derived.Test.YtffjknkcogmnbaaGreatDoorSpax
import Derived.Test.YtffjknkcogmnbaaGreatDoorSpay
set_option linter.all false
set_option linter.unusedVariables false
set_option linter.unusedSimpArgs false
set_option linter.all false
set_option linter.unusedVariables false
set_option linter.unusedSimpArgs false
namespace Go.Proofs.LF
def Chn:List Ky→List NdD→Prop
 | _,[]=>True
 | prev,x :: xs=>(x.up = prev.take x.up.length∧x.up.length ≤ prev.length∧x.up.length ≤ 3∧OkN x)∧Chn (x.up ++ [kyOf x.n x.l]) xs
theorem vD_:∀ (y:Fo) (up prev:List Ky) (rest:List NdD),OkG up.length y→prev.take up.length = up→up.length ≤ prev.length→(∀ prev',prev'.take up.length = up→up.length ≤ prev'.length→Chn prev' rest)→Chn prev (qa_ up y ++ rest)
 | .nil,up,prev,rest,_,h1,h2,h=>by simpa [qa_] using h prev h1 h2
 | .cons n l s r,up,prev,rest,⟨⟨g1,g2,g3,g4⟩,g5,_,g7⟩,h1,h2,h=>by
   simp only [qa_,List.cons_append,List.append_assoc]
   refine ⟨⟨h1.symm,h2,g1,g2,g3,g4⟩,?_⟩
   refine vD_ s (up ++ [kyOf n l]) _ _ (by simpa using g5) (List.take_of_length_le (nl_ _)) (nl_ _) fun prev' p1 p2=>?_
   have q1:prev'.take up.length = up:=by
    have:=congrArg (List.take up.length) p1
    rw [List.take_take,List.length_append,List.length_singleton,Nat.min_eq_left (by omega),List.take_left] at this
    exact this
   exact vD_ r up prev' rest g7 q1 (by simp at p2;omega) h
def flD (x:NdD):Fl:=⟨x.up ++ [kyOf x.n x.l],x.l⟩
theorem xQ_ (t:List UInt8):∀ (xs:List NdD) (f i ln:Nat) (prev ks:List Ky) (fs:List Fl),t.drop i = kN_ xs→xs.length < f→ln + xs.length ≤ 60→Chn prev xs→ks.length = 4→prev.length ≤ 4→ks.take prev.length = prev→Srt (fs ++ xs.map flD) →
 xz_ t f i ln (min prev.length 3) ks fs = (fs ++ xs.map flD,0,0,0)
 | [],f + 1,i,ln,prev,ks,fs,h,_,_,_,_,_,_,_=>by
   have:¬ i < t.length:=fun hi=>by
    have:=congrArg List.length h
    rw [List.length_drop] at this
    simp [kN_] at this
    omega
   rw [xz_,if_neg this]
   simp
 | [],0,_,_,_,_,_,_,h,_,_,_,_,_,_=>by omega
 | x :: xs,0,_,_,_,_,_,_,h,_,_,_,_,_,_=>by omega
 | x :: xs,f + 1,i,ln,prev,ks,fs,h,hf,hln,⟨⟨c1,c2,c3,c4⟩,c5⟩,hk,hp4,hkp,hs=>by
   have htx:kN_ (x :: xs) = ze_ x ++ kN_ xs:=by simp [kN_]
   have hlp:0 < (ze_ x).length:=by simp [ze_];omega
   have hi:i < t.length:=by
    have:=congrArg List.length h
    rw [List.length_drop,htx,List.length_append] at this
    omega
   simp only [List.length_cons] at hf hln
   rw [xz_,if_pos hi,if_neg (by omega),h,htx,wn_ c4 (by omega)]
   dsimp only
   rw [if_neg (by simp)]
   have hkd:ks.take x.up.length = x.up:=by
    have:=congrArg (List.take x.up.length) hkp
    rw [List.take_take,Nat.min_eq_left c2,← c1] at this
    exact this
   have hks:(ks.set x.up.length (kyOf x.n x.l)).take (x.up.length + 1) = x.up ++ [kyOf x.n x.l]:=by
    rw [List.take_succ_eq_append_getElem (by simp;omega),List.take_set_of_le (nl_ _),hkd]
    simp
   rw [hks]
   have hany:(fs.any fun z=>decide (0 ≤ cmpP z.p (x.up ++ [kyOf x.n x.l]))) = false:=by
    rw [List.any_eq_false]
    intro z hz
    have:=(List.pairwise_append.1 hs).2.2 z hz (flD x) (by simp)
    simp only [flD] at this
    simp only [decide_eq_true_eq]
    omega
   rw [hany,if_neg (by simp)]
   have e1:i + ((ze_ x).length - 1) + 1 = i + (ze_ x).length:=by omega
   have e2:min (x.up.length + 1) 3 = min (x.up ++ [kyOf x.n x.l]).length 3:=by simp
   have hd:t.drop (i + (ze_ x).length) = kN_ xs:=by rw [← List.drop_drop,h,htx,List.drop_left]
   rw [e1,e2]
   have:=xQ_ t xs f (i + (ze_ x).length) (ln + 1) (x.up ++ [kyOf x.n x.l]) (ks.set x.up.length (kyOf x.n x.l)) (fs ++ [flD x]) hd (by omega) (by omega) c5 (by simpa using hk) (by simp;omega) (by rw [List.length_append,List.length_singleton];exact hks) (by simpa using hs)
   rw [show (⟨x.up ++ [kyOf x.n x.l],x.l⟩:Fl) = flD x from rfl,this]
   simp
theorem fls_flD (y:Fo):flsL [] y = (qa_ [] y).map flD:=rfl
theorem prs_txt {y:Fo} (h:qz_ y = 0):prs (kN_ (qa_ [] y)) = (flsL [] y,0,0,0):=by
 have hlen:(qa_ [] y).length ≤ 60:=by rw [qr_];exact jd_ h
 have:=xQ_ (kN_ (qa_ [] y)) (qa_ [] y) 62 0 0 [] [ky0,ky0,ky0,ky0] [] rfl (by omega) (by omega) (by
  have:=vD_ y [] [] [] (chk_okG h) rfl (nl_ _) (fun _ _ _=>trivial)
  simpa using this) rfl (by simp) rfl (by rw [List.nil_append,← fls_flD];exact zJ_ h)
 rw [prs]
 simpa [fls_flD] using this
end Go.Proofs.LF
namespace Go.Proofs.LF
open Go.RowKit Go.Sort
set_option maxHeartbeats 4000000
set_option maxRecDepth 100000
attribute [local go_sem] q1_ q2_ q6_
def bedN:List UInt8:=[98,101,100]
def zl_:List UInt8:=[114,97,107,101,100]
def xD_:List UInt8:=[115,111,108,100]
def k0_ (n:Int):Fo := .cons bedN [3] (.cons zl_ [5,n] .nil .nil) (.cons xD_ [] .nil .nil)
theorem qy_ {S:Nat→Prop} {w:World} {b k n:Nat} {vs:Array Value} {t:TypeId} {fr:Nat × Nat} (hb:w.heap[b]? = some (.cells vs t fr)) (hS:S b) (hl:vs.size = n * k) (hn:n ≤ maxLen):SlC S w k (.slice (some ⟨b,0,none⟩) n n) n vs.toList:=by
 refine ⟨by simpa using hl,_,n,rfl,nl_ _,hn,(fun h=>by cases h), .inr ⟨b,0,rfl,hS,fun j u hj=>?_⟩⟩
 simp only [World.cell?,hb,Nat.zero_add]
 simpa using hj
theorem zB_ (n:Int) (w:World) :
 Calls Tryz.prog 51 #[.int .i64 n] w fun e w'=>∃ g,e = .returned (.slice (some ⟨g,0,none⟩) 2 2)∧FSl (Rg w.heap.size w'.heap.size) w' (.slice (some ⟨g,0,none⟩) 2 2) (k0_ n)∧Below w.heap.size w w':=by
 go_enter Tryz.func51,Tryz.ntmps51
 go_wp2_with fail
 refine bodyPost_ret (v := .slice (some ⟨w.heap.size + 1 + 1 + 1,0,none⟩) 2 2) (by simp [results,Tryz.results51,go_sem]) rfl ?_
 refine ⟨w.heap.size + 1 + 1 + 1,rfl,?_,?_⟩
 · have key:∀ (N:Nat) (W:World) (A B C D:Obj),A = .cells #[.int .i64 3] 3→B = .cells #[.int .i64 5, .int .i64 n] 3→C = .cells #[.string ⟨#[114,97,107,101,100]⟩, .slice (some ⟨N + 1,0,none⟩) 2 2, .slice none 0 0] 109 →
    D = .cells #[.string ⟨#[98,101,100]⟩, .slice (some ⟨N,0,none⟩) 1 1, .slice (some ⟨N + 1 + 1,0,none⟩) 1 1, .string ⟨#[115,111,108,100]⟩, .slice none 0 0, .slice none 0 0] 109→N = w.heap.size→W = (((w.alloc A).alloc B).alloc C).alloc D→FSl (Rg w.heap.size W.heap.size) W (.slice (some ⟨N + 1 + 1 + 1,0,none⟩) 2 2) (k0_ n):=by
    rintro N W A B C D hA hB hC hD hN hW
    have hz:W.heap.size = N + 4:=by rw [hW,hN];simp
    have a0:W.heap[N]? = some A:=by
     rw [hW,hN]
     exact (heap_alloc_old _ _ (by simp;omega)).trans ((heap_alloc_old _ _ (by simp;omega)).trans ((heap_alloc_old _ _ (by simp)).trans (ha_ w A)))
    have a1:W.heap[N + 1]? = some B:=by
     have h:=ha_ (w.alloc A) B
     simp only [World.size_alloc] at h
     rw [hW,hN]
     exact (heap_alloc_old _ _ (by simp)).trans ((heap_alloc_old _ _ (by simp)).trans h)
    have a2:W.heap[N + 1 + 1]? = some C:=by
     have h:=ha_ ((w.alloc A).alloc B) C
     simp only [World.size_alloc] at h
     rw [hW,hN]
     exact (heap_alloc_old _ _ (by simp)).trans h
    have a3:W.heap[N + 1 + 1 + 1]? = some D:=by
     have h:=ha_ (((w.alloc A).alloc B).alloc C) D
     simp only [World.size_alloc] at h
     rw [hW,hN]
     exact h
    have hS:∀ k,k < 4→Rg w.heap.size W.heap.size (N + k):=fun k hk=>⟨by omega,by omega⟩
    rw [hA] at a0
    rw [hB] at a1
    rw [hC] at a2
    rw [hD] at a3
    have i0:qF_ (Rg w.heap.size W.heap.size) W (.slice (some ⟨N,0,none⟩) 1 1) [3]:=qy_ (vs:=#[.int .i64 3]) a0 (hS 0 (by omega)) rfl (by simp [maxLen])
    have i1:qF_ (Rg w.heap.size W.heap.size) W (.slice (some ⟨N + 1,0,none⟩) 2 2) [5,n]:=qy_ (vs:=#[.int .i64 5, .int .i64 n]) a1 (hS 1 (by omega)) rfl (by simp [maxLen])
    have nilI:∀ S,qF_ S W (.slice none 0 0) []:=fun S=>⟨rfl,none,0,rfl,nl_ _,by simp [maxLen],fun _=>rfl, .inl rfl⟩
    have nilF:∀ S,∃ ds,SlC S W 3 (.slice none 0 0) Fo.nil.len ds∧FCs S W .nil ds:=fun S=>⟨[],⟨rfl,none,0,rfl,nl_ _,by simp [maxLen],fun _=>rfl, .inl rfl⟩,rfl⟩
    have s2:=qy_ (k:=3) (n:=1) (S:=Rg w.heap.size W.heap.size) a2 (hS 2 (by omega)) rfl (by simp [maxLen])
    have s3:=qy_ (k:=3) (n:=2) (S:=Rg w.heap.size W.heap.size) a3 (hS 3 (by omega)) rfl (by simp [maxLen])
    exact ⟨_,s3,_,_,_,rfl,i0,⟨_,s2,_,_,_,rfl,i1,nilF _,rfl⟩,_,_,_,rfl,nilI _,nilF _,rfl⟩
   exact key w.heap.size _ _ _ _ _ rfl rfl rfl rfl rfl rfl
 · exact ((((Below.refl _ _).alloc (nl_ _) _).alloc (by simp) _).alloc (by simp;omega) _).alloc (by simp;omega) _
theorem xs_ (s:ByteArray) (x:Int) (g c:Nat) (w:World) (hx:w.cell? ⟨g,0,none⟩ = some (.int .i64 x)) (hg:g < w.heap.size) (hc:1 ≤ c) :
 Calls Tryz.prog 72 #[.string s, .slice (some ⟨g,0,none⟩) 1 c] w fun e w'=>e = .returned (.agg #[.string s, .bool true, .int .i64 x])∧Below w.heap.size w w':=by
 have hx':(w.alloc (.cells #[.string ByteArray.empty, .bool false, .int .i64 0] 96)).cell? ⟨g,0,none⟩ = some (.int .i64 x):=bc_ ((Below.refl w.heap.size _).alloc (nl_ _) _) hg hx
 go_enter Tryz.func72,Tryz.ntmps72
 go_wp2_with fail
 exact bodyPost_ret (v := .agg #[.string s, .bool true, .int .i64 x]) (by simp [results,Tryz.results72,go_sem]) rfl ⟨rfl,((Below.refl _ _).alloc (nl_ _) _)⟩
theorem ky_beq (a b:Ky):decide (a = b) = (a.n == b.n && (a.h == b.h && a.x == b.x)):=by
 obtain ⟨an,ah,ax⟩:=a
 obtain ⟨bn,bh,bx⟩:=b
 by_cases h1:an = bn <;> by_cases h2:ah = bh <;> by_cases h3:ax = bx <;> simp [h1,h2,h3]
theorem kM_ (p q:List Ky) (ap aq:Option Addr) (cp cq:Nat) (S:Nat→Prop) (w:World) (hp:Pth S w (.slice ap p.length cp) p) (hq:Pth S w (.slice aq q.length cq) q) (lp:p.length ≤ 100000) (lq:q.length ≤ 100000) :
 Calls Tryz.prog 74 #[.slice ap p.length cp, .slice aq q.length cq] w fun e w'=>e = .returned (.bool (decide (p = q)))∧Below w.heap.size w w':=by
 by_cases hne:p.length = q.length
 · have hne':((p.length:Int) != (q.length:Int)) = false:=by simp;omega
   have HN:=hid hne
   clear hne
   go_enter Tryz.func74,Tryz.ntmps74
   go_wp2_with fail
   go_loopw [13] (fun i wr=>∃ (k d:Nat),k ≤ p.length∧i = .int .i64 k∧wr = w.drewN d∧Hid (p.take k = q.take k)) (fun i _=>p.length - (intOf i).toNat)
   case atStart=>exact ⟨0,0,by omega,rfl,rfl,by simp [Hid]⟩
   case round=>
    obtain ⟨k,d,hk,rfl,rfl,H2⟩:=hrel
    by_cases hlt:k < p.length
    · obtain ⟨g,o,rfl,_,_,_,hcell⟩:=SlC.cells hp (by omega)
      obtain ⟨g',o',rfl,_,_,_,hcell'⟩:=SlC.cells hq (by have:=HN.out;omega)
      have hlt':k < q.length:=by have:=HN.out;omega
      obtain ⟨k0,k1,k2⟩:=qO_ hlt
      obtain ⟨k0',k1',k2'⟩:=qO_ hlt'
      have c0:=hcell _ _ k0
      have c1:=hcell _ _ k1
      have c2:=hcell _ _ k2
      have d0:=hcell' _ _ k0'
      have d1:=hcell' _ _ k1'
      have d2:=hcell' _ _ k2'
      rw [← Nat.add_assoc] at c1 c2 d1 d2
      have htp:p.take (k + 1) = p.take k ++ [p[k]]:=List.take_succ_eq_append_getElem hlt
      have htq:q.take (k + 1) = q.take k ++ [q[k]]:=List.take_succ_eq_append_getElem hlt'
      obtain ⟨a,ha⟩:∃ a,p[k] = a:=⟨_,rfl⟩
      obtain ⟨b,hb⟩:∃ b,q[k] = b:=⟨_,rfl⟩
      have HA:=hid ha
      have HB:=hid hb
      rw [ha] at c0 c1 c2 htp
      rw [hb] at d0 d1 d2 htq
      have HTP:=hid htp
      have HTQ:=hid htq
      clear hcell hcell' k0 k1 k2 k0' k1' k2' htp htq ha hb
      have i1:(0:Int) ≤ (k:Int):=by omega
      have i2:(k:Int) < (p.length:Int):=by omega
      have i3:(k:Int) < (q.length:Int):=by omega
      by_cases he:a = b
      · subst he
        go_wp2_with fail
        go_quiet (fail)
        go_wp2_with fail
        go_roundw
        case rel=>exact ⟨k + 1,_,by omega,by go_num,rfl,by rw [Hid,HTP.out,HTQ.out,H2.out]⟩
        case measure=>simp [intOf];omega
      · have hdec:(a.n == b.n && (a.h == b.h && a.x == b.x)) = false:=by rw [← ky_beq];simp [he]
        have HE:=hid he
        have HDEC:=hid hdec
        clear he hdec
        cases hn:(a.n == b.n) <;> cases hh:(a.h == b.h) <;> cases hx:(a.x == b.x)
        all_goals first
         | (exfalso;have:=HDEC.out;rw [hn,hh,hx] at this;cases this;done)
         | (go_wp2_with fail
            go_quiet (fail)
            go_wp2_with fail
            go_ret
            refine ⟨qf_ ?_,qm_ (qm_ (Below.refl _ _) _) _⟩
            symm
            rw [decide_eq_false_iff_not]
            rintro rfl
            exact HE.out (HA.out.symm.trans HB.out))
    · go_wp2_with fail
      go_ret
      obtain rfl:k = p.length:=by omega
      refine ⟨qf_ ?_,qm_ (Below.refl _ _) _⟩
      symm
      have:=H2.out
      rw [List.take_length,HN.out,List.take_length] at this
      exact decide_eq_true this
 · have hne':((p.length:Int) != (q.length:Int)) = true:=by simp;omega
   have HN:=hid hne
   clear hne
   go_enter Tryz.func74,Tryz.ntmps74
   go_wp2_with fail
   go_ret
   refine ⟨qf_ ?_,Below.refl _ _⟩
   symm
   rw [decide_eq_false_iff_not]
   rintro rfl
   exact HN.out rfl
end Go.Proofs.LF
namespace Go.Proofs.LF
open Go.RowKit Go.Sort
def In (W:World) (v:Value) (y:Fo):Prop:=FSl (fun q=>q < W.heap.size) W v y
theorem In.on {W W':World} {v:Value} {y:Fo} (h:In W v y) (hb:Below W.heap.size W W'):In W' v y:=FSl.on h hb
def txt1:List UInt8:=[98,101,100,32,51,10,32,114,97,107,101,100,32,53,32,55,10,115,111,108,100,10]
def txt2:List UInt8:=[98,101,100,32,51,10,32,32,114,97,107,101,100,32,53,10]
def v5_:Ky:=⟨bedN,true,3⟩
def vV_:Ky:=⟨zl_,true,5⟩
def zs_:Ky:=⟨zl_,true,6⟩
def oneB (n:Int):Fo := .cons bedN [3] (.cons zl_ [5,n] .nil .nil) .nil
def yj_:Fo := .cons xD_ [] .nil .nil
def oneM:Fo := .cons bedN [3] (.cons zl_ [5,7] .nil (.cons zl_ [6] .nil .nil)) (.cons xD_ [] .nil .nil)
def difV:List Ch:=[⟨[v5_,vV_],true,true,[5,7],[5,8]⟩,⟨[⟨xD_,false,0⟩],true,false,[],[]⟩]
theorem val_chk:qz_ (k0_ 7) = 0:=by decide +kernel
theorem val_txt:kN_ (qa_ [] (k0_ 7)) = txt1:=by decide +kernel
theorem yv_:(prs txt1).2 = (0,0,0)∧yc_ txt1 = k0_ 7:=by decide +kernel
theorem jS_:(prs txt2).2 = (1,1,11)∧yc_ txt2 = .nil:=by decide +kernel
theorem val_dif:w9_ (k0_ 7) (oneB 8) = 0∧jA_ (k0_ 7) (oneB 8) = difV:=by decide +kernel
theorem val_get:getE (k0_ 7) [v5_,vV_] = 0∧getN (k0_ 7) [v5_,vV_] = (zl_,[5,7], .nil):=by decide +kernel
theorem jB_:ww_ (k0_ 7) [v5_] zl_ [6] .nil = 0∧putY (k0_ 7) [v5_] zl_ [6] .nil = oneM:=by decide +kernel
theorem ky_:joE (k0_ 7) yj_ oneM = 0∧joY (k0_ 7) yj_ oneM = yj_∧joP (k0_ 7) yj_ oneM = [[v5_,zs_]]:=by decide +kernel
theorem qZ_ {w:World} {B e k n g c i:Nat} {cs:List Value} {u:Value} (h:w.ownsRow B e k (.slice (some ⟨g,0,none⟩) n c) n cs) (hi:i < n * k):(w.setCell ⟨g,i,none⟩ u).ownsRow B e k (.slice (some ⟨g,0,none⟩) n c) n (cs.set i u)∧w.grownBy (w.setCell ⟨g,i,none⟩ u) (some g):=by
 obtain ⟨h1,⟨he,_⟩ | ⟨g',cap,cur,he,hbg,hgg,hn,hcap,hsz,htk⟩⟩:=h
 · cases he
 · cases he
   refine ⟨⟨by simpa using h1, .inr ⟨g,c,cur.setIfInBounds i u,rfl,hbg,?_,hn,hcap,by simpa using hsz,?_⟩⟩,⟨rfl,rfl,rfl,by simp [World.setCell],fun b hb hne=>Below.heap_setCell _ _ _ _ (fun e=>hne (by rw [e]))⟩⟩
   · simp [World.setCell,Array.getElem?_modify,hgg]
   · rw [Array.toList_setIfInBounds,List.take_set,htk]
theorem owns_cell {w:World} {B e k n g c i:Nat} {cs:List Value} {u:Value} (h:w.ownsRow B e k (.slice (some ⟨g,0,none⟩) n c) n cs) (hi:i < n * k) (hu:cs[i]? = some u):w.cell? ⟨g,i,none⟩ = some u∧w.frozen? ⟨g,i,none⟩ = false:=by
 obtain ⟨h1,⟨he,_⟩ | ⟨g',cap,cur,he,hbg,hgg,hn,hcap,hsz,htk⟩⟩:=h
 · cases he
 · cases he
   refine ⟨cg_ hgg ?_,cells_frz hgg⟩
   rw [← htk,List.getElem?_take,if_pos hi] at hu
   simpa using hu
end Go.Proofs.LF
namespace Go.Proofs.LF
open Go.RowKit Go.Sort
set_option maxHeartbeats 4000000
set_option maxRecDepth 100000
attribute [local go_sem] q1_ q2_ q6_
theorem FCs.take {S:Nat→Prop} {w:World}:∀ {i:Nat} {y:Fo} {cs:List Value},FCs S w y cs→FCs S w (y.take i) (cs.take (i * 3))
 | 0,_,_,_=>by simp [Fo.take,FCs]
 | i + 1, .nil,_,h=>by rw [show _ = [] from h];simp [Fo.take,FCs]
 | i + 1, .cons _ _ _ _,_,⟨vn,vs,cs',h,h2,h3,h5⟩=>by
   rw [h,show (i + 1) * 3 = i * 3 + 1 + 1 + 1 from by omega]
   exact ⟨vn,vs,cs'.take (i * 3),rfl,h2,h3,h5.take⟩
theorem SlC.pre {S:Nat→Prop} {w:World} {k n m c:Nat} {a:Option Addr} {cs:List Value} (h:SlC S w k (.slice a n c) n cs) (hm:m ≤ n):SlC S w k (.slice a m c) m (cs.take (m * k)):=by
 obtain ⟨h1,a',c',he,h2,h3,h4,h5⟩:=h
 cases he
 refine ⟨by rw [List.length_take,h1];exact Nat.min_eq_left (Nat.mul_le_mul_right k hm),a,c,rfl,by omega,h3,h4,?_⟩
 rcases h5 with h5 | ⟨g,o,h6,h7,h8⟩
 · exact .inl (by omega)
 · refine .inr ⟨g,o,h6,h7,fun j u hj=>h8 j u ?_⟩
   rw [List.getElem?_take] at hj
   split at hj
   · exact hj
   · cases hj
theorem SlC.suf {S:Nat→Prop} {w:World} {k n m c g o:Nat} {cs:List Value} (h:SlC S w k (.slice (some ⟨g,o,none⟩) n c) n cs) (hm:m < n):SlC S w k (.slice (some ⟨g,o + m * k,none⟩) (n - m) (c - m)) (n - m) (cs.drop (m * k)):=by
 obtain ⟨h1,a',c',he,h2,h3,h4,h5⟩:=h
 cases he
 refine ⟨by rw [List.length_drop,h1,Nat.sub_mul],_,_,rfl,by omega,by omega,(fun h=>by cases h),?_⟩
 rcases h5 with h5 | ⟨g',o',h6,h7,h8⟩
 · omega
 · cases h6
   refine .inr ⟨g,o + m * k,rfl,h7,fun j u hj=>?_⟩
   rw [List.getElem?_drop] at hj
   rw [Nat.add_assoc]
   exact h8 _ u hj
theorem FSl.pre {S:Nat→Prop} {w:World} {a:Option Addr} {m c:Nat} {y:Fo} (h:FSl S w (.slice a y.len c) y) (hm:m ≤ y.len):FSl S w (.slice a m c) (y.take m):=by
 obtain ⟨ds,h1,h2⟩:=h
 exact ⟨_,by rw [Fo.len_take hm];exact h1.pre hm,h2.take⟩
theorem FSl.suf {S:Nat→Prop} {w:World} {g o m c:Nat} {y:Fo} (h:FSl S w (.slice (some ⟨g,o,none⟩) y.len c) y) (hm:m < y.len):FSl S w (.slice (some ⟨g,o + m * 3,none⟩) (y.len - m) (c - m)) (y.drop m):=by
 obtain ⟨ds,h1,h2⟩:=h
 exact ⟨_,by rw [Fo.len_drop];exact h1.suf hm,h2.drop⟩
theorem z9_ (n:Int):(k0_ n).len = 2∧(k0_ n).Sm∧(k0_ n).cnt = 3:=⟨rfl,by simp [k0_,Fo.Sm,bedN,zl_,xD_,Fo.len],rfl⟩
theorem print7 (a:Option Addr) (c:Nat) (S:Nat→Prop) (w:World) (hv:FSl S w (.slice a 2 c) (k0_ 7)) (hS:∀ b,S b→b < w.heap.size) (ht:Pow w) :
 Calls Tryz.prog 10 #[.slice a 2 c] w fun e w'=>e = .returned (.tuple #[.string ⟨#[98,101,100,32,51,10,32,114,97,107,101,100,32,53,32,55,10,115,111,108,100,10]⟩, .int .i64 0])∧Below w.heap.size w w':=by
 have h:=xS_ (k0_ 7) a c S w hv hS (by decide) (z9_ 7).2.1 (by decide) ht
 rw [val_chk,if_pos rfl,val_txt] at h
 exact h
theorem parse1 (w:World):Calls Tryz.prog 11 #[.string ⟨#[98,101,100,32,51,10,32,114,97,107,101,100,32,53,32,55,10,115,111,108,100,10]⟩] w fun e w'=>∃ a c,e = .returned (.tuple #[.slice a 2 c, .int .i64 0, .int .i64 0, .int .i64 0])∧FSl (Rg w.heap.size w'.heap.size) w' (.slice a 2 c) (k0_ 7)∧Below w.heap.size w w':=by
 have h:=vj_ txt1 w (by decide)
 rw [yv_.1,yv_.2] at h
 exact h
theorem parse2 (w:World):Calls Tryz.prog 11 #[.string ⟨#[98,101,100,32,51,10,32,32,114,97,107,101,100,32,53,10]⟩] w fun e w'=>∃ a c,e = .returned (.tuple #[.slice a 0 c, .int .i64 1, .int .i64 1, .int .i64 11])∧Below w.heap.size w w':=by
 have h:=vj_ txt2 w (by decide)
 rw [jS_.1,jS_.2] at h
 exact h.mono fun e w' ⟨a,c,h1,_,h3⟩=>⟨a,c,h1,h3⟩
theorem alike7 (a1 a2:Option Addr) (c1 c2:Nat) (S:Nat→Prop) (w:World) (h1:FSl S w (.slice a1 2 c1) (k0_ 7)) (h2:FSl S w (.slice a2 2 c2) (k0_ 7)) (hS:∀ b,S b→b < w.heap.size) :
 Calls Tryz.prog 18 #[.slice a1 2 c1, .slice a2 2 c2] w fun e w'=>e = .returned (.bool true)∧Below w.heap.size w w':=by
 have h:=(vs_ 4).2 (k0_ 7) (k0_ 7) a1 c1 a2 c2 S w (by decide) h1 h2 hS (by decide) (by decide) (z9_ 7).2.1 (z9_ 7).2.1
 rw [decide_eq_true rfl] at h
 exact h
theorem diff78 (a1 a2:Option Addr) (c1 c2:Nat) (S:Nat→Prop) (w:World) (h1:FSl S w (.slice a1 2 c1) (k0_ 7)) (h2:FSl S w (.slice a2 1 c2) (oneB 8)) (hS:∀ b,S b→b < w.heap.size) (ht:Pow w) :
 Calls Tryz.prog 20 #[.slice a1 2 c1, .slice a2 1 c2] w fun e w'=>∃ a c,e = .returned (.tuple #[.slice a 2 c, .int .i64 0])∧ChSl (Rg w.heap.size w'.heap.size) w' (.slice a 2 c) difV∧Below w.heap.size w w':=by
 have h:=Diff_any (k0_ 7) (oneB 8) a1 a2 c1 c2 S w h1 h2 hS (by decide) (by decide) (z9_ 7).2.1 (by simp [oneB,Fo.Sm,bedN,zl_,Fo.len]) (by decide) (by decide) ht
 rw [val_dif.1,val_dif.2] at h
 exact h
theorem get7 (a1 a2:Option Addr) (c1 c2:Nat) (S T:Nat→Prop) (w:World) (h1:FSl S w (.slice a1 2 c1) (k0_ 7)) (hS:∀ b,S b→b < w.heap.size) (h2:Pth T w (.slice a2 2 c2) [v5_,vV_]) (hT:∀ b,T b→b < w.heap.size) :
 Calls Tryz.prog 71 #[.slice a1 2 c1, .slice a2 2 c2] w fun e w'=>∃ an cn ab cb,e = .returned (.tuple #[.agg #[.string ⟨#[114,97,107,101,100]⟩, .slice an 2 cn, .slice ab 0 cb], .int .i64 0])∧qF_ (Rg w.heap.size w'.heap.size) w' (.slice an 2 cn) [5,7]∧Below w.heap.size w w':=by
 have h:=Get_any (k0_ 7) [v5_,vV_] a1 a2 c1 c2 S T w h1 hS h2 hT (by decide) (z9_ 7).2.1 (by decide) (by decide)
 refine h.mono ?_
 rintro e w' ⟨n,l,s,an,cn,ab,cb,hg,he,hi,hf,hb⟩
 rw [val_get.2] at hg
 obtain ⟨rfl,rfl,rfl⟩:zl_ = n∧[5,7] = l∧Fo.nil = s:=by simpa using hg
 rw [val_get.1] at he
 exact ⟨an,cn,ab,cb,he,hi,hb⟩
theorem put7 (a1 a2 an:Option Addr) (c1 c2 cn:Nat) (S T:Nat→Prop) (w:World) (h1:FSl S w (.slice a1 2 c1) (k0_ 7)) (hS:∀ b,S b→b < w.heap.size) (h2:Pth T w (.slice a2 1 c2) [v5_]) (h3:qF_ T w (.slice an 1 cn) [6]) (hT:∀ b,T b→b < w.heap.size) :
 Calls Tryz.prog 73 #[.slice a1 2 c1, .slice a2 1 c2, .agg #[.string ⟨#[114,97,107,101,100]⟩, .slice an 1 cn, .slice none 0 0]] w fun e w'=>∃ a c,e = .returned (.tuple #[.slice a 2 c, .int .i64 0])∧FSl (Rg w.heap.size w'.heap.size) w' (.slice a 2 c) oneM∧Below w.heap.size w w':=by
 have h:=Put_any (k0_ 7) [v5_] zl_ [6] .nil a1 a2 an none c1 c2 cn 0 S T T w h1 hS h2 hT h3 ⟨[],⟨rfl,none,0,rfl,nl_ _,by simp [maxLen],fun _=>rfl, .inl rfl⟩,rfl⟩ hT (by decide) (z9_ 7).2.1 (by decide) (by decide) (by decide) (by decide) (by decide) trivial (by decide)
 refine h.mono ?_
 rintro e w' ⟨a,c,he,hf,hb⟩
 rw [jB_.1,jB_.2] at he
 rw [jB_.2] at hf
 exact ⟨a,c,he,hf.fsl,hb⟩
theorem join7 (a1 a2 a3:Option Addr) (c1 c2 c3:Nat) (S:Nat→Prop) (w:World) (h1:FSl S w (.slice a1 2 c1) (k0_ 7)) (h2:FSl S w (.slice a2 1 c2) yj_) (h3:FSl S w (.slice a3 2 c3) oneM) (hS:∀ b,S b→b < w.heap.size) (ht:Pow w) :
 Calls Tryz.prog 8 #[.slice a1 2 c1, .slice a2 1 c2, .slice a3 2 c3] w fun e w'=>∃ a c a' c',e = .returned (.tuple #[.slice a 1 c, .slice a' 1 c', .int .i64 0])∧FSl (Rg w.heap.size w'.heap.size) w' (.slice a 1 c) yj_∧PaSl (Rg w.heap.size w'.heap.size) w' (.slice a' 1 c') [[v5_,zs_]]∧Below w.heap.size w w':=by
 have h:=Join_any (k0_ 7) yj_ oneM a1 a2 a3 c1 c2 c3 S w h1 h2 h3 hS ⟨by decide,(z9_ 7).2.1,by decide⟩ ⟨by decide,by simp [yj_,Fo.Sm,xD_,Fo.len],by decide⟩ ⟨by decide,by simp [oneM,Fo.Sm,bedN,zl_,xD_,Fo.len],by decide⟩ ht
 refine h.mono ?_
 rintro e w' ⟨a,c,a',c',he,hf,hp,hb⟩
 rw [ky_.1,ky_.2.1,ky_.2.2] at he
 rw [ky_.2.1] at hf
 rw [ky_.2.2] at hp
 exact ⟨a,c,a',c',he,hf,hp,hb⟩
end Go.Proofs.LF
namespace Go.Proofs.LF
open Go.RowKit Go.Sort
theorem LCs.part {α:Type} {k:Nat} {r:Rd α k} {S:Nat→Prop} {w:World}:∀ {xs ys:List α} {cs:List Value},LCs r S w (xs ++ ys) cs→∃ c d,cs = c ++ d∧LCs r S w xs c∧LCs r S w ys d
 | [],_,cs,h=>⟨[],cs,rfl,rfl,h⟩
 | x :: xs,ys,cs,⟨c,ds,h1,h2,h3⟩=>by
   obtain ⟨c',d',h4,h5,h6⟩:=LCs.part (xs:=xs) (ys:=ys) h3
   exact ⟨c ++ c',d',by rw [h1,h4,List.append_assoc],⟨c,c',rfl,h2,h5⟩,h6⟩
end Go.Proofs.LF
namespace Go.Proofs.LF
open Go.RowKit Go.Sort
set_option maxHeartbeats 40000000
set_option maxRecDepth 100000
attribute [local go_sem] q1_ q2_ q6_
theorem yy_ {F:Fence} {n:Nat} {P:Program} {ops:Array Oper} {Q:Exit→Act→World→Prop} {md:Region.Mode} {S:World→Prop} {i j:Nat} {oi oj:Oper} {fuel:Nat} {listed:Array Bool} {a:Act} {w:World} (hr:Region.ready md ops listed = [i,j]) (hi:ops[i]? = some oi) (hj:ops[j]? = some oj)
 (hwi:Region.wanted oi (yielded ops a.tmps) = true) (hwj:Region.wanted oj (yielded ops a.tmps) = true)
 (h1:∀ K:Act→World→Prop,(∀ a w,S w∧k6_ F n P md ops Q S fuel (listed.setIfInBounds i true) a w→K a w)→Oper.wpIn F n P oi a w K Q)
 (h2:∀ K:Act→World→Prop,(∀ a w,S w∧k6_ F n P md ops Q S fuel (listed.setIfInBounds j true) a w→K a w)→Oper.wpIn F n P oj a w K Q):k6_ F n P md ops Q S (fuel + 1) listed a w:=
 ⟨fun h0=>(by rw [hr] at h0;cases h0),hr ▸ fun k hk=>by
   simp only [List.mem_cons,List.not_mem_nil,or_false] at hk
   rcases hk with rfl | rfl
   · unfold wpOpIn
     rw [hi]
     simp only [hwi,if_true]
     exact h1 _ fun _ _ h=>h
   · unfold wpOpIn
     rw [hj]
     simp only [hwj,if_true]
     exact h2 _ fun _ _ h=>h⟩
theorem awake_any (w:World) (ht:Pow w):Calls Tryz.prog 24 #[] w fun e w'=>e = .returned (.bool true)∧Below w.heap.size w w':=by
 have HT:=hid ht
 clear ht
 go_enter Tryz.func24,Tryz.ntmps24
 go_wp2_with fail
 refine (zB_ 7 w).mono ?_
 rintro e w1 ⟨g1,rfl,hF1,hb1⟩
 have HB1:=hid hb1
 have P1:=hid (print7 _ 2 _ w1 hF1 (fun b hb=>hb.2) (HT.out.below hb1))
 clear hF1 hb1
 go_wp2_with fail
 refine P1.out.mono ?_
 rintro e w2 ⟨rfl,hb2⟩
 have HB2:=hid (HB1.out.trans (hb2.mono HB1.out.size))
 clear hb2
 go_wp2_with fail
 refine (parse1 w2).mono ?_
 rintro e w3 ⟨a3,c3,rfl,hF3,hb3⟩
 have HB3:=hid (HB2.out.trans (hb3.mono HB2.out.size))
 have HF3:=hid hF3
 clear hF3 hb3
 go_wp2_with fail
 refine (parse2 w3).mono ?_
 rintro e w4 ⟨a4,c4,rfl,hb4⟩
 have HB4:=hid (HB3.out.trans (hb4.mono HB3.out.size))
 have HF4:=hid (HF3.out.agree (q9_ hb4 (fun b hb=>hb.2)))
 have hz4:=hb4.size
 clear hb4
 go_wp2_with fail
 refine (zB_ 7 w4).mono ?_
 rintro e w5 ⟨g5,rfl,hF5,hb5⟩
 have HB5:=hid (HB4.out.trans (hb5.mono HB4.out.size))
 have A5:=hid (alike7 a3 (some ⟨g5,0,none⟩) c3 2 (fun b=>b < w5.heap.size) w5 ((HF4.out.agree (q9_ hb5 (fun b hb=>by have:=hb.2;omega))).wide (fun b hb=>by have:=hb.2;have:=hb5.size;omega)) (hF5.wide (fun b hb=>hb.2)) (fun b hb=>hb))
 clear hF5 hb5
 go_wp2_with fail
 refine A5.out.mono ?_
 rintro e w6 ⟨rfl,hb6⟩
 have HB6:=hid (HB5.out.trans (hb6.mono HB5.out.size))
 clear hb6
 go_wp2_with fail
 refine (zB_ 7 w6).mono ?_
 rintro e w7 ⟨g7,rfl,hF7,hb7⟩
 have HB7:=hid (HB6.out.trans (hb7.mono HB6.out.size))
 have HF7:=hid hF7
 clear hF7 hb7
 go_wp2_with fail
 refine (zB_ 8 w7).mono ?_
 rintro e w8 ⟨g8,rfl,hF8,hb8⟩
 have HB8:=hid (HB7.out.trans (hb8.mono HB7.out.size))
 have D8:=hid (diff78 (some ⟨g7,0,none⟩) (some ⟨g8,0,none⟩) 2 2 (fun b=>b < w8.heap.size) w8 ((HF7.out.agree (q9_ hb8 (fun b hb=>hb.2))).wide (fun b hb=>by have:=hb.2;have:=hb8.size;omega)) ((FSl.pre (m:=1) hF8 (by decide)).wide (fun b hb=>hb.2)) (fun b hb=>hb) (HT.out.below HB8.out))
 clear hF8 hb8
 go_wp2_with fail
 refine D8.out.mono ?_
 rintro e w9 ⟨a9,c9,rfl,hC9,hb9⟩
 have HB9:=hid (HB8.out.trans (hb9.mono HB8.out.size))
 have HC9:=hid hC9
 clear hC9 hb9
 go_wp2_with fail
 refine (zB_ 7 w9).mono ?_
 rintro e w10 ⟨g10,rfl,hF10,hb10⟩
 have HB10:=hid (HB9.out.trans (hb10.mono HB9.out.size))
 have HF10:=hid hF10
 have HC10:=hid (LSl.agree HC9.out (q9_ hb10 (fun b hb=>hb.2)))
 have hz10:=hb10.size
 clear hF10 hb10 HF7 HF4 HF3 HC9 P1 A5 D8
 go_wp2_with fail
 have hba:Below w10.heap.size w10 (w10.alloc (.cells #[.int .i64 3] 3)):=(Below.refl _ _).alloc (nl_ _) _
 refine (xs_ _ 3 w10.heap.size 1 _ (cg_ (ha_ w10 _) (k:=0) rfl) (by simp) (nl_ _)).mono ?_
 rintro e w11 ⟨rfl,hb11⟩
 have hb11':=hba.trans (hb11.mono (by simp))
 have HB11:=hid (HB10.out.trans (hb11'.mono HB10.out.size))
 have HL11:=hid hb11'
 clear hb11 hba hb11'
 go_wp2_with fail
 have hba:Below w11.heap.size w11 (w11.alloc (.cells #[.int .i64 5] 3)):=(Below.refl _ _).alloc (nl_ _) _
 refine (xs_ _ 5 w11.heap.size 1 _ (cg_ (ha_ w11 _) (k:=0) rfl) (by simp) (nl_ _)).mono ?_
 rintro e w12 ⟨rfl,hb12⟩
 have hb12':=hba.trans (hb12.mono (by simp))
 have HB12:=hid (HB11.out.trans (hb12'.mono HB11.out.size))
 have HL12:=hid (HL11.out.trans (hb12'.mono HL11.out.size))
 clear hb12 hba hb12'
 go_wp2_with fail
 have hk12:=ha_ w12 (.cells #[.string ⟨#[98,101,100]⟩, .bool true, .int .i64 3, .string ⟨#[114,97,107,101,100]⟩, .bool true, .int .i64 5] 96)
 have hbk:Below w12.heap.size w12 (w12.alloc (.cells #[.string ⟨#[98,101,100]⟩, .bool true, .int .i64 3, .string ⟨#[114,97,107,101,100]⟩, .bool true, .int .i64 5] 96)):=(Below.refl _ _).alloc (nl_ _) _
 have hl12:=HL12.out.trans (hbk.mono HL12.out.size)
 have hP12:Pth (fun b=>b < w12.heap.size + 1) (w12.alloc (.cells #[.string ⟨#[98,101,100]⟩, .bool true, .int .i64 3, .string ⟨#[114,97,107,101,100]⟩, .bool true, .int .i64 5] 96)) (.slice (some ⟨w12.heap.size,0,none⟩) 2 2) [v5_,vV_]:=qy_ (k:=3) (n:=2) hk12 (by omega) rfl (by simp [maxLen])
 have G12:=hid (get7 (some ⟨g10,0,none⟩) (some ⟨w12.heap.size,0,none⟩) 2 2 _ _ _ (HF10.out.agree (q9_ hl12 (fun b hb=>hb.2))) (fun b hb=>by have:=hb.2;have:=hl12.size;omega) hP12 (fun b hb=>by simpa using hb))
 have HL12b:=hid hl12
 clear hk12 hbk hP12 hl12
 refine G12.out.mono ?_
 rintro e w13 ⟨an,cn,ab,cb,rfl,hI13,hb13⟩
 have hb13':=HL12b.out.trans (hb13.mono HL12b.out.size)
 have HL13:=hid hb13'
 have HB13:=hid (HB10.out.trans (hb13'.mono HB10.out.size))
 have HI13:=hid hI13
 have hz13:=hb13'.size
 have hz13b:w12.heap.size + 1 ≤ w13.heap.size:=by have:=hb13.size;simpa using this
 clear hI13 hb13 hb13' G12 HF10 HL12 HL12b HL11
 go_wp2_with fail
 have HN13:=hid (ha_ w13 (.cells #[.string ⟨#[114,97,107,101,100]⟩, .slice an 2 cn, .slice ab 0 cb] 109))
 have hbx:Below w13.heap.size w13 (w13.alloc (.cells #[.string ⟨#[114,97,107,101,100]⟩, .slice an 2 cn, .slice ab 0 cb] 109)):=(Below.refl _ _).alloc (nl_ _) _
 refine (zB_ 7 _).mono ?_
 rintro e w14 ⟨g14,rfl,hF14,hb14⟩
 have hz14:=hb14.size
 simp only [World.size_alloc] at hz14
 have hb14':=hbx.trans (hb14.mono (by simp))
 have HL14:=hid hb14'
 have HB14:=hid (HB13.out.trans (hb14'.mono HB13.out.size))
 have HN14:=hid ((hb14.block w13.heap.size (by simp)).trans HN13.out)
 have HF14:=hid (hF14.wide (S':=fun b=>b < w14.heap.size) (fun b hb=>hb.2))
 clear hF14 hb14 hb14' hbx
 go_wp2_with fail
 have hba:Below w14.heap.size w14 (w14.alloc (.cells #[.int .i64 3] 3)):=(Below.refl _ _).alloc (nl_ _) _
 refine (xs_ _ 3 w14.heap.size 1 _ (cg_ (ha_ w14 _) (k:=0) rfl) (by simp) (nl_ _)).mono ?_
 rintro e w15 ⟨rfl,hb15⟩
 have hb15':=hba.trans (hb15.mono (by simp))
 have HL15:=hid hb15'
 have hz15:=hb15'.size
 clear hb15 hba hb15'
 go_wp2_with fail
 have hk15:=ha_ w15 (.cells #[.string ⟨#[98,101,100]⟩, .bool true, .int .i64 3] 96)
 have hk15b:((w15.alloc (.cells #[.string ⟨#[98,101,100]⟩, .bool true, .int .i64 3] 96)).alloc (.cells #[.int .i64 6] 3)).heap[w15.heap.size]? = _:=(heap_alloc_old _ _ (by simp)).trans hk15
 have hk6:=ha_ (w15.alloc (.cells #[.string ⟨#[98,101,100]⟩, .bool true, .int .i64 3] 96)) (.cells #[.int .i64 6] 3)
 simp only [World.size_alloc] at hk6
 have hbk:Below w15.heap.size w15 ((w15.alloc (.cells #[.string ⟨#[98,101,100]⟩, .bool true, .int .i64 3] 96)).alloc (.cells #[.int .i64 6] 3)):=((Below.refl _ _).alloc (nl_ _) _).alloc (by simp) _
 have hl15:=HL15.out.trans (hbk.mono hz15)
 have hP15:Pth (fun b=>b < w15.heap.size + 2) ((w15.alloc (.cells #[.string ⟨#[98,101,100]⟩, .bool true, .int .i64 3] 96)).alloc (.cells #[.int .i64 6] 3)) (.slice (some ⟨w15.heap.size,0,none⟩) 1 1) [v5_]:=qy_ (k:=3) (n:=1) hk15b (by omega) rfl (by simp [maxLen])
 have hI15:qF_ (fun b=>b < w15.heap.size + 2) ((w15.alloc (.cells #[.string ⟨#[98,101,100]⟩, .bool true, .int .i64 3] 96)).alloc (.cells #[.int .i64 6] 3)) (.slice (some ⟨w15.heap.size + 1,0,none⟩) 1 1) [6]:=qy_ (k:=1) (n:=1) hk6 (by omega) rfl (by simp [maxLen])
 have G15:=hid (put7 (some ⟨g14,0,none⟩) (some ⟨w15.heap.size,0,none⟩) (some ⟨w15.heap.size + 1,0,none⟩) 2 1 1 _ _ _ (HF14.out.agree (q9_ hl15 (fun b hb=>hb))) (fun b hb=>by have:=hl15.size;omega) hP15 hI15 (fun b hb=>by simpa using hb))
 have HL15b:=hid hl15
 clear hk15 hk15b hk6 hbk hP15 hI15 hl15
 refine G15.out.mono ?_
 rintro e w16 ⟨a16,c16,rfl,hF16,hb16⟩
 have hb16':=HL15b.out.trans (hb16.mono HL15b.out.size)
 have HL16:=hid hb16'
 have HB16:=hid (HB14.out.trans (hb16'.mono HB14.out.size))
 have HF16:=hid (hF16.wide (S':=fun b=>b < w16.heap.size) (fun b hb=>hb.2))
 have HN16:=hid ((hb16'.block w13.heap.size (by omega)).trans HN14.out)
 have hz16:=hb16'.size
 clear hF16 hb16 hb16' G15 HF14 HL15 HL15b
 go_wp2_with fail
 refine (zB_ 7 w16).mono ?_
 rintro e w17 ⟨g17,rfl,hF17,hb17⟩
 have HL17:=hid hb17
 have hz17:=hb17.size
 have HF17:=hid (hF17.wide (S':=fun b=>b < w17.heap.size) (fun b hb=>hb.2))
 clear hF17 hb17
 go_wp2_with fail
 refine (zB_ 7 w17).mono ?_
 rintro e w18 ⟨g18,rfl,hF18,hb18⟩
 have hz18:=hb18.size
 have hl18:=HL17.out.trans (hb18.mono hz17)
 have HB18:=hid (HB16.out.trans (hl18.mono HB16.out.size))
 have hsuf:=FSl.suf (m:=1) hF18 (by decide)
 have J18:=hid (join7 (some ⟨g17,0,none⟩) (some ⟨g18,0 + 1 * 3,none⟩) a16 2 1 c16 (fun b=>b < w18.heap.size) w18 ((HF17.out.agree (q9_ hb18 (fun b hb=>hb))).wide (fun b hb=>by omega)) (hsuf.wide (fun b hb=>hb.2)) ((HF16.out.agree (q9_ hl18 (fun b hb=>hb))).wide (fun b hb=>by omega)) (fun b hb=>hb) (HT.out.below HB18.out))
 have HL18:=hid hl18
 clear hF18 hb18 hl18 hsuf HF17 HF16 HL17
 go_wp2_with fail
 refine J18.out.mono ?_
 rintro e w19 ⟨aj,cj,aq,cq,rfl,hFj,hPj,hb19⟩
 have hl19:=HL18.out.trans (hb19.mono (by omega))
 have hz19:w16.heap.size ≤ w19.heap.size:=by have:=hl19.size;omega
 have HB19:=hid (HB16.out.trans (hl19.mono HB16.out.size))
 have hl16:=HL16.out.trans (hl19.mono hz16)
 have hl14:=HL14.out.trans (hl16.mono (by omega))
 have hl13:=HL13.out.trans (hl14.mono hz13)
 have hw14:=hl14.size
 have hC19:ChSl (fun b=>b < w19.heap.size) w19 (.slice a9 2 c9) difV:=LSl.wide (LSl.agree HC10.out (q9_ hl13 (fun b hb=>by have:=hb.2;omega))) (fun b hb=>by have:=hb.2;omega)
 have hI19:qF_ (fun b=>b < w19.heap.size) w19 (.slice an 2 cn) [5,7]:=(HI13.out.agree (q9_ hl14 (fun b hb=>hb.2))).wide (fun b hb=>by have:=hb.2;omega)
 have hN19:=(hl19.block w13.heap.size (by omega)).trans HN16.out
 have n1:w19.cell? ⟨w13.heap.size,1,none⟩ = some (.slice an 2 cn):=cg_ hN19 (k:=1) rfl
 obtain ⟨aX,cX,heX,hc9,hc9m,hatC⟩:=hC19.at
 obtain ⟨rfl,rfl⟩:a9 = aX∧c9 = cX:=by cases heX;exact ⟨rfl,rfl⟩
 obtain ⟨gl,ol,cs0,rfl,hgl,⟨ap,cp,ao,co,ax,cx,rfl,hp0,ho0,hx0⟩,hcell0⟩:=hatC 0 (by decide)
 obtain ⟨gl',ol',cs1,he1,_,⟨ap1,cp1,ao1,co1,ax1,cx1,rfl,_,_,_⟩,hcell1⟩:=hatC 1 (by decide)
 obtain ⟨rfl,rfl⟩:gl = gl'∧ol = ol':=by cases he1;exact ⟨rfl,rfl⟩
 have l0:w19.cell? ⟨gl,ol,none⟩ = some (.slice ap 2 cp):=hcell0 0 _ rfl
 have l4:w19.cell? ⟨gl,ol + 4,none⟩ = some (.slice ax 2 cx):=hcell0 4 _ rfl
 have l7:w19.cell? ⟨gl,ol + 5 + 2,none⟩ = some (.bool false):=hcell1 2 _ rfl
 obtain ⟨aY,cY,heY,hcq,hcqm,hatP⟩:=hPj.at
 obtain ⟨rfl,rfl⟩:aq = aY∧cq = cY:=by cases heY;exact ⟨rfl,rfl⟩
 obtain ⟨gq,oq,cs2,rfl,hgq,⟨ar,cr,rfl,hpq⟩,hcellq⟩:=hatP 0 (by decide)
 have p0:w19.cell? ⟨gq,oq,none⟩ = some (.slice ar 2 cr):=hcellq 0 _ rfl
 have hX19:qF_ (fun b=>b < w19.heap.size) w19 (.slice ax 2 cx) [5,8]:=hx0
 have hP19:Pth (fun b=>b < w19.heap.size) w19 (.slice ar 2 cr) [v5_,zs_]:=hpq.wide (fun b hb=>hb.2)
 have hJ19:FSl (fun b=>b < w19.heap.size) w19 (.slice aj 1 cj) yj_:=hFj.wide (fun b hb=>hb.2)
 have hgl':gl < w19.heap.size:=hgl
 have hgq':gq < w19.heap.size:=hgq.2
 have hn':w13.heap.size < w19.heap.size:=by omega
 have ALL:∀ W,Below w19.heap.size w19 W→(W.cell? ⟨w13.heap.size,1,none⟩ = some (.slice an 2 cn)∧W.cell? ⟨gl,ol,none⟩ = some (.slice ap 2 cp)∧W.cell? ⟨gl,ol + 4,none⟩ = some (.slice ax 2 cx)∧W.cell? ⟨gl,ol + 5 + 2,none⟩ = some (.bool false)∧W.cell? ⟨gq,oq,none⟩ = some (.slice ar 2 cr)) ∧
  qF_ (fun b=>b < w19.heap.size) W (.slice an 2 cn) [5,7]∧qF_ (fun b=>b < w19.heap.size) W (.slice ax 2 cx) [5,8]∧Pth (fun b=>b < w19.heap.size) W (.slice ar 2 cr) [v5_,zs_]∧FSl (fun b=>b < w19.heap.size) W (.slice aj 1 cj) yj_:=fun W hW=>
  ⟨⟨bc_ hW hn' n1,bc_ hW hgl' l0,bc_ hW hgl' l4,bc_ hW hgl' l7,bc_ hW hgq' p0⟩,hI19.agree (q9_ hW (fun b hb=>hb)),hX19.agree (q9_ hW (fun b hb=>hb)),hP19.agree (q9_ hW (fun b hb=>hb)),hJ19.agree (q9_ hW (fun b hb=>hb))⟩
 have HALL:=hid ALL
 unfold maxLen at hc9m hcqm
 clear ALL hJ19 hP19 hX19 p0 l0 l4 l7 n1 hcellq hcell0 hcell1 hatC hatP hpq hgq hgl he1 heX heY hp0 ho0 hx0 hC19 hI19 hN19 hl13 hl14 hl16 hl19 hb19 hFj hPj J18 HL18 HN16 HN14 HN13 HL16 HL14 HL13 HC10 HI13
 clear HB1 HB2 HB3 HB4 HB5 HB6 HB7 HB8 HB9 HB10 HB11 HB12 HB13 HB14 HB16 HB18
 go_wp2_with fail
 simp only [List.append_eq,List.cons_append,List.nil_append]
 refine (wpIn_wide (n:=9)).1 ?_
 refine q8_ (fun w'=>w'.cell? ⟨w13.heap.size,1,none⟩ = some (.slice an 2 cn)∧w'.cell? ⟨gl,ol,none⟩ = some (.slice ap 2 cp)∧w'.cell? ⟨gl,ol + 4,none⟩ = some (.slice ax 2 cx)∧w'.cell? ⟨gl,ol + 5 + 2,none⟩ = some (.bool false)∧w'.cell? ⟨gq,oq,none⟩ = some (.slice ar 2 cr)) (by kernel_rfl) ?_
 have hS0:=(HALL.out w19.drew (Below.refl _ _).drew).1
 refine tkZ 0 98 (.int .i64 0) rfl rfl hS0 ?_
 refine tkZ 1 99 (.bool true) rfl rfl hS0 ?_
 refine tkZ 2 100 (.bool true) rfl rfl hS0 ?_
 refine tkZ 3 101 (.int .i64 0) rfl rfl hS0 ?_
 refine tkZ 4 102 (.bool true) rfl rfl hS0 ?_
 refine tkZ 5 103 (.bool true) rfl rfl hS0 ?_
 refine tkZ 6 104 (.bool true) rfl rfl hS0 ?_
 refine tkZ 7 105 (.int .i64 0) rfl rfl hS0 ?_
 refine tkZ 8 106 (.bool true) rfl rfl hS0 ?_
 refine tkZ 9 107 (.bool true) rfl rfl hS0 ?_
 refine tkZ 10 108 (.bool true) rfl rfl hS0 ?_
 refine tkZ 11 109 (.int .i64 0) rfl rfl hS0 ?_
 refine tkZ 12 110 (.bool true) rfl rfl hS0 ?_
 refine tkZ 13 111 (.bool true) rfl rfl hS0 ?_
 refine tkZ 14 112 (.bool true) rfl rfl hS0 ?_
 refine tkZ 15 113 (.slice (some ⟨gl,ol,none⟩) 2 c9) rfl rfl hS0 ?_
 refine tkZ 16 114 (.int .i64 2) rfl rfl hS0 ?_
 refine tkZ 17 115 (.bool true) rfl rfl hS0 ?_
 refine tkZ 18 116 (.bool true) rfl rfl hS0 ?_
 refine tkZ 19 117 (.bool true) rfl rfl hS0 ?_
 refine tkZ 20 118 (.slice (some ⟨gl,ol,none⟩) 2 c9) rfl rfl hS0 ?_
 refine tkZ 21 119 (.pointer (some ⟨gl,ol,none⟩)) rfl rfl hS0 ?_
 refine tkZ 22 120 (.pointer (some ⟨gl,ol,none⟩)) rfl rfl hS0 ?_
 refine tkZ 23 121 (.slice ap 2 cp) rfl rfl hS0 ?_
 refine tkZ 24 122 (.int .i64 2) rfl rfl hS0 ?_
 refine tkZ 25 123 (.bool true) rfl rfl hS0 ?_
 refine tkZ 26 124 (.bool true) rfl rfl hS0 ?_
 refine tkZ 27 125 (.bool true) rfl rfl hS0 ?_
 refine tkZ 28 126 (.slice (some ⟨gl,ol,none⟩) 2 c9) rfl rfl hS0 ?_
 refine tkZ 29 127 (.pointer (some ⟨gl,ol,none⟩)) rfl rfl hS0 ?_
 refine tkZ 30 128 (.pointer (some ⟨gl,ol + 4,none⟩)) rfl rfl hS0 ?_
 refine tkZ 31 129 (.slice ax 2 cx) rfl rfl hS0 ?_
 refine qb_ (i:=32) (by kernel_rfl) rfl (by kernel_rfl) (fun K hK=>?_)
 go_simp
 have hbA:Below w19.heap.size w19 (w19.drew.alloc (.cells #[.int .i64 5, .int .i64 8] 3)):=(Below.refl _ _).drew.alloc (nl_ _) _
 have hA:=HALL.out _ hbA
 have hkA:=ha_ w19.drew (.cells #[.int .i64 5, .int .i64 8] 3)
 have iA:qF_ (fun b=>b < w19.heap.size + 1) (w19.drew.alloc (.cells #[.int .i64 5, .int .i64 8] 3)) (.slice (some ⟨w19.heap.size,0,none⟩) 2 2) [5,8]:=qy_ (k:=1) (n:=2) hkA (by simp) rfl (by simp [maxLen])
 have EA:=hid (zS_ [5,8] [5,8] ax (some ⟨w19.heap.size,0,none⟩) cx 2 (fun b=>b < w19.heap.size + 1) _ (hA.2.2.1.wide (fun b hb=>by omega)) iA (by decide) (by decide))
 rw [decide_eq_true rfl] at EA
 have HBA:=hid hbA
 refine hK _ _ ⟨hA.1,?_⟩
 clear hK hA hkA iA hbA
 refine qb_ (i:=33) (by kernel_rfl) rfl (by kernel_rfl) (fun K hK=>?_)
 go_simp
 refine ⟨trivial,(callsIn_wide.2 EA.out).mono ?_⟩
 rintro e w20 ⟨rfl,hb20⟩
 have hl20:=HBA.out.trans (hb20.mono (by simp))
 have hS20:=(HALL.out _ hl20).1
 have hz20:=hl20.size
 have HL20:=hid hl20
 refine hK _ _ ⟨hS20,?_⟩
 clear hK hb20 hl20 EA HBA
 refine tkZ 34 132 (.bool true) rfl rfl hS20 ?_
 refine tkZ 35 133 (.bool true) rfl rfl hS20 ?_
 refine tkZ 36 134 (.slice (some ⟨gl,ol,none⟩) 2 c9) rfl rfl hS20 ?_
 refine tkZ 37 135 (.pointer (some ⟨gl,ol + 5,none⟩)) rfl rfl hS20 ?_
 refine tkZ 38 136 (.pointer (some ⟨gl,ol + 5 + 2,none⟩)) rfl rfl hS20 ?_
 refine tkZ 39 137 (.bool false) rfl rfl hS20 ?_
 refine tkZ 40 138 (.bool true) rfl rfl hS20 ?_
 refine tkZ 41 139 (.bool true) rfl rfl hS20 ?_
 refine tkZ 42 140 (.bool true) rfl rfl hS20 ?_
 refine tkZ 43 141 (.pointer (some ⟨w13.heap.size,1,none⟩)) rfl rfl hS20 ?_
 refine tkZ 44 142 (.slice an 2 cn) rfl rfl hS20 ?_
 refine qb_ (i:=45) (by kernel_rfl) rfl (by kernel_rfl) (fun K hK=>?_)
 go_simp
 have hbA:Below w20.heap.size w20 (w20.alloc (.cells #[.int .i64 5, .int .i64 7] 3)):=(Below.refl _ _).alloc (nl_ _) _
 have hlA:=HL20.out.trans (hbA.mono hz20)
 have hA:=HALL.out _ hlA
 have hkA:=ha_ w20 (.cells #[.int .i64 5, .int .i64 7] 3)
 have iA:qF_ (fun b=>b < w20.heap.size + 1) (w20.alloc (.cells #[.int .i64 5, .int .i64 7] 3)) (.slice (some ⟨w20.heap.size,0,none⟩) 2 2) [5,7]:=qy_ (k:=1) (n:=2) hkA (by simp) rfl (by simp [maxLen])
 have EA:=hid (zS_ [5,7] [5,7] an (some ⟨w20.heap.size,0,none⟩) cn 2 (fun b=>b < w20.heap.size + 1) _ (hA.2.1.wide (fun b hb=>by omega)) iA (by decide) (by decide))
 rw [decide_eq_true rfl] at EA
 have HLA:=hid hlA
 refine hK _ _ ⟨hA.1,?_⟩
 clear hK hA hkA iA hbA hlA
 refine qb_ (i:=46) (by kernel_rfl) rfl (by kernel_rfl) (fun K hK=>?_)
 go_simp
 refine ⟨trivial,(callsIn_wide.2 EA.out).mono ?_⟩
 rintro e w21 ⟨rfl,hb21⟩
 have hl21:=HLA.out.trans (hb21.mono (by simp;omega))
 have hS21:=(HALL.out _ hl21).1
 have hz21:=hl21.size
 have HL21:=hid hl21
 refine hK _ _ ⟨hS21,?_⟩
 clear hK hb21 hl21 EA HLA
 refine tkZ 47 145 (.bool true) rfl rfl hS21 ?_
 refine tkZ 48 146 (.bool true) rfl rfl hS21 ?_
 refine tkZ 49 147 (.slice aj 1 cj) rfl rfl hS21 ?_
 refine qb_ (i:=50) (by kernel_rfl) rfl (by kernel_rfl) (fun K hK=>?_)
 go_simp
 refine ⟨trivial,(callsIn_wide.2 (zB_ 7 w21)).mono ?_⟩
 rintro e w22 ⟨g22,rfl,hF22,hb22⟩
 have hl22:=HL21.out.trans (hb22.mono hz21)
 have h22:=HALL.out _ hl22
 have hS22:=h22.1
 have hz22:=hl22.size
 have HL22:=hid hl22
 have hsuf:=FSl.suf (m:=1) hF22 (by decide)
 have E22:=hid ((vs_ 4).2 yj_ yj_ aj cj (some ⟨g22,0 + 1 * 3,none⟩) (2 - 1) (fun b=>b < w22.heap.size) w22 (by decide) (h22.2.2.2.2.wide (fun b hb=>by omega)) (hsuf.wide (fun b hb=>hb.2)) (fun b hb=>hb) (by decide) (by decide) (by simp [yj_,Fo.Sm,xD_,Fo.len]) (by simp [yj_,Fo.Sm,xD_,Fo.len]))
 rw [decide_eq_true rfl] at E22
 refine hK _ _ ⟨hS22,?_⟩
 clear hK hb22 hl22 hF22 hsuf h22
 refine tkZ 51 149 (.slice (some ⟨g22,3,none⟩) 1 1) rfl rfl hS22 ?_
 refine qb_ (i:=52) (by kernel_rfl) rfl (by kernel_rfl) (fun K hK=>?_)
 go_simp
 refine ⟨trivial,(callsIn_wide.2 E22.out).mono ?_⟩
 rintro e w23 ⟨rfl,hb23⟩
 have hl23:=HL22.out.trans (hb23.mono hz22)
 have h23:=HALL.out _ hl23
 have hS23:=h23.1
 have hz23:=hl23.size
 have HL23:=hid hl23
 have HP23:=hid h23.2.2.2.1
 refine hK _ _ ⟨hS23,?_⟩
 clear hK hb23 hl23 E22 h23
 refine tkZ 53 151 (.bool true) rfl rfl hS23 ?_
 refine tkZ 54 152 (.bool true) rfl rfl hS23 ?_
 refine tkZ 55 153 (.slice (some ⟨gq,oq,none⟩) 1 cq) rfl rfl hS23 ?_
 refine tkZ 56 154 (.int .i64 1) rfl rfl hS23 ?_
 refine tkZ 57 155 (.bool true) rfl rfl hS23 ?_
 refine tkZ 58 156 (.bool true) rfl rfl hS23 ?_
 refine tkZ 59 157 (.bool true) rfl rfl hS23 ?_
 refine tkZ 60 158 (.slice (some ⟨gq,oq,none⟩) 1 cq) rfl rfl hS23 ?_
 refine tkZ 61 159 (.pointer (some ⟨gq,oq,none⟩)) rfl rfl hS23 ?_
 refine tkZ 62 160 (.slice ar 2 cr) rfl rfl hS23 ?_
 have hSW:∀ W,Below w23.heap.size w23 W→(W.cell? ⟨w13.heap.size,1,none⟩ = some (.slice an 2 cn)∧W.cell? ⟨gl,ol,none⟩ = some (.slice ap 2 cp)∧W.cell? ⟨gl,ol + 4,none⟩ = some (.slice ax 2 cx)∧W.cell? ⟨gl,ol + 5 + 2,none⟩ = some (.bool false)∧W.cell? ⟨gq,oq,none⟩ = some (.slice ar 2 cr)):=fun W hW=>(HALL.out W (HL23.out.trans (hW.mono hz23))).1
 have HSW:=hid hSW
 clear hSW
 have hb0:Below w23.heap.size w23 w23:=Below.refl _ _
 refine yy_ (i:=63) (j:=65) (by kernel_rfl) rfl rfl (by kernel_rfl) (by kernel_rfl) (fun K hK=>?_) (fun K hK=>?_)
 · go_simp
   obtain ⟨w1,hw1⟩:∃ w1,w23.alloc (.cells #[.int .i64 3] 3) = w1:=⟨_,rfl⟩
   have hl1:Below w23.heap.size w23 w1:=by rw [← hw1];exact hb0.alloc (nl_ _) _
   have k1:w1.cell? ⟨w23.heap.size,0,none⟩ = some (.int .i64 3):=by rw [← hw1];exact cg_ (ha_ w23 _) (k:=0) rfl
   have z1:w1.heap.size = w23.heap.size + 1:=by rw [← hw1];simp
   have Z1:=hid z1
   have HL1:=hid hl1
   have K1:=hid k1
   rw [hw1]
   refine hK _ _ ⟨HSW.out _ hl1,?_⟩
   clear hK hw1 hl1 k1 z1
   refine yy_ (i:=64) (j:=65) (by kernel_rfl) rfl rfl (by kernel_rfl) (by kernel_rfl) (fun K hK=>?_) (fun K hK=>?_)
   · go_simp
     refine ⟨trivial,(callsIn_wide.2 (xs_ _ 3 w23.heap.size 1 w1 K1.out (by have:=Z1.out;omega) (nl_ _))).mono ?_⟩
     rintro e w24 ⟨rfl,hb24⟩
     have hl24:=HL1.out.trans (hb24.mono HL1.out.size)
     have HL24:=hid hl24
     refine hK _ _ ⟨HSW.out _ hl24,?_⟩
     clear hK hb24 hl24
     refine qb_ (i:=65) (by kernel_rfl) rfl (by kernel_rfl) (fun K hK=>?_)
     go_simp
     have hlx:=HL24.out.alloc HL24.out.size (.cells #[.int .i64 6] 3)
     have HLX:=hid hlx
     have KX:=hid (cg_ (ha_ w24 (.cells #[.int .i64 6] 3)) (k:=0) (v := .int .i64 6) rfl)
     refine hK _ _ ⟨HSW.out _ hlx,?_⟩
     clear hK hlx
     refine qb_ (i:=66) (by kernel_rfl) rfl (by kernel_rfl) (fun K hK=>?_)
     go_simp
     refine ⟨trivial,(callsIn_wide.2 (xs_ _ 6 w24.heap.size 1 _ KX.out (by simp) (nl_ _))).mono ?_⟩
     rintro e w25 ⟨rfl,hb25⟩
     have hl25:=HLX.out.trans (hb25.mono HLX.out.size)
     have HL25:=hid hl25
     refine hK _ _ ⟨HSW.out _ hl25,?_⟩
     clear hK hb25 hl25
     refine qb_ (i:=67) (by kernel_rfl) rfl (by kernel_rfl) (fun K hK=>?_)
     go_simp
     have hbK:Below w25.heap.size w25 (w25.alloc (.cells #[.string ⟨#[98,101,100]⟩, .bool true, .int .i64 3, .string ⟨#[114,97,107,101,100]⟩, .bool true, .int .i64 6] 96)):=(Below.refl _ _).alloc (nl_ _) _
     have hkK:=ha_ w25 (.cells #[.string ⟨#[98,101,100]⟩, .bool true, .int .i64 3, .string ⟨#[114,97,107,101,100]⟩, .bool true, .int .i64 6] 96)
     have hl26:=HL25.out.trans (hbK.mono HL25.out.size)
     have hz25:=HL25.out.size
     have pK:Pth (fun b=>b < w25.heap.size + 1) (w25.alloc (.cells #[.string ⟨#[98,101,100]⟩, .bool true, .int .i64 3, .string ⟨#[114,97,107,101,100]⟩, .bool true, .int .i64 6] 96)) (.slice (some ⟨w25.heap.size,0,none⟩) 2 2) [v5_,zs_]:=qy_ (k:=3) (n:=2) hkK (by simp) rfl (by simp [maxLen])
     have EK:=hid (kM_ [v5_,zs_] [v5_,zs_] ar (some ⟨w25.heap.size,0,none⟩) cr 2 (fun b=>b < w25.heap.size + 1) _ ((HP23.out.agree (q9_ hl26 (fun b hb=>by omega))).wide (fun b hb=>by omega)) pK (by decide) (by decide))
     rw [decide_eq_true rfl] at EK
     have HL26:=hid hl26
     refine hK _ _ ⟨HSW.out _ hl26,?_⟩
     clear hK hkK pK hbK hl26
     refine qb_ (i:=68) (by kernel_rfl) rfl (by kernel_rfl) (fun K hK=>?_)
     go_simp
     refine ⟨trivial,(callsIn_wide.2 EK.out).mono ?_⟩
     rintro e w27 ⟨rfl,hb27⟩
     have hl27:=HL26.out.trans (hb27.mono HL26.out.size)
     have hS27:=HSW.out _ hl27
     have HL27:=hid hl27
     refine hK _ _ ⟨hS27,?_⟩
     clear hK hb27 hl27 EK
     refine tkY 69 167 (.bool true) rfl rfl hS27 (fun w' hs=>?_) ?_
     · go_simp
     refine tkY 70 0 (.bool true) rfl rfl hS27 (fun w' hs=>?_) ?_
     · go_simp
     refine q7_ (by kernel_rfl) ?_
     go_simp
     clear hS27
     go_wp2_with fail
     go_ret
     have e1:=HB19.out.size
     exact ⟨rfl,HB19.out.trans ((HL23.out.trans (HL27.out.mono hz23)).mono e1)⟩
   · go_simp
     obtain ⟨w2,hw2⟩:∃ w2,w1.alloc (.cells #[.int .i64 6] 3) = w2:=⟨_,rfl⟩
     have hl2:Below w23.heap.size w23 w2:=by rw [← hw2];exact HL1.out.alloc HL1.out.size _
     have k2:w2.cell? ⟨w1.heap.size,0,none⟩ = some (.int .i64 6):=by rw [← hw2];exact cg_ (ha_ w1 _) (k:=0) rfl
     have z2:w2.heap.size = w1.heap.size + 1:=by rw [← hw2];simp
     have k3:w2.cell? ⟨w23.heap.size,0,none⟩ = some (.int .i64 3):=by rw [← hw2];exact bc_ ((Below.refl w1.heap.size _).alloc (nl_ _) _) (by have:=Z1.out;omega) K1.out
     have Z2:=hid z2
     have HL2:=hid hl2
     have K2:=hid k2
     have K3:=hid k3
     rw [hw2]
     refine hK _ _ ⟨HSW.out _ hl2,?_⟩
     clear hK hw2 hl2 k2 k3 z2
     refine qb_ (i:=64) (by kernel_rfl) rfl (by kernel_rfl) (fun K hK=>?_)
     go_simp
     refine ⟨trivial,(callsIn_wide.2 (xs_ _ 3 w23.heap.size 1 w2 K3.out (by have:=Z1.out;have:=Z2.out;omega) (nl_ _))).mono ?_⟩
     rintro e w24 ⟨rfl,hb24⟩
     have hl24:=HL2.out.trans (hb24.mono HL2.out.size)
     have HL24:=hid hl24
     have z24:w1.heap.size < w24.heap.size:=by have:=Z2.out;have:=hb24.size;omega
     have KX:=hid (bc_ hb24 (by have:=Z2.out;omega) K2.out)
     refine hK _ _ ⟨HSW.out _ hl24,?_⟩
     clear hK hb24 hl24
     refine qb_ (i:=66) (by kernel_rfl) rfl (by kernel_rfl) (fun K hK=>?_)
     go_simp
     refine ⟨trivial,(callsIn_wide.2 (xs_ _ 6 w1.heap.size 1 w24 KX.out z24 (nl_ _))).mono ?_⟩
     rintro e w25 ⟨rfl,hb25⟩
     have hl25:=HL24.out.trans (hb25.mono HL24.out.size)
     have HL25:=hid hl25
     refine hK _ _ ⟨HSW.out _ hl25,?_⟩
     clear hK hb25 hl25 z24
     refine qb_ (i:=67) (by kernel_rfl) rfl (by kernel_rfl) (fun K hK=>?_)
     go_simp
     have hbK:Below w25.heap.size w25 (w25.alloc (.cells #[.string ⟨#[98,101,100]⟩, .bool true, .int .i64 3, .string ⟨#[114,97,107,101,100]⟩, .bool true, .int .i64 6] 96)):=(Below.refl _ _).alloc (nl_ _) _
     have hkK:=ha_ w25 (.cells #[.string ⟨#[98,101,100]⟩, .bool true, .int .i64 3, .string ⟨#[114,97,107,101,100]⟩, .bool true, .int .i64 6] 96)
     have hl26:=HL25.out.trans (hbK.mono HL25.out.size)
     have hz25:=HL25.out.size
     have pK:Pth (fun b=>b < w25.heap.size + 1) (w25.alloc (.cells #[.string ⟨#[98,101,100]⟩, .bool true, .int .i64 3, .string ⟨#[114,97,107,101,100]⟩, .bool true, .int .i64 6] 96)) (.slice (some ⟨w25.heap.size,0,none⟩) 2 2) [v5_,zs_]:=qy_ (k:=3) (n:=2) hkK (by simp) rfl (by simp [maxLen])
     have EK:=hid (kM_ [v5_,zs_] [v5_,zs_] ar (some ⟨w25.heap.size,0,none⟩) cr 2 (fun b=>b < w25.heap.size + 1) _ ((HP23.out.agree (q9_ hl26 (fun b hb=>by omega))).wide (fun b hb=>by omega)) pK (by decide) (by decide))
     rw [decide_eq_true rfl] at EK
     have HL26:=hid hl26
     refine hK _ _ ⟨HSW.out _ hl26,?_⟩
     clear hK hkK pK hbK hl26
     refine qb_ (i:=68) (by kernel_rfl) rfl (by kernel_rfl) (fun K hK=>?_)
     go_simp
     refine ⟨trivial,(callsIn_wide.2 EK.out).mono ?_⟩
     rintro e w27 ⟨rfl,hb27⟩
     have hl27:=HL26.out.trans (hb27.mono HL26.out.size)
     have hS27:=HSW.out _ hl27
     have HL27:=hid hl27
     refine hK _ _ ⟨hS27,?_⟩
     clear hK hb27 hl27 EK
     refine tkY 69 167 (.bool true) rfl rfl hS27 (fun w' hs=>?_) ?_
     · go_simp
     refine tkY 70 0 (.bool true) rfl rfl hS27 (fun w' hs=>?_) ?_
     · go_simp
     refine q7_ (by kernel_rfl) ?_
     go_simp
     clear hS27
     go_wp2_with fail
     go_ret
     have e1:=HB19.out.size
     exact ⟨rfl,HB19.out.trans ((HL23.out.trans (HL27.out.mono hz23)).mono e1)⟩
 · go_simp
   obtain ⟨w1,hw1⟩:∃ w1,w23.alloc (.cells #[.int .i64 6] 3) = w1:=⟨_,rfl⟩
   have hl1:Below w23.heap.size w23 w1:=by rw [← hw1];exact hb0.alloc (nl_ _) _
   have k1:w1.cell? ⟨w23.heap.size,0,none⟩ = some (.int .i64 6):=by rw [← hw1];exact cg_ (ha_ w23 _) (k:=0) rfl
   have z1:w1.heap.size = w23.heap.size + 1:=by rw [← hw1];simp
   have Z1:=hid z1
   have HL1:=hid hl1
   have K1:=hid k1
   rw [hw1]
   refine hK _ _ ⟨HSW.out _ hl1,?_⟩
   clear hK hw1 hl1 k1 z1
   refine qb_ (i:=63) (by kernel_rfl) rfl (by kernel_rfl) (fun K hK=>?_)
   go_simp
   obtain ⟨w2,hw2⟩:∃ w2,w1.alloc (.cells #[.int .i64 3] 3) = w2:=⟨_,rfl⟩
   have hl2:Below w23.heap.size w23 w2:=by rw [← hw2];exact HL1.out.alloc HL1.out.size _
   have k2:w2.cell? ⟨w1.heap.size,0,none⟩ = some (.int .i64 3):=by rw [← hw2];exact cg_ (ha_ w1 _) (k:=0) rfl
   have z2:w2.heap.size = w1.heap.size + 1:=by rw [← hw2];simp
   have k3:w2.cell? ⟨w23.heap.size,0,none⟩ = some (.int .i64 6):=by rw [← hw2];exact bc_ ((Below.refl w1.heap.size _).alloc (nl_ _) _) (by have:=Z1.out;omega) K1.out
   have Z2:=hid z2
   have HL2:=hid hl2
   have K2:=hid k2
   have K3:=hid k3
   rw [hw2]
   refine hK _ _ ⟨HSW.out _ hl2,?_⟩
   clear hK hw2 hl2 k2 k3 z2
   refine qb_ (i:=64) (by kernel_rfl) rfl (by kernel_rfl) (fun K hK=>?_)
   go_simp
   refine ⟨trivial,(callsIn_wide.2 (xs_ _ 3 w1.heap.size 1 w2 K2.out (by have:=Z2.out;omega) (nl_ _))).mono ?_⟩
   rintro e w24 ⟨rfl,hb24⟩
   have hl24:=HL2.out.trans (hb24.mono HL2.out.size)
   have HL24:=hid hl24
   have z24:w23.heap.size < w24.heap.size:=by have:=Z1.out;have:=Z2.out;have:=hb24.size;omega
   have KX:=hid (bc_ hb24 (by have:=Z1.out;have:=Z2.out;omega) K3.out)
   refine hK _ _ ⟨HSW.out _ hl24,?_⟩
   clear hK hb24 hl24
   refine qb_ (i:=66) (by kernel_rfl) rfl (by kernel_rfl) (fun K hK=>?_)
   go_simp
   refine ⟨trivial,(callsIn_wide.2 (xs_ _ 6 w23.heap.size 1 w24 KX.out z24 (nl_ _))).mono ?_⟩
   rintro e w25 ⟨rfl,hb25⟩
   have hl25:=HL24.out.trans (hb25.mono HL24.out.size)
   have HL25:=hid hl25
   refine hK _ _ ⟨HSW.out _ hl25,?_⟩
   clear hK hb25 hl25 z24
   refine qb_ (i:=67) (by kernel_rfl) rfl (by kernel_rfl) (fun K hK=>?_)
   go_simp
   have hbK:Below w25.heap.size w25 (w25.alloc (.cells #[.string ⟨#[98,101,100]⟩, .bool true, .int .i64 3, .string ⟨#[114,97,107,101,100]⟩, .bool true, .int .i64 6] 96)):=(Below.refl _ _).alloc (nl_ _) _
   have hkK:=ha_ w25 (.cells #[.string ⟨#[98,101,100]⟩, .bool true, .int .i64 3, .string ⟨#[114,97,107,101,100]⟩, .bool true, .int .i64 6] 96)
   have hl26:=HL25.out.trans (hbK.mono HL25.out.size)
   have hz25:=HL25.out.size
   have pK:Pth (fun b=>b < w25.heap.size + 1) (w25.alloc (.cells #[.string ⟨#[98,101,100]⟩, .bool true, .int .i64 3, .string ⟨#[114,97,107,101,100]⟩, .bool true, .int .i64 6] 96)) (.slice (some ⟨w25.heap.size,0,none⟩) 2 2) [v5_,zs_]:=qy_ (k:=3) (n:=2) hkK (by simp) rfl (by simp [maxLen])
   have EK:=hid (kM_ [v5_,zs_] [v5_,zs_] ar (some ⟨w25.heap.size,0,none⟩) cr 2 (fun b=>b < w25.heap.size + 1) _ ((HP23.out.agree (q9_ hl26 (fun b hb=>by omega))).wide (fun b hb=>by omega)) pK (by decide) (by decide))
   rw [decide_eq_true rfl] at EK
   have HL26:=hid hl26
   refine hK _ _ ⟨HSW.out _ hl26,?_⟩
   clear hK hkK pK hbK hl26
   refine qb_ (i:=68) (by kernel_rfl) rfl (by kernel_rfl) (fun K hK=>?_)
   go_simp
   refine ⟨trivial,(callsIn_wide.2 EK.out).mono ?_⟩
   rintro e w27 ⟨rfl,hb27⟩
   have hl27:=HL26.out.trans (hb27.mono HL26.out.size)
   have hS27:=HSW.out _ hl27
   have HL27:=hid hl27
   refine hK _ _ ⟨hS27,?_⟩
   clear hK hb27 hl27 EK
   refine tkY 69 167 (.bool true) rfl rfl hS27 (fun w' hs=>?_) ?_
   · go_simp
   refine tkY 70 0 (.bool true) rfl rfl hS27 (fun w' hs=>?_) ?_
   · go_simp
   refine q7_ (by kernel_rfl) ?_
   go_simp
   clear hS27
   go_wp2_with fail
   go_ret
   have e1:=HB19.out.size
   exact ⟨rfl,HB19.out.trans ((HL23.out.trans (HL27.out.mono hz23)).mono e1)⟩
end Go.Proofs.LF
namespace Go.Proofs.LB
open Go.RowKit Go.Sort Go.Proofs.LF
set_option maxHeartbeats 4000000
set_option maxRecDepth 100000
attribute [local go_sem] q1_ q2_ q6_
def inI (n lo hi:Int):Bool:=decide (lo ≤ n) && decide (n ≤ hi)
end Go.Proofs.LB
namespace Go.Proofs.LB
open Go.RowKit Go.Proofs.LF
variable {P:Program}
def heldI (v:Value):Option (DataW Value × List MemPlace):=some (.held v,[])
end Go.Proofs.LB
namespace Go.Proofs.LB
open Go.RowKit Go.Sort Go.Proofs.LF
set_option maxHeartbeats 4000000
set_option maxRecDepth 100000
attribute [local go_sem] q1_ q2_ q6_
theorem zx_ {fn:Func} {p:Tmp} {ty:TypeId} (h:fn.results = #[.cell p ty]) (tmps:Array Value) (P:Program) (w:World):(results fn tmps).run P w = ((asAddr (tmps.getD p undef)).run P w).andThen fun a w₁=>(loadVar ty a).run P w₁:=by
 simp only [results,h]
 simp [Sem.run_bind,Result.andThen]
theorem set2 {W:World} {b:Nat} {t:TypeId} {x y x' y':Value} (h:W.heap[b]? = some (.cells #[x,y] t (0,0))):((W.setCell ⟨b,0,none⟩ x').setCell ⟨b,1,none⟩ y').heap[b]? = some (.cells #[x',y'] t (0,0)):=by
 simp [World.setCell,Array.getElem?_modify,h]
theorem q0_ {w w':World} {b:Nat} {o:Obj} (h:w.heap[b]? = some o) (hb:Below w.heap.size w w'):w'.heap[b]? = some o:=(hb.block b (ge_ h).1).trans h
theorem kp_ (n:Nat):allN (fun _=>true) n = true:=by simp [allN,anyN]
end Go.Proofs.LB
namespace Go.Proofs.LS
open Go.RowKit Go.Sort Go.Proofs.LF Go.Proofs.LB
set_option maxHeartbeats 4000000
set_option maxRecDepth 100000
attribute [local go_sem] q1_ q2_ q6_
theorem v2_ (n lo hi:Int) (w:World):Calls Tryz.prog 104 #[.int .i64 n, .int .i64 lo, .int .i64 hi] w fun e w'=>e = .returned (.bool (inI n lo hi))∧w' = w:=by
 by_cases h:lo ≤ n
 · have e:inI n lo hi = decide (n ≤ hi):=by simp [inI,h]
   go_enter Tryz.func104,Tryz.ntmps104
   go_wp2_with fail
   go_ret
   first
    | exact ⟨rfl,rfl⟩
    | (rw [e];exact ⟨rfl,rfl⟩)
 · have e:inI n lo hi = false:=by simp [inI,h]
   go_enter Tryz.func104,Tryz.ntmps104
   go_wp2_with fail
   go_ret
   first
    | exact ⟨rfl,rfl⟩
    | (rw [e];exact ⟨rfl,rfl⟩)
def stC (x:St):Array Value:=#[.int .i64 x.t, .int .i64 x.ll, .int .i64 x.lh, .int .i64 x.sl, .int .i64 x.sh, .int .i64 x.el, .int .i64 x.eh]
def spC (x:Sp):Array Value:=#[.int .i64 x.lo, .int .i64 x.hi]
def v3_:Rd St 7 where
 R _ _ x cs:=cs = (stC x).toList
 len:=by rintro S w x cs rfl;rfl
 one:=by rintro S w x cs rfl u hu;simp [stC] at hu;rcases hu with rfl | rfl | rfl | rfl | rfl | rfl | rfl <;> rfl
 agree:=by rintro S w w' x cs rfl _;rfl
 wide:=by rintro S w w' x cs rfl _;rfl
def vO_:Rd Sp 2 where
 R _ _ x cs:=cs = (spC x).toList
 len:=by rintro S w x cs rfl;rfl
 one:=by rintro S w x cs rfl u hu;simp [spC] at hu;rcases hu with rfl | rfl <;> rfl
 agree:=by rintro S w w' x cs rfl _;rfl
 wide:=by rintro S w w' x cs rfl _;rfl
theorem x8_ (as_ ac:Option Addr) (n m cs_ cc:Nat) (k:Int) (w:World) (hn:n ≤ 1000) (hm:m ≤ 1000):Calls Tryz.prog 60 #[.agg #[.slice as_ n cs_, .slice ac m cc], .int .i64 k] w fun e w'=>e = .returned (.bool (inI k 0 ((m:Int) - 1)))∧Below w.heap.size w w':=by
 have hb:Below w.heap.size w (w.alloc (.cells #[.slice as_ n cs_, .slice ac m cc] 60)):=(Below.refl _ _).alloc (nl_ _) _
 have hn:=ha_ w (.cells #[.slice as_ n cs_, .slice ac m cc] 60)
 have q0:=cg_ hn (k:=0) (v := .slice as_ n cs_) rfl
 have q1:=cg_ hn (k:=1) (v := .slice ac m cc) rfl
 have HB:=hid hb
 have I1:=hid (fun w=>v2_ k 0 ((m:Int) - 1) w)
 clear hb hn
 go_enter Tryz.func60,Tryz.ntmps60
 go_wp2_with fail
 refine (I1.out _).mono ?_
 rintro e w1 ⟨rfl,rfl⟩
 go_wp2_with fail
 go_ret
 exact ⟨rfl,HB.out⟩
theorem strip_any (as_ ac:Option Addr) (n m cs_ cc:Nat) (k:Int) (w:World) (hn:n ≤ 1000) (hm:m ≤ 1000):Calls Tryz.prog 112 #[.agg #[.slice as_ n cs_, .slice ac m cc], .int .i64 k] w fun e w'=>e = .returned (.bool (inI k 0 ((n:Int) - 1)))∧Below w.heap.size w w':=by
 have hb:Below w.heap.size w (w.alloc (.cells #[.slice as_ n cs_, .slice ac m cc] 60)):=(Below.refl _ _).alloc (nl_ _) _
 have hn:=ha_ w (.cells #[.slice as_ n cs_, .slice ac m cc] 60)
 have q0:=cg_ hn (k:=0) (v := .slice as_ n cs_) rfl
 have q1:=cg_ hn (k:=1) (v := .slice ac m cc) rfl
 have HB:=hid hb
 have I1:=hid (fun w=>v2_ k 0 ((n:Int) - 1) w)
 clear hb hn
 go_enter Tryz.func112,Tryz.ntmps112
 go_wp2_with fail
 refine (I1.out _).mono ?_
 rintro e w1 ⟨rfl,rfl⟩
 go_wp2_with fail
 go_ret
 exact ⟨rfl,HB.out⟩
def jq_ (x:Sp):Bool:=inI x.lo 0 30 && inI x.hi 0 30
theorem vz_ (x:Sp) (w:World):Calls Tryz.prog 61 #[.agg (spC x)] w fun e w'=>e = .returned (.bool (jq_ x))∧Below w.heap.size w w':=by
 have hb:Below w.heap.size w (w.alloc (.cells (spC x) 35)):=(Below.refl _ _).alloc (nl_ _) _
 have hn:=ha_ w (.cells (spC x) 35)
 unfold spC at *
 have q0:=cg_ hn (k:=0) (v := .int .i64 x.lo) rfl
 have q1:=cg_ hn (k:=1) (v := .int .i64 x.hi) rfl
 have HB:=hid hb
 have I1:=hid (fun w=>v2_ x.lo 0 30 w)
 have I2:=hid (fun w=>v2_ x.hi 0 30 w)
 clear hb hn
 obtain ⟨b,hb⟩:∃ b,inI x.lo 0 30 = b:=⟨_,rfl⟩
 have HW:=hid (show jq_ x = (b && inI x.hi 0 30) by rw [jq_,hb])
 rw [hb] at I1
 clear hb
 cases b with
 | true=>
   go_enter Tryz.func61,Tryz.ntmps61
   go_wp2_with fail
   refine (I1.out _).mono ?_
   rintro e w1 ⟨rfl,rfl⟩
   go_wp2_with fail
   refine (I2.out _).mono ?_
   rintro e w1 ⟨rfl,rfl⟩
   go_wp2_with fail
   go_ret
   rw [HW.out]
   exact ⟨rfl,HB.out⟩
 | false=>
   go_enter Tryz.func61,Tryz.ntmps61
   go_wp2_with fail
   refine (I1.out _).mono ?_
   rintro e w1 ⟨rfl,rfl⟩
   go_wp2_with fail
   go_ret
   rw [HW.out]
   exact ⟨rfl,HB.out⟩
theorem ordS_any (x:Sp) (w:World):Calls Tryz.prog 109 #[.agg (spC x)] w fun e w'=>e = .returned (.bool (decide (x.lo ≤ x.hi)))∧Below w.heap.size w w':=by
 have hb:Below w.heap.size w (w.alloc (.cells (spC x) 35)):=(Below.refl _ _).alloc (nl_ _) _
 have hn:=ha_ w (.cells (spC x) 35)
 unfold spC at *
 have q0:=cg_ hn (k:=0) (v := .int .i64 x.lo) rfl
 have q1:=cg_ hn (k:=1) (v := .int .i64 x.hi) rfl
 have HB:=hid hb
 clear hb hn
 go_enter Tryz.func109,Tryz.ntmps109
 go_wp2_with fail
 go_ret
 exact ⟨rfl,HB.out⟩
theorem ret35 {f:Func} {r:Nat} (hr:f.results = #[.cell r 35]) {tmps:Array Value} {W:World} {b:Nat} {x y:Value} (h:W.heap[b]? = some (.cells #[x,y] 35 (0,0))) (h2:tmps.getD r undef = .pointer (some ⟨b,0,none⟩)) :
 (results f tmps).run Tryz.prog W = .ok (.agg #[x,y]) W:=by
 have h0:=cg_ h (k:=0) rfl
 have h1:=cg_ h (k:=1) rfl
 rw [zx_ hr,h2]
 simp [go_sem,h0,h1]
structure SmSt (x:St):Prop where
 t:0 ≤ x.t∧x.t ≤ 1000
 ll:0 ≤ x.ll∧x.ll ≤ 1000
 lh:0 ≤ x.lh∧x.lh ≤ 1000
 sl:0 ≤ x.sl∧x.sl ≤ 1000
 sh:0 ≤ x.sh∧x.sh ≤ 1000
 el:0 ≤ x.el∧x.el ≤ 1000
 eh:0 ≤ x.eh∧x.eh ≤ 1000
theorem y5_ (x:St) (w:World) (hx:SmSt x):Calls Tryz.prog 111 #[.agg (stC x)] w fun e w'=>e = .returned (.agg (spC (qU_ x)))∧Below w.heap.size w w':=by
 obtain ⟨w1,hw1⟩:∃ w1,w.alloc (.cells (stC x) 72) = w1:=⟨_,rfl⟩
 have hb1:Below w.heap.size w w1:=by rw [← hw1];exact (Below.refl _ _).alloc (nl_ _) _
 have hn:w1.heap[w.heap.size]? = some (.cells (stC x) 72 (0,0)):=by rw [← hw1];exact ha_ _ _
 obtain ⟨w2,hw2⟩:∃ w2,w1.alloc (.cells #[.int .i64 0, .int .i64 0] 35) = w2:=⟨_,rfl⟩
 have hz1:=hb1.size
 have hlt:w.heap.size < w1.heap.size:=(ge_ hn).1
 have hb2:Below w.heap.size w w2:=by rw [← hw2];exact hb1.alloc hz1 _
 have hn2:w2.heap[w.heap.size]? = some (.cells (stC x) 72 (0,0)):=by rw [← hw2];exact (heap_alloc_old _ _ hlt).trans hn
 have hr2:w2.heap[w1.heap.size]? = some (.cells #[.int .i64 0, .int .i64 0] 35 (0,0)):=by rw [← hw2];exact ha_ _ _
 obtain ⟨h1,h2,h3,h4,h5,h6,h7⟩:=hx
 unfold stC at *
 have q1:=cg_ hn2 (k:=1) rfl
 have q2:=cg_ hn2 (k:=2) rfl
 have q3:=cg_ hn2 (k:=3) rfl
 have q4:=cg_ hn2 (k:=4) rfl
 have q5:=cg_ hn2 (k:=5) rfl
 have q6:=cg_ hn2 (k:=6) rfl
 have p0:=cg_ hr2 (k:=0) rfl
 have p1:=cg_ hr2 (k:=1) rfl
 have f0:=cells_frz hr2 (k:=0)
 have f1:=cells_frz hr2 (k:=1)
 have v1:IntKind.i64.wrap (x.ll + x.sl) = x.ll + x.sl:=IntWalk.i64_in _ (by omega)
 have v2:IntKind.i64.wrap (x.ll + x.sl - x.eh) = x.ll + x.sl - x.eh:=IntWalk.i64_in _ (by omega)
 have v3:IntKind.i64.wrap (x.lh + x.sh) = x.lh + x.sh:=IntWalk.i64_in _ (by omega)
 have v4:IntKind.i64.wrap (x.lh + x.sh - x.el) = x.lh + x.sh - x.el:=IntWalk.i64_in _ (by omega)
 have HR2:=hid hr2
 have HB2:=hid hb2
 have HZ:=hid hz1
 clear hn hn2 hr2 hb1 hb2 hz1 hlt
 go_enter Tryz.func111,Tryz.ntmps111
 go_wp2_with fail
 refine bodyPost_ret (v := .agg (spC (qU_ x))) (ret35 rfl (set2 HR2.out) rfl) rfl ?_
 exact ⟨rfl,Below.setCell (Below.setCell HB2.out (p:=⟨w1.heap.size,0,none⟩) HZ.out _) (p:=⟨w1.heap.size,1,none⟩) HZ.out _⟩
theorem yh_ (W:World) (x y:Int):(Instr.field 35 (.agg #[.int .i64 x, .int .i64 y]) 0).run Tryz.prog W = .ok (.int .i64 x) W:=by kernel_rfl
theorem y9_ (W:World) (x y:Int):(Instr.field 35 (.agg #[.int .i64 x, .int .i64 y]) 1).run Tryz.prog W = .ok (.int .i64 y) W:=by kernel_rfl
attribute [local go_sem] yh_ y9_
theorem wr_ (x:St) (w:World) (hx:SmSt x):Calls Tryz.prog 110 #[.agg (stC x)] w fun e w'=>e = .returned (.bool (decide (0 ≤ (qU_ x).hi)))∧Below w.heap.size w w':=by
 obtain ⟨w1,hw1⟩:∃ w1,w.alloc (.cells (stC x) 72) = w1:=⟨_,rfl⟩
 have hb:Below w.heap.size w w1:=by rw [← hw1];exact (Below.refl _ _).alloc (nl_ _) _
 have hn:w1.heap[w.heap.size]? = some (.cells (stC x) 72 (0,0)):=by rw [← hw1];exact ha_ _ _
 have HG:=hid (y5_ x w1 hx)
 unfold stC spC at *
 have q0:=cg_ hn (k:=0) rfl
 have q1:=cg_ hn (k:=1) rfl
 have q2:=cg_ hn (k:=2) rfl
 have q3:=cg_ hn (k:=3) rfl
 have q4:=cg_ hn (k:=4) rfl
 have q5:=cg_ hn (k:=5) rfl
 have q6:=cg_ hn (k:=6) rfl
 have HB:=hid hb
 clear hb hn hx
 go_enter Tryz.func110,Tryz.ntmps110
 go_wp2_with fail
 refine HG.out.mono ?_
 rintro e w2 ⟨rfl,hb⟩
 go_wp2_with fail
 go_ret
 exact ⟨rfl,HB.out.trans (hb.mono HB.out.size)⟩
end Go.Proofs.LS
namespace Go.Proofs.LB
open Go.RowKit Go.Sort Go.Proofs.LF
set_option maxHeartbeats 4000000
set_option maxRecDepth 100000
attribute [local go_sem] q1_ q2_ q6_
theorem exec_mput {P:Program} {o:Oper} {a:Act} {w w':World} {m x v:Operand} {t:TypeId} {v1 v2 v3:Value} (ho:o.op = .mapUpdate t m x v) (hm:a.eval m = v1) (hx:a.eval x = v2) (hv:a.eval v = v3) (hr:(Instr.mapUpdate t v1 v2 v3).run P w = .ok () w'):(execOp a.eval o).run P w = .ok .skip w':=by
 unfold execOp
 simp [ho,hm,hx,hv,hr,Result.andThen]
theorem wpIn_skip {F:Fence} {n:Nat} {P:Program} {Q:Exit→Act→World→Prop} {o:Oper} {a:Act} {w w':World} {K:Act→World→Prop} (hF:∀ f,F.fn f) (hnd:qk_ o = true) (h:(execOp a.eval o).run P w = .ok .skip w') (hk:K (a.put o.dst undef) w'):Oper.wpIn F n P o a w K Q:=by
 simp only [Oper.wpIn,zP_ hnd,h,Oper.uponIn]
 exact ⟨fun f _=>hF f,hk⟩
end Go.Proofs.LB
namespace Go.Proofs.LS
open Go.RowKit Go.Sort Go.Proofs.LF Go.Proofs.LB
set_option maxHeartbeats 4000000
set_option maxRecDepth 100000
attribute [local go_sem] q1_ q2_ q6_
theorem idx_sp (g:Nat) (hE:LF.z5_ g) (p:Nat→Bool) (caps:List Value) (n:Nat) (a:Option Addr) (c:Nat) (cs:List Value) (S:Nat→Prop) (w:World) (hl:SlC S w 2 (.slice a n c) n cs) (hS:∀ b,S b→b < w.heap.size) (hlen:n ≤ 100000)
 (hp:∀ i,i < n→ka_ g caps w [qJ_ 2 cs i] (p i)) :
 Calls Tryz.prog 200 #[.slice a n c, .func (.func g) #[] caps.toArray] w fun e w'=>e = .returned (.int .i64 (idxN p n))∧Below w.heap.size w w':=by
 have hE':∀ (args:Array Value) (W:World),Sem.run Tryz.prog (callFunc g args) W = .ok (.enter g args) W:=hE
 clear hE
 go_enter Tryz.func200,Tryz.ntmps200
 go_wp2_with fail
 go_loopw [8] (fun i wr=>∃ k:Nat,k ≤ n∧i = .int .i64 k∧Hid (∀ j,j < k→p j = false)∧Below w.heap.size w wr) (fun i _=>n - (intOf i).toNat)
 case atStart=>exact ⟨0,by omega,rfl,by intro j hj;omega,Below.refl _ _⟩
 case round=>
  obtain ⟨k,hk,rfl,H2,hB⟩:=hrel
  have HP:=hid hp
  clear hp
  by_cases hlt:k < n
  · obtain ⟨g',o,rfl,hg,_,_,hcell⟩:=SlC.cells hl (by omega)
    have hx0:=(q9_ (S:=S) hB hS).cell hg (hcell (k * 2) _ (qn_ (by have:=hl.1;omega)))
    have hx1:=(q9_ (S:=S) hB hS).cell hg (hcell (k * 2 + 1) _ (qn_ (by have:=hl.1;omega)))
    simp only [← Nat.add_assoc] at hx1
    clear hcell
    go_wp2_with fail
    refine (HP.out k hlt _ hB).mono ?_
    rintro e w' ⟨rfl,hb'⟩
    cases hpx:p k with
    | true=>
      have HX:=hid hpx
      clear hpx
      go_wp2_with fail
      go_ret
      exact ⟨qe_ (z8_ H2.out hlt HX.out).symm,hB.trans (hb'.mono hB.size)⟩
    | false=>
      have HX:=hid hpx
      clear hpx
      go_wp2_with fail
      go_roundw
      case rel=>exact ⟨k + 1,by omega,by go_num,fun j hj=>by rcases Nat.lt_succ_iff_lt_or_eq.1 hj with h | h;exact H2.out j h;rw [h];exact HX.out,hB.trans (hb'.mono hB.size)⟩
      case measure=>simp [intOf];omega
  · go_wp2_with fail
    go_ret
    obtain rfl:k = n:=by omega
    exact ⟨qe_ (zu_ H2.out).symm,hB⟩
theorem contf_sp (g:Nat) (hE:LF.z5_ g) (p:Nat→Bool) (caps:List Value) (n:Nat) (a:Option Addr) (c:Nat) (cs:List Value) (S:Nat→Prop) (w:World) (hl:SlC S w 2 (.slice a n c) n cs) (hS:∀ b,S b→b < w.heap.size) (hlen:n ≤ 100000)
 (hp:∀ i,i < n→ka_ g caps w [qJ_ 2 cs i] (p i)) :
 Calls Tryz.prog 152 #[.slice a n c, .func (.func g) #[] caps.toArray] w fun e w'=>e = .returned (.bool (anyN p n))∧Below w.heap.size w w':=by
 have HP:=hid hp
 clear hp
 go_enter Tryz.func152,Tryz.ntmps152
 go_wp2_with fail
 refine (idx_sp g hE p caps n a c cs S w hl hS hlen HP.out).mono ?_
 rintro e w' ⟨rfl,hb⟩
 go_wp2_with fail
 go_ret
 exact ⟨qf_ (kn_ p n),hb⟩
theorem idx_st (g:Nat) (hE:LF.z5_ g) (p:Nat→Bool) (caps:List Value) (n:Nat) (a:Option Addr) (c:Nat) (cs:List Value) (S:Nat→Prop) (w:World) (hl:SlC S w 7 (.slice a n c) n cs) (hS:∀ b,S b→b < w.heap.size) (hlen:n ≤ 100000)
 (hp:∀ i,i < n→ka_ g caps w [qJ_ 7 cs i] (p i)) :
 Calls Tryz.prog 201 #[.slice a n c, .func (.func g) #[] caps.toArray] w fun e w'=>e = .returned (.int .i64 (idxN p n))∧Below w.heap.size w w':=by
 have hE':∀ (args:Array Value) (W:World),Sem.run Tryz.prog (callFunc g args) W = .ok (.enter g args) W:=hE
 clear hE
 go_enter Tryz.func201,Tryz.ntmps201
 go_wp2_with fail
 go_loopw [8] (fun i wr=>∃ k:Nat,k ≤ n∧i = .int .i64 k∧Hid (∀ j,j < k→p j = false)∧Below w.heap.size w wr) (fun i _=>n - (intOf i).toNat)
 case atStart=>exact ⟨0,by omega,rfl,by intro j hj;omega,Below.refl _ _⟩
 case round=>
  obtain ⟨k,hk,rfl,H2,hB⟩:=hrel
  have HP:=hid hp
  clear hp
  by_cases hlt:k < n
  · obtain ⟨g',o,rfl,hg,_,_,hcell⟩:=SlC.cells hl (by omega)
    have hx0:=(q9_ (S:=S) hB hS).cell hg (hcell (k * 7) _ (qn_ (by have:=hl.1;omega)))
    have hx1:=(q9_ (S:=S) hB hS).cell hg (hcell (k * 7 + 1) _ (qn_ (by have:=hl.1;omega)))
    have hx2:=(q9_ (S:=S) hB hS).cell hg (hcell (k * 7 + 2) _ (qn_ (by have:=hl.1;omega)))
    have hx3:=(q9_ (S:=S) hB hS).cell hg (hcell (k * 7 + 3) _ (qn_ (by have:=hl.1;omega)))
    have hx4:=(q9_ (S:=S) hB hS).cell hg (hcell (k * 7 + 4) _ (qn_ (by have:=hl.1;omega)))
    have hx5:=(q9_ (S:=S) hB hS).cell hg (hcell (k * 7 + 5) _ (qn_ (by have:=hl.1;omega)))
    have hx6:=(q9_ (S:=S) hB hS).cell hg (hcell (k * 7 + 6) _ (qn_ (by have:=hl.1;omega)))
    simp only [← Nat.add_assoc] at hx1 hx2 hx3 hx4 hx5 hx6
    clear hcell
    go_wp2_with fail
    refine (HP.out k hlt _ hB).mono ?_
    rintro e w' ⟨rfl,hb'⟩
    cases hpx:p k with
    | true=>
      have HX:=hid hpx
      clear hpx
      go_wp2_with fail
      go_ret
      exact ⟨qe_ (z8_ H2.out hlt HX.out).symm,hB.trans (hb'.mono hB.size)⟩
    | false=>
      have HX:=hid hpx
      clear hpx
      go_wp2_with fail
      go_roundw
      case rel=>exact ⟨k + 1,by omega,by go_num,fun j hj=>by rcases Nat.lt_succ_iff_lt_or_eq.1 hj with h | h;exact H2.out j h;rw [h];exact HX.out,hB.trans (hb'.mono hB.size)⟩
      case measure=>simp [intOf];omega
  · go_wp2_with fail
    go_ret
    obtain rfl:k = n:=by omega
    exact ⟨qe_ (zu_ H2.out).symm,hB⟩
theorem contf_st (g:Nat) (hE:LF.z5_ g) (p:Nat→Bool) (caps:List Value) (n:Nat) (a:Option Addr) (c:Nat) (cs:List Value) (S:Nat→Prop) (w:World) (hl:SlC S w 7 (.slice a n c) n cs) (hS:∀ b,S b→b < w.heap.size) (hlen:n ≤ 100000)
 (hp:∀ i,i < n→ka_ g caps w [qJ_ 7 cs i] (p i)) :
 Calls Tryz.prog 155 #[.slice a n c, .func (.func g) #[] caps.toArray] w fun e w'=>e = .returned (.bool (anyN p n))∧Below w.heap.size w w':=by
 have HP:=hid hp
 clear hp
 go_enter Tryz.func155,Tryz.ntmps155
 go_wp2_with fail
 refine (idx_st g hE p caps n a c cs S w hl hS hlen HP.out).mono ?_
 rintro e w' ⟨rfl,hb⟩
 go_wp2_with fail
 go_ret
 exact ⟨qf_ (kn_ p n),hb⟩
theorem every1_sp (g:Nat) (hE:LF.z5_ g) (caps:List Value) (x0 x1:Value) (b:Bool) (bx:Nat) (W:World) (hbx:W.cell? ⟨bx,0,none⟩ = some (.func (.func g) #[] caps.toArray)) (hbl:bx < W.heap.size)
 (h:∀ W',Below W.heap.size W W'→Calls Tryz.prog g (.agg #[x0,x1] :: caps).toArray W' fun e w'=>e = .returned (.bool b)∧Below W'.heap.size W' w') :
 Calls Tryz.prog 153 #[.agg #[x0,x1], .pointer (some ⟨bx,0,none⟩)] W fun e w'=>e = .returned (.bool (!b))∧Below W.heap.size W w':=by
 have hE':∀ (args:Array Value) (W:World),Sem.run Tryz.prog (callFunc g args) W = .ok (.enter g args) W:=hE
 clear hE
 obtain ⟨W1,hW1⟩:∃ W1,W.alloc (.cells #[x0,x1] 35) = W1:=⟨_,rfl⟩
 have hb1:Below W.heap.size W W1:=by rw [← hW1];exact (Below.refl _ _).alloc (nl_ _) _
 have hn1:W1.heap[W.heap.size]? = some (.cells #[x0,x1] 35 (0,0)):=by rw [← hW1];exact ha_ _ _
 have hz1:=hb1.size
 have hb2:=bc_ hb1 hbl hbx
 have r0:=cg_ hn1 (k:=0) rfl
 have r1:=cg_ hn1 (k:=1) rfl
 have HB:=hid hb1
 clear hn1 hb1
 have H:=hid (h W1 HB.out)
 clear h
 go_enter Tryz.func153,Tryz.ntmps153
 go_wp2_with fail
 refine H.out.mono ?_
 rintro e w' ⟨rfl,hb⟩
 go_wp2_with fail
 go_ret
 exact ⟨rfl,HB.out.trans (hb.mono hz1)⟩
theorem enters153:LF.z5_ 153:=by
 intro args W
 simp [go_sem]
theorem yE_ (g:Nat) (hE:LF.z5_ g) (p:Nat→Bool) (caps:List Value) (n:Nat) (a:Option Addr) (c:Nat) (cs:List Value) (S:Nat→Prop) (w:World) (hl:SlC S w 2 (.slice a n c) n cs) (hS:∀ b,S b→b < w.heap.size) (hlen:n ≤ 100000)
 (hp:∀ i,i < n→ka_ g caps w [qJ_ 2 cs i] (p i)) :
 Calls Tryz.prog 105 #[.slice a n c, .func (.func g) #[] caps.toArray] w fun e w'=>e = .returned (.bool (allN p n))∧Below w.heap.size w w':=by
 have HP:=hid hp
 clear hp
 have hb0:Below w.heap.size w (w.alloc (.cells #[.func (.func g) #[] caps.toArray] 152)):=(Below.refl _ _).alloc (nl_ _) _
 have hc0:=cg_ (ha_ w (.cells #[.func (.func g) #[] caps.toArray] 152)) (k:=0) rfl
 have CT:=hid (contf_sp 153 enters153 (fun i=>!p i) [.pointer (some ⟨w.heap.size,0,none⟩)] n a c cs S _ (SlC.agree hl (q9_ (B:=w.heap.size) hb0 hS)) (fun b hb=>by have:=hS b hb;simp;omega) hlen (fun i hi W hW=>by
  have hW2:=hb0.trans (hW.mono (by simp))
  have:=every1_sp g hE caps _ _ (p i) w.heap.size W (bc_ hW (by simp) hc0) (by have:=hW.size;simp at this;omega) (fun W' hW'=>HP.out i hi W' (hW2.trans (hW'.mono (by have:=hW2.size;omega))))
  exact this))
 have HB:=hid hb0
 clear hb0 hc0
 go_enter Tryz.func105,Tryz.ntmps105
 go_wp2_with fail
 refine CT.out.mono ?_
 rintro e w' ⟨rfl,hb⟩
 go_wp2_with fail
 go_ret
 exact ⟨rfl,HB.out.trans (hb.mono (by simp))⟩
theorem every1_st (g:Nat) (hE:LF.z5_ g) (caps:List Value) (x0 x1 x2 x3 x4 x5 x6:Value) (b:Bool) (bx:Nat) (W:World) (hbx:W.cell? ⟨bx,0,none⟩ = some (.func (.func g) #[] caps.toArray)) (hbl:bx < W.heap.size)
 (h:∀ W',Below W.heap.size W W'→Calls Tryz.prog g (.agg #[x0,x1,x2,x3,x4,x5,x6] :: caps).toArray W' fun e w'=>e = .returned (.bool b)∧Below W'.heap.size W' w') :
 Calls Tryz.prog 156 #[.agg #[x0,x1,x2,x3,x4,x5,x6], .pointer (some ⟨bx,0,none⟩)] W fun e w'=>e = .returned (.bool (!b))∧Below W.heap.size W w':=by
 have hE':∀ (args:Array Value) (W:World),Sem.run Tryz.prog (callFunc g args) W = .ok (.enter g args) W:=hE
 clear hE
 obtain ⟨W1,hW1⟩:∃ W1,W.alloc (.cells #[x0,x1,x2,x3,x4,x5,x6] 72) = W1:=⟨_,rfl⟩
 have hb1:Below W.heap.size W W1:=by rw [← hW1];exact (Below.refl _ _).alloc (nl_ _) _
 have hn1:W1.heap[W.heap.size]? = some (.cells #[x0,x1,x2,x3,x4,x5,x6] 72 (0,0)):=by rw [← hW1];exact ha_ _ _
 have hz1:=hb1.size
 have hb2:=bc_ hb1 hbl hbx
 have r0:=cg_ hn1 (k:=0) rfl
 have r1:=cg_ hn1 (k:=1) rfl
 have r2:=cg_ hn1 (k:=2) rfl
 have r3:=cg_ hn1 (k:=3) rfl
 have r4:=cg_ hn1 (k:=4) rfl
 have r5:=cg_ hn1 (k:=5) rfl
 have r6:=cg_ hn1 (k:=6) rfl
 have HB:=hid hb1
 clear hn1 hb1
 have H:=hid (h W1 HB.out)
 clear h
 go_enter Tryz.func156,Tryz.ntmps156
 go_wp2_with fail
 refine H.out.mono ?_
 rintro e w' ⟨rfl,hb⟩
 go_wp2_with fail
 go_ret
 exact ⟨rfl,HB.out.trans (hb.mono hz1)⟩
theorem vx_:LF.z5_ 156:=by
 intro args W
 simp [go_sem]
theorem yz_ (g:Nat) (hE:LF.z5_ g) (p:Nat→Bool) (caps:List Value) (n:Nat) (a:Option Addr) (c:Nat) (cs:List Value) (S:Nat→Prop) (w:World) (hl:SlC S w 7 (.slice a n c) n cs) (hS:∀ b,S b→b < w.heap.size) (hlen:n ≤ 100000)
 (hp:∀ i,i < n→ka_ g caps w [qJ_ 7 cs i] (p i)) :
 Calls Tryz.prog 107 #[.slice a n c, .func (.func g) #[] caps.toArray] w fun e w'=>e = .returned (.bool (allN p n))∧Below w.heap.size w w':=by
 have HP:=hid hp
 clear hp
 have hb0:Below w.heap.size w (w.alloc (.cells #[.func (.func g) #[] caps.toArray] 217)):=(Below.refl _ _).alloc (nl_ _) _
 have hc0:=cg_ (ha_ w (.cells #[.func (.func g) #[] caps.toArray] 217)) (k:=0) rfl
 have CT:=hid (contf_st 156 vx_ (fun i=>!p i) [.pointer (some ⟨w.heap.size,0,none⟩)] n a c cs S _ (SlC.agree hl (q9_ (B:=w.heap.size) hb0 hS)) (fun b hb=>by have:=hS b hb;simp;omega) hlen (fun i hi W hW=>by
  have hW2:=hb0.trans (hW.mono (by simp))
  have:=every1_st g hE caps _ _ _ _ _ _ _ (p i) w.heap.size W (bc_ hW (by simp) hc0) (by have:=hW.size;simp at this;omega) (fun W' hW'=>HP.out i hi W' (hW2.trans (hW'.mono (by have:=hW2.size;omega))))
  exact this))
 have HB:=hid hb0
 clear hb0 hc0
 go_enter Tryz.func107,Tryz.ntmps107
 go_wp2_with fail
 refine CT.out.mono ?_
 rintro e w' ⟨rfl,hb⟩
 go_wp2_with fail
 go_ret
 exact ⟨rfl,HB.out.trans (hb.mono (by simp))⟩
end Go.Proofs.LS
namespace Go.Proofs.LB
open Go.RowKit Go.Sort Go.Proofs.LF
set_option maxHeartbeats 4000000
set_option maxRecDepth 100000
attribute [local go_sem] q1_ q2_ q6_
end Go.Proofs.LB
namespace Go.Proofs.LS
open Go.RowKit Go.Sort Go.Proofs.LF Go.Proofs.LB
set_option maxHeartbeats 4000000
set_option maxRecDepth 100000
attribute [local go_sem] q1_ q2_ q6_
theorem jg_ {S:Nat→Prop} {w:World}:∀ {ms:List Sp} {cs:List Value},LCs vO_ S w ms cs→∀ (i:Nat) (hi:i < ms.length),qJ_ 2 cs i = .agg (spC ms[i])
 | [],_,_,_,hi=>by simp at hi
 | x :: ms,cs,⟨c,ds,h1,h2,h3⟩,0,_=>by
   have h2:c = (spC x).toList:=h2
   rw [h1,h2];rfl
 | x :: ms,cs,⟨c,ds,h1,h2,h3⟩,i + 1,hi=>by
   have h2:c = (spC x).toList:=h2
   have ih:=jg_ h3 i (by simpa using hi)
   rw [List.getElem_cons_succ,← ih,h1,h2]
   simp only [qJ_,spC]
   have e:∀ j,(#[Value.int .i64 x.lo, .int .i64 x.hi].toList ++ ds).getD ((i + 1) * 2 + j) undef = ds.getD (i * 2 + j) undef:=fun j=>by
    rw [show (i + 1) * 2 + j = (i * 2 + j) + 2 by omega];rfl
   simp only [e]
   simp
theorem yg_ (S:Nat→Prop) (w:World):∀ (xs:List Sp),LCs vO_ S w xs (xs.flatMap fun x=>(spC x).toList)
 | []=>rfl
 | x :: xs=>⟨(spC x).toList,_,by rw [List.flatMap_cons],rfl,yg_ S w xs⟩
theorem kw_ {S:Nat→Prop} {w:World}:∀ {xs:List Sp} {cs:List Value},LCs vO_ S w xs cs→cs = xs.flatMap fun x=>(spC x).toList
 | [],_,h=>h
 | x :: xs,_,⟨c,ds,h1,h2,h3⟩=>by rw [h1,show c = _ from h2,List.flatMap_cons,kw_ h3]
theorem jz_ {S:Nat→Prop} {w:World}:∀ {ms:List St} {cs:List Value},LCs v3_ S w ms cs→∀ (i:Nat) (hi:i < ms.length),qJ_ 7 cs i = .agg (stC ms[i])
 | [],_,_,_,hi=>by simp at hi
 | x :: ms,cs,⟨c,ds,h1,h2,h3⟩,0,_=>by
   have h2:c = (stC x).toList:=h2
   rw [h1,h2];rfl
 | x :: ms,cs,⟨c,ds,h1,h2,h3⟩,i + 1,hi=>by
   have h2:c = (stC x).toList:=h2
   have ih:=jz_ h3 i (by simpa using hi)
   rw [List.getElem_cons_succ,← ih,h1,h2]
   simp only [qJ_,stC]
   have e:∀ j,(#[Value.int .i64 x.t, .int .i64 x.ll, .int .i64 x.lh, .int .i64 x.sl, .int .i64 x.sh, .int .i64 x.el, .int .i64 x.eh].toList ++ ds).getD ((i + 1) * 7 + j) undef = ds.getD (i * 7 + j) undef:=fun j=>by
    rw [show (i + 1) * 7 + j = (i * 7 + j) + 7 by omega];rfl
   simp only [e]
   simp
theorem lcs_st (S:Nat→Prop) (w:World):∀ (xs:List St),LCs v3_ S w xs (xs.flatMap fun x=>(stC x).toList)
 | []=>rfl
 | x :: xs=>⟨(stC x).toList,_,by rw [List.flatMap_cons],rfl,lcs_st S w xs⟩
theorem vB_ {S:Nat→Prop} {w:World}:∀ {xs:List St} {cs:List Value},LCs v3_ S w xs cs→cs = xs.flatMap fun x=>(stC x).toList
 | [],_,h=>h
 | x :: xs,_,⟨c,ds,h1,h2,h3⟩=>by rw [h1,show c = _ from h2,List.flatMap_cons,vB_ h3]
theorem Tryz.info35:(Tryz.prog.info? 35).map (fun i=>(i.zero,i.size,i.bytes)) = some (some (.agg #[.int .i64 0, .int .i64 0]),2,16):=by kernel_rfl
theorem Tryz.info72:(Tryz.prog.info? 72).map (fun i=>(i.zero,i.size,i.bytes)) = some (some (.agg #[.int .i64 0, .int .i64 0, .int .i64 0, .int .i64 0, .int .i64 0, .int .i64 0, .int .i64 0]),7,56):=by kernel_rfl
theorem clone_sp (n:Nat) (cs:List Value) (a:Option Addr) (c:Nat) (S:Nat→Prop) (w:World) (hv:SlC S w 2 (.slice a n c) n cs) (hS:∀ b,S b→b < w.heap.size) (hlen:n ≤ 1000) (h1:∀ u ∈ cs,u.oneCell' = true) :
 Calls Tryz.prog 154 #[.slice a n c] w fun e w'=>∃ v,e = .returned v∧w'.ownsRow w.heap.size 35 2 v n cs∧Below w.heap.size w w':=by
 obtain ⟨j0,hj0,hy0,hy1,hy2⟩:=info_parts Tryz.info35
 have hcaps:=SlC.caps hv
 have hlk:=hv.1
 have q65:∀ (w:World) (a:Option Addr) (n c:Nat),(binOp .eql 50 (.slice a n c) (.slice none 0 0)).run Tryz.prog w = .ok (.bool a.isNone) w:=fun w a n c=>Lib.run_eql_slice_nil w 50 35 a n c 0 0 Tryz.underlying50
 cases a with
 | none=>
   obtain ⟨h0,rfl⟩:=hcaps.2.2 rfl
   subst h0
   obtain rfl:cs = []:=List.eq_nil_of_length_eq_zero (by simpa using hlk)
   go_enter Tryz.func154,Tryz.ntmps154
   go_wp2_with fail
   go_ret
   exact ⟨_,rfl,World.ownsRow_nil _ _ _ _,Below.refl _ _⟩
 | some ad=>
   have hbel:Below w.heap.size w (w.alloc (.cells #[] 35)):=(Below.refl _ _).alloc (nl_ _) _
   have hnews:=SlC.news hv (q9_ hbel hS)
   have how:(w.alloc (.cells #[] 35)).ownsRow w.heap.size 35 2 (.slice (some ⟨w.heap.size,0,none⟩) 0 0) 0 []:=qB_ (n:=0) (cap:=0) (cur:=#[]) (nl_ _) (ha_ _ _) (by omega) (by unfold maxLen;omega) (by simp) (by simp)
   have HB:=hid hbel
   clear hbel hv
   go_enter Tryz.func154,Tryz.ntmps154
   go_wp2_with (at_builtin;go_loud (refine q5_ _ rfl _ _ _ rfl w.heap.size 35 j0 _ 2 16 Tryz.underlying50 hj0 hy0 hy1 hy2 rfl (by omega) _ 0 [] rfl how (some ad) n c _ rfl hlk (fun h=>by cases h) hnews h1 (by unfold maxLen;omega) (by omega) (by simp) ?_);intro a1 c1 w1 hown1 hgrow1 hat1)
   simp only [Nat.zero_add,List.nil_append] at hown1
   go_ret
   refine ⟨_,rfl,by simpa using hown1,HB.out.grown hgrow1 (by simp) (fun b hb=>by cases hb;exact nl_ _)⟩
def spL (x:St):List Sp:=[⟨x.ll,x.lh⟩,⟨x.sl,x.sh⟩,⟨x.el,x.eh⟩]
def qL_ (S:List St) (C:List Sp):List Sp:=C ++ S.flatMap spL
def spV (l:List Sp):List Value:=l.flatMap fun x=>(spC x).toList
theorem spV_len (l:List Sp):(spV l).length = l.length * 2:=by
 induction l with
 | nil=>rfl
 | cons x l ih=>rw [spV,List.flatMap_cons,List.length_append,show (List.flatMap (fun x=>(spC x).toList) l) = spV l from rfl,ih];simp [spC];omega
theorem spV_one (l:List Sp):∀ u ∈ spV l,u.oneCell' = true:=by
 intro u hu
 obtain ⟨x,_,h⟩:=List.mem_flatMap.1 hu
 simp [spC] at h
 rcases h with rfl | rfl <;> rfl
theorem jb_ (S:List St):(S.flatMap spL).length = 3 * S.length:=by
 induction S with
 | nil=>rfl
 | cons x S ih=>rw [List.flatMap_cons,List.length_append,ih,spL];simp;omega
theorem j6_ (S:List St) (C:List Sp) (as_ ac:Option Addr) (cs_ cc:Nat) (B:Nat→Prop) (w:World) (hs:LSl v3_ B w (.slice as_ S.length cs_) S) (hc:LSl vO_ B w (.slice ac C.length cc) C) (hB:∀ b,B b→b < w.heap.size) (h6:S.length ≤ 100) (h5:C.length ≤ 100) :
 Calls Tryz.prog 106 #[.agg #[.slice as_ S.length cs_, .slice ac C.length cc]] w fun e w'=>∃ a c,e = .returned (.slice a (qL_ S C).length c)∧w'.ownsRow w.heap.size 35 2 (.slice a (qL_ S C).length c) (qL_ S C).length (spV (qL_ S C))∧Below w.heap.size w w':=by
 obtain ⟨w1,hw1⟩:∃ w1,w.alloc (.cells #[.slice as_ S.length cs_, .slice ac C.length cc] 60) = w1:=⟨_,rfl⟩
 have hb1:Below w.heap.size w w1:=by rw [← hw1];exact (Below.refl _ _).alloc (nl_ _) _
 have hn1:w1.heap[w.heap.size]? = some (.cells #[.slice as_ S.length cs_, .slice ac C.length cc] 60 (0,0)):=by rw [← hw1];exact ha_ _ _
 obtain ⟨csC,hcc,hcl⟩:=hc
 have hce:=kw_ hcl
 have CL:=hid (clone_sp C.length csC ac cc B w1 (hcc.agree (q9_ hb1 hB)) (fun b hb=>by have:=hB b hb;have:=hb1.size;omega) (by omega) (hcl.one))
 obtain ⟨_,_,he,_,hmm,hat⟩:=LSl.at hs
 cases he
 unfold maxLen at hmm
 obtain ⟨i0,hi0,hy0,hy1,hy2⟩:=info_parts Tryz.info35
 have HAT:=hid hat
 have HB:=hid hB
 have BN:=hid hn1
 have BW:=hid hb1
 have hlt1:=(ge_ hn1).1
 have hz1n:w.heap.size ≤ w1.heap.size:=hb1.size
 obtain ⟨ba,hba⟩:∃ b,w.heap.size = b:=⟨_,rfl⟩
 have q1:=cg_ hn1 (k:=1) (v := .slice ac C.length cc) rfl
 rw [hba] at BN q1
 clear hat hB hb1 hn1 hs hcc hcl
 go_enter Tryz.func106,Tryz.ntmps106
 go_upto_region 1 with fail
 try rw [hw1]
 try simp only [hba]
 clear hw1
 go_wp2_with fail
 refine CL.out.mono ?_
 rintro e w2 ⟨v2,rfl,ho2,hb2⟩
 have hz2:=hb2.size
 have OB:=hid (show w2.ownsRow w.heap.size 35 2 v2 C.length (spV C) by rw [show spV C = csC from hce.symm];exact qp_ ho2 (fun g hg=>by have:=(ho2.lt _ hg).1;omega))
 have BN2:=hid (q0_ BN.out hb2)
 have BW2:=hid (BW.out.trans (hb2.mono BW.out.size))
 clear q1 CL ho2 hb2 BN BW hce hlt1
 have q0:=cg_ BN2.out (k:=0) (v := .slice as_ S.length cs_) rfl
 have hlb:=(ge_ BN2.out).1
 go_wp2_with fail
 go_loopw [3,12] (fun v vi wr=>∃ k:Nat,k ≤ S.length∧vi = .int .i64 k∧wr.ownsRow w.heap.size 35 2 v (C.length + 3 * k) (spV (qL_ (S.take k) C))∧Hid (Below w.heap.size w wr)) (fun _ vi _=>S.length - (intOf vi).toNat)
 case atStart=>exact ⟨0,by omega,rfl,by simpa [qL_] using OB.out,BW2.out⟩
 case round=>
  obtain ⟨k,hk,rfl,hown,hBb⟩:=hrel
  have i1:(0:Int) ≤ (k:Int):=by omega
  by_cases hlt:k < S.length
  · have hlt':(k:Int) < (S.length:Int):=by omega
    obtain ⟨g,o,cs1,rfl,hg,hc,hcell⟩:=HAT.out k hlt
    have hc:cs1 = (stC S[k]).toList:=hc
    obtain ⟨x,hx⟩:∃ x,S[k] = x:=⟨_,rfl⟩
    rw [hx] at hc
    subst hc
    have hgl:=HB.out g hg
    have e0:=hcell 0 _ rfl
    have e1:=hcell 1 _ rfl
    have e2:=hcell 2 _ rfl
    have e3:=hcell 3 _ rfl
    have e4:=hcell 4 _ rfl
    have e5:=hcell 5 _ rfl
    have e6:=hcell 6 _ rfl
    rw [Nat.add_zero] at e0
    rw [← Nat.add_assoc] at e1 e2 e3 e4 e5 e6
    have c0:=bc_ hBb.out hgl e0
    have c1:=bc_ hBb.out hgl e1
    have c2:=bc_ hBb.out hgl e2
    have c3:=bc_ hBb.out hgl e3
    have c4:=bc_ hBb.out hgl e4
    have c5:=bc_ hBb.out hgl e5
    have c6:=bc_ hBb.out hgl e6
    clear hcell e0 e1 e2 e3 e4 e5 e6
    have hszB:=hBb.out.size
    obtain ⟨w5,hw5⟩:∃ w5,wr.alloc (.cells #[.int .i64 x.t, .int .i64 x.ll, .int .i64 x.lh, .int .i64 x.sl, .int .i64 x.sh, .int .i64 x.el, .int .i64 x.eh] 72) = w5:=⟨_,rfl⟩
    have hb5:Below wr.heap.size wr w5:=by rw [← hw5];exact (Below.refl _ _).alloc (nl_ _) _
    have hn5:w5.heap[wr.heap.size]? = some (.cells #[.int .i64 x.t, .int .i64 x.ll, .int .i64 x.lh, .int .i64 x.sl, .int .i64 x.sh, .int .i64 x.el, .int .i64 x.eh] 72 (0,0)):=by rw [← hw5];exact ha_ _ _
    have r1:=cg_ hn5 (k:=1) rfl
    have r2:=cg_ hn5 (k:=2) rfl
    have r3:=cg_ hn5 (k:=3) rfl
    have r4:=cg_ hn5 (k:=4) rfl
    have r5:=cg_ hn5 (k:=5) rfl
    have r6:=cg_ hn5 (k:=6) rfl
    obtain ⟨w6,hw6⟩:∃ w6,w5.alloc (.cells #[.int .i64 x.ll, .int .i64 x.lh, .int .i64 x.sl, .int .i64 x.sh, .int .i64 x.el, .int .i64 x.eh] 35) = w6:=⟨_,rfl⟩
    have hb6:Below w5.heap.size w5 w6:=by rw [← hw6];exact (Below.refl _ _).alloc (nl_ _) _
    have hn6:w6.heap[w5.heap.size]? = some (.cells #[.int .i64 x.ll, .int .i64 x.lh, .int .i64 x.sl, .int .i64 x.sh, .int .i64 x.el, .int .i64 x.eh] 35 (0,0)):=by rw [← hw6];exact ha_ _ _
    have hnews:∀ ad,(some ⟨w5.heap.size,0,none⟩:Option Addr) = some ad→∀ (j:Nat) (u:Value),(spV (spL x))[j]? = some u→w6.cell? (ad.add j) = some u:=fun ad he j u hj=>by
     cases he
     exact World.news_of_block (w:=w6) (t:=35) (fr:=(0,0)) hn6 j u hj
    have hb56:=hb5.trans (hb6.mono hb5.size)
    have how6:=ob_ hown hb56 (nl_ _)
    have HB6:=hid (hBb.out.trans (hb56.mono hszB))
    have hz6:=hid hb56.size
    have HX:=hid hx
    clear hn5 hn6 hb5 hb6 hb56 hown hBb hx
    go_wp2_with (at_builtin;go_loud (refine q5_ _ rfl _ _ _ rfl w.heap.size 35 i0 _ 2 16 Tryz.underlying50 hi0 hy0 hy1 hy2 rfl (by omega) _ (C.length + 3 * k) (spV (qL_ (S.take k) C)) rfl how6 (some ⟨w5.heap.size,0,none⟩) 3 3 (spV (spL x)) rfl (by simp [spV_len,spL]) (fun h=>by cases h) hnews (spV_one _) (by unfold maxLen;omega) (by omega) HB6.out.size ?_);intro a7 c7 w7 hown7 hgrow7 hat7)
    have hsp:spV (qL_ (S.take k) C) ++ spV (spL x) = spV (qL_ (S.take (k + 1)) C):=by
     rw [List.take_succ_eq_append_getElem hlt,HX.out]
     simp [spV,qL_]
    rw [hsp] at hown7
    have HB7:=hid (HB6.out.grown hgrow7 HB6.out.size (fun b hb=>(how6.lt b hb).1))
    clear hat7 hgrow7 how6 hnews
    go_roundw
    case rel=>exact ⟨k + 1,by omega,by go_num,by rw [show C.length + 3 * (k + 1) = C.length + 3 * k + 3 by omega];exact hown7,HB7⟩
    case measure=>simp [intOf];omega
  · go_wp2_with fail
    go_ret
    obtain rfl:k = S.length:=by omega
    obtain ⟨a',c',rfl,_,_⟩:=owns_shape hown
    have hl:(qL_ S C).length = C.length + 3 * S.length:=by rw [qL_,List.length_append,jb_]
    rw [List.take_length,← hl] at hown
    exact ⟨a',c',by rw [hl];rfl,hown,hBb.out⟩
end Go.Proofs.LS
namespace Go.Proofs.LB
open Go.RowKit Go.Sort Go.Proofs.LF
set_option maxHeartbeats 4000000
set_option maxRecDepth 100000
attribute [local go_sem] q1_ q2_ q6_
end Go.Proofs.LB
namespace Go.Proofs.LS
open Go.RowKit Go.Sort Go.Proofs.LF Go.Proofs.LB
set_option maxHeartbeats 4000000
set_option maxRecDepth 100000
attribute [local go_sem] q1_ q2_ q6_
structure OkSc (S:List St) (C:List Sp):Prop where
 s:1 ≤ S.length∧S.length ≤ 6
 c:1 ≤ C.length∧C.length ≤ 5
 sp:∀ x ∈ qL_ S C,jq_ x = true∧x.lo ≤ x.hi
 te:∀ x ∈ S,0 ≤ x.t∧x.t < (C.length:Int)
 go:∀ x ∈ S,0 ≤ (qU_ x).hi
theorem zj_ {x:Sp} (h:jq_ x = true):(0 ≤ x.lo∧x.lo ≤ 30)∧0 ≤ x.hi∧x.hi ≤ 30:=by
 rw [jq_,Bool.and_eq_true,inI,inI,Bool.and_eq_true,Bool.and_eq_true,decide_eq_true_iff,decide_eq_true_iff,decide_eq_true_iff,decide_eq_true_iff] at h
 exact h
theorem OkSc.sm {S:List St} {C:List Sp} (h:OkSc S C) {x:St} (hx:x ∈ S):SmSt x:=by
 have hm:∀ y ∈ spL x,y ∈ qL_ S C:=fun y hy=>List.mem_append_right _ (List.mem_flatMap.2 ⟨x,hx,hy⟩)
 have h1:=zj_ (h.sp _ (hm ⟨x.ll,x.lh⟩ (by simp [spL]))).1
 have h2:=zj_ (h.sp _ (hm ⟨x.sl,x.sh⟩ (by simp [spL]))).1
 have h3:=zj_ (h.sp _ (hm ⟨x.el,x.eh⟩ (by simp [spL]))).1
 have h4:=h.te x hx
 have h5:=h.c
 simp only at h1 h2 h3
 constructor <;> omega
theorem enters61:LF.z5_ 61:=by intro args W;simp [go_sem]
theorem enters108:LF.z5_ 108:=by intro args W;simp [go_sem]
theorem enters109:LF.z5_ 109:=by intro args W;simp [go_sem]
theorem enters110:LF.z5_ 110:=by intro args W;simp [go_sem]
theorem c108_ok (as_ ac:Option Addr) (n m cs_ cc bf:Nat) (x:St) (W:World) (hb:W.heap[bf]? = some (.cells #[.func (.func 60) #[.agg #[.slice as_ n cs_, .slice ac m cc]] #[]] 145 (0,0))) (hx:0 ≤ x.t∧x.t < (m:Int)) (hn:n ≤ 1000) (hm:m ≤ 1000) :
 Calls Tryz.prog 108 #[.agg (stC x), .pointer (some ⟨bf,0,none⟩)] W fun e w'=>e = .returned (.bool true)∧Below W.heap.size W w':=by
 obtain ⟨W1,hW1⟩:∃ W1,W.alloc (.cells (stC x) 72) = W1:=⟨_,rfl⟩
 have hb1:Below W.heap.size W W1:=by rw [← hW1];exact (Below.refl _ _).alloc (nl_ _) _
 have hn1:W1.heap[W.heap.size]? = some (.cells (stC x) 72 (0,0)):=by rw [← hW1];exact ha_ _ _
 have hbb:=q0_ hb hb1
 unfold stC at *
 have s0:=cg_ hn1 (k:=0) (v := .int .i64 x.t) rfl
 have b0:=cg_ hbb (k:=0) (v := .func (.func 60) #[.agg #[.slice as_ n cs_, .slice ac m cc]] #[]) rfl
 have TE:=hid (x8_ as_ ac n m cs_ cc x.t W1 hn hm)
 have HR:=hid (show inI x.t 0 ((m:Int) - 1) = true by rw [inI,Bool.and_eq_true,decide_eq_true_iff,decide_eq_true_iff];omega)
 have HB:=hid hb1
 clear hn1 hbb hb hb1
 go_enter Tryz.func108,Tryz.ntmps108
 go_wp2_with fail
 refine TE.out.mono ?_
 rintro e w2 ⟨rfl,hb2⟩
 go_wp2_with fail
 go_ret
 rw [HR.out]
 exact ⟨rfl,HB.out.trans (hb2.mono HB.out.size)⟩
theorem in_yes {n lo hi:Int} (w:World) (h:lo ≤ n∧n ≤ hi):Calls Tryz.prog 104 #[.int .i64 n, .int .i64 lo, .int .i64 hi] w fun e w'=>e = .returned (.bool true)∧w' = w:=by
 have:=v2_ n lo hi w
 rw [inI,decide_eq_true h.1,decide_eq_true h.2] at this
 exact this
theorem yL_ (S:List St) (C:List Sp) (as_ ac:Option Addr) (cs_ cc:Nat) (B:Nat→Prop) (w:World) (hs:LSl v3_ B w (.slice as_ S.length cs_) S) (hc:LSl vO_ B w (.slice ac C.length cc) C) (hB:∀ b,B b→b < w.heap.size) (hO:OkSc S C) :
 Calls Tryz.prog 59 #[.agg #[.slice as_ S.length cs_, .slice ac C.length cc]] w fun e w'=>e = .returned (.int .i64 0)∧Below w.heap.size w w':=by
 obtain ⟨w1,hw1⟩:∃ w1,w.alloc (.cells #[.slice as_ S.length cs_, .slice ac C.length cc] 60) = w1:=⟨_,rfl⟩
 have hb1:Below w.heap.size w w1:=by rw [← hw1];exact (Below.refl _ _).alloc (nl_ _) _
 have hn1:w1.heap[w.heap.size]? = some (.cells #[.slice as_ S.length cs_, .slice ac C.length cc] 60 (0,0)):=by rw [← hw1];exact ha_ _ _
 have hz1:w1.heap.size = w.heap.size + 1:=by rw [← hw1];simp
 obtain ⟨w2,hw2⟩:∃ w2,w1.alloc (.cells #[.func (.func 60) #[.agg #[.slice as_ S.length cs_, .slice ac C.length cc]] #[]] 145) = w2:=⟨_,rfl⟩
 have hb2:Below w1.heap.size w1 w2:=by rw [← hw2];exact (Below.refl _ _).alloc (nl_ _) _
 have hn2:w2.heap[w1.heap.size]? = some (.cells #[.func (.func 60) #[.agg #[.slice as_ S.length cs_, .slice ac C.length cc]] #[]] 145 (0,0)):=by rw [← hw2];exact ha_ _ _
 have BN:=hid (q0_ hn1 hb2)
 have FN:=hid hn2
 have BW:=hid (hb1.trans (hb2.mono hb1.size))
 have HSs:=hid hs
 have HCs:=hid hc
 have HB:=hid hB
 have HO:=hid hO
 have r1:(1:Int) ≤ (S.length:Int)∧(S.length:Int) ≤ 6:=by have:=hO.s;omega
 have r2:(1:Int) ≤ (C.length:Int)∧(C.length:Int) ≤ 5:=by have:=hO.c;omega
 obtain ⟨ba,hba⟩:∃ b,w.heap.size = b:=⟨_,rfl⟩
 obtain ⟨bf,hbf⟩:∃ b,w1.heap.size = b:=⟨_,rfl⟩
 rw [hba] at BN
 rw [hbf] at FN
 have c0:=cg_ hn1 (k:=0) (v := .slice as_ S.length cs_) rfl
 have c1:=cg_ hn1 (k:=1) (v := .slice ac C.length cc) rfl
 rw [hba] at c0 c1
 clear hs hc hB hO hb1 hb2 hn1 hn2 hz1
 go_enter Tryz.func59,Tryz.ntmps59
 go_upto_block 0 with fail
 try rw [hw1]
 try simp only [hba,hbf]
 try rw [hw2]
 clear hw1 hw2 hba hbf c0 c1
 have b0:=cg_ BN.out (k:=0) (v := .slice as_ S.length cs_) rfl
 have b1:=cg_ BN.out (k:=1) (v := .slice ac C.length cc) rfl
 go_wp2_with fail
 refine (in_yes _ r1).mono ?_
 rintro e v1 ⟨rfl,hq⟩
 subst hq
 clear b0 b1
 have b0:=cg_ BN.out (k:=0) (v := .slice as_ S.length cs_) rfl
 have b1:=cg_ BN.out (k:=1) (v := .slice ac C.length cc) rfl
 go_wp2_with fail
 refine (in_yes _ r2).mono ?_
 rintro e v2 ⟨rfl,hq⟩
 subst hq
 clear b0 b1
 obtain ⟨w9,hw9⟩:∃ w9,w9 = v2:=⟨_,rfl⟩
 subst hw9
 have SP:=hid (j6_ S C as_ ac cs_ cc B w9 (HSs.out.agree (q9_ BW.out HB.out)) (HCs.out.agree (q9_ BW.out HB.out)) (fun b hb=>by have:=HB.out b hb;have:=BW.out.size;omega) (by omega) (by omega))
 have b0:=cg_ BN.out (k:=0) (v := .slice as_ S.length cs_) rfl
 have b1:=cg_ BN.out (k:=1) (v := .slice ac C.length cc) rfl
 go_wp2_with fail
 refine (SP.out).mono ?_
 rintro e w9s ⟨av,cv,rfl,ho,hb⟩
 clear b0 b1
 have HSP:=hid (SlC.of_owns ho)
 clear ho SP
 replace BN:=hid (q0_ BN.out hb)
 replace FN:=hid (q0_ FN.out hb)
 replace BW:=hid (BW.out.trans (hb.mono BW.out.size))
 clear hb
 have EV:=yE_ 61 enters61 (fun _=>true) [] (qL_ S C).length av cv (spV (qL_ S C)) _ w9s HSP.out (fun b hb=>hb.2) (by rw [qL_,List.length_append,jb_];omega) (fun i hi W hW=>by
  rw [show qJ_ 2 (spV (qL_ S C)) i = _ from jg_ (yg_ (fun _=>True) W (qL_ S C)) i hi]
  have:=vz_ (qL_ S C)[i] W
  rw [(HO.out.sp _ (List.getElem_mem hi)).1] at this
  exact this)
 rw [kp_] at EV
 have EV:=hid EV
 have b0:=cg_ BN.out (k:=0) (v := .slice as_ S.length cs_) rfl
 have b1:=cg_ BN.out (k:=1) (v := .slice ac C.length cc) rfl
 go_wp2_with fail
 refine (EV.out).mono ?_
 rintro e w10 ⟨rfl,hb⟩
 clear b0 b1
 clear EV HSP
 replace BN:=hid (q0_ BN.out hb)
 replace FN:=hid (q0_ FN.out hb)
 replace BW:=hid (BW.out.trans (hb.mono BW.out.size))
 clear hb
 obtain ⟨csS,hsc,hsl⟩:=HSs.out
 have EV:=yz_ 108 enters108 (fun _=>true) [.pointer (some ⟨bf,0,none⟩)] S.length as_ cs_ csS B w10 (hsc.agree (q9_ BW.out HB.out)) (fun b hb=>by have:=HB.out b hb;have:=BW.out.size;omega) (by omega) (fun i hi W hW=>by
  rw [jz_ hsl i hi]
  exact c108_ok as_ ac S.length C.length cs_ cc bf S[i] W (q0_ FN.out hW) (HO.out.te _ (List.getElem_mem hi)) (by omega) (by omega))
 rw [kp_] at EV
 have EV:=hid EV
 clear hsc hsl
 have b0:=cg_ BN.out (k:=0) (v := .slice as_ S.length cs_) rfl
 have b1:=cg_ BN.out (k:=1) (v := .slice ac C.length cc) rfl
 go_wp2_with fail
 refine (EV.out).mono ?_
 rintro e w11 ⟨rfl,hb⟩
 clear b0 b1
 clear EV
 replace BN:=hid (q0_ BN.out hb)
 replace FN:=hid (q0_ FN.out hb)
 replace BW:=hid (BW.out.trans (hb.mono BW.out.size))
 clear hb
 have SP:=hid (j6_ S C as_ ac cs_ cc B w11 (HSs.out.agree (q9_ BW.out HB.out)) (HCs.out.agree (q9_ BW.out HB.out)) (fun b hb=>by have:=HB.out b hb;have:=BW.out.size;omega) (by omega) (by omega))
 have b0:=cg_ BN.out (k:=0) (v := .slice as_ S.length cs_) rfl
 have b1:=cg_ BN.out (k:=1) (v := .slice ac C.length cc) rfl
 go_wp2_with fail
 refine (SP.out).mono ?_
 rintro e w11s ⟨av,cv,rfl,ho,hb⟩
 clear b0 b1
 have HSP:=hid (SlC.of_owns ho)
 clear ho SP
 replace BN:=hid (q0_ BN.out hb)
 replace FN:=hid (q0_ FN.out hb)
 replace BW:=hid (BW.out.trans (hb.mono BW.out.size))
 clear hb
 have EV:=yE_ 109 enters109 (fun _=>true) [] (qL_ S C).length av cv (spV (qL_ S C)) _ w11s HSP.out (fun b hb=>hb.2) (by rw [qL_,List.length_append,jb_];omega) (fun i hi W hW=>by
  rw [show qJ_ 2 (spV (qL_ S C)) i = _ from jg_ (yg_ (fun _=>True) W (qL_ S C)) i hi]
  have:=ordS_any (qL_ S C)[i] W
  rw [decide_eq_true (HO.out.sp _ (List.getElem_mem hi)).2] at this
  exact this)
 rw [kp_] at EV
 have EV:=hid EV
 have b0:=cg_ BN.out (k:=0) (v := .slice as_ S.length cs_) rfl
 have b1:=cg_ BN.out (k:=1) (v := .slice ac C.length cc) rfl
 go_wp2_with fail
 refine (EV.out).mono ?_
 rintro e w12 ⟨rfl,hb⟩
 clear b0 b1
 clear EV HSP
 replace BN:=hid (q0_ BN.out hb)
 replace FN:=hid (q0_ FN.out hb)
 replace BW:=hid (BW.out.trans (hb.mono BW.out.size))
 clear hb
 obtain ⟨csS,hsc,hsl⟩:=HSs.out
 have EV:=yz_ 110 enters110 (fun _=>true) [] S.length as_ cs_ csS B w12 (hsc.agree (q9_ BW.out HB.out)) (fun b hb=>by have:=HB.out b hb;have:=BW.out.size;omega) (by omega) (fun i hi W hW=>by
  rw [jz_ hsl i hi]
  have:=wr_ S[i] W (HO.out.sm (List.getElem_mem hi))
  rw [decide_eq_true (HO.out.go _ (List.getElem_mem hi))] at this
  exact this)
 rw [kp_] at EV
 have EV:=hid EV
 clear hsc hsl
 have b0:=cg_ BN.out (k:=0) (v := .slice as_ S.length cs_) rfl
 have b1:=cg_ BN.out (k:=1) (v := .slice ac C.length cc) rfl
 go_wp2_with fail
 refine (EV.out).mono ?_
 rintro e w13 ⟨rfl,hb⟩
 clear b0 b1
 clear EV
 replace BN:=hid (q0_ BN.out hb)
 replace FN:=hid (q0_ FN.out hb)
 replace BW:=hid (BW.out.trans (hb.mono BW.out.size))
 clear hb
 go_wp2_with fail
 go_ret
 exact ⟨rfl,BW.out⟩
end Go.Proofs.LS
namespace Go.Proofs.LB
open Go.RowKit Go.Sort Go.Proofs.LF
set_option maxHeartbeats 4000000
set_option maxRecDepth 100000
attribute [local go_sem] q1_ q2_ q6_
end Go.Proofs.LB