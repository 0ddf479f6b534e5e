/- Parts of the proof of a law of layer 11 (file): LfYav, LbB1, LbMap, LbB2, LbB3, LbB4, LbB5, LbB6, LbB7, LbS1, LbB8, LbS2. The conditions stand in each theorem. -/
import Derived.Test.YtffjknkcogmnbaaGreatDoorProg
import Derived.Test.YtffjknkcogmnbaaGreatDoorTyaa
import Derived.Test.YtffjknkcogmnbaaGreatDoorTyab
import Derived.Test.YtffjknkcogmnbaaGreatDoorTyac
import Derived.Test.YtffjknkcogmnbaaGreatDoorTyae
import Derived.Test.YtffjknkcogmnbaaGreatDoorTyag
import Derived.Test.YtffjknkcogmnbaaGreatDoorTyah
import Derived.Test.YtffjknkcogmnbaaGreatDoorTyai
import Derived.Test.YtffjknkcogmnbaaGreatDoorTyaj
import Derived.Test.YtffjknkcogmnbaaGreatDoorTyak
import Derived.Test.YtffjknkcogmnbaaGreatDoorTyal
import Derived.Test.YtffjknkcogmnbaaGreatDoorTyam
import Derived.Test.YtffjknkcogmnbaaGreatDoorTyan
import Derived.Test.YtffjknkcogmnbaaGreatDoorTyap
import Derived.Test.YtffjknkcogmnbaaGreatDoorTyaq
import Derived.Test.YtffjknkcogmnbaaGreatDoorTyar
import Derived.Test.YtffjknkcogmnbaaGreatDoorTyas
import Derived.Test.YtffjknkcogmnbaaGreatDoorTyat
import Derived.Test.YtffjknkcogmnbaaGreatDoorTyau
import Derived.Test.YtffjknkcogmnbaaGreatDoorTyav
import Derived.Test.YtffjknkcogmnbaaGreatDoorTyaw
set_option linter.all false
set_option linter.unusedVariables false
set_option linter.unusedSimpArgs false
set_option linter.all false
set_option linter.unusedVariables false
set_option linter.unusedSimpArgs false
namespace Go.Proofs.LF
def Chn:List Ky→List NdD→Prop
 | _,[]=>True
 | prev,x :: xs=>(x.up = prev.take x.up.length∧x.up.length ≤ prev.length∧x.up.length ≤ 3∧OkN x)∧Chn (x.up ++ [qn_ x.n x.l]) xs
theorem vb_:∀ (y:Fo) (up prev:List Ky) (rest:List NdD),OkG up.length y→prev.take up.length = up→up.length ≤ prev.length→(∀ prev',prev'.take up.length = up→up.length ≤ prev'.length→Chn prev' rest)→Chn prev (qa_ up y ++ rest)
 | .nil,up,prev,rest,_,h1,h2,h=>by simpa [qa_] using h prev h1 h2
 | .cons n l s r,up,prev,rest,⟨⟨g1,g2,g3,g4⟩,g5,_,g7⟩,h1,h2,h=>by
   simp only [qa_,List.cons_append,List.append_assoc]
   refine ⟨⟨h1.symm,h2,g1,g2,g3,g4⟩,?_⟩
   refine vb_ s (up ++ [qn_ n l]) _ _ (by simpa using g5) (List.take_of_length_le (nl_ _)) (nl_ _) fun prev' p1 p2=>?_
   have q1:prev'.take up.length = up:=by
    have:=congrArg (List.take up.length) p1
    rw [List.take_take,List.length_append,List.length_singleton,Nat.min_eq_left (by omega),List.take_left] at this
    exact this
   exact vb_ r up prev' rest g7 q1 (by simp at p2;omega) h
def flD (x:NdD):Fl:=⟨x.up ++ [qn_ x.n x.l],x.l⟩
theorem xC_ (t:List UInt8):∀ (xs:List NdD) (f i ln:Nat) (prev ks:List Ky) (fs:List Fl),t.drop i = kt_ xs→xs.length < f→ln + xs.length ≤ 60→Chn prev xs→ks.length = 4→prev.length ≤ 4→ks.take prev.length = prev→Srt (fs ++ xs.map flD) →
 xg_ t f i ln (min prev.length 3) ks fs = (fs ++ xs.map flD,0,0,0)
 | [],f + 1,i,ln,prev,ks,fs,h,_,_,_,_,_,_,_=>by
   have:¬ i < t.length:=fun hi=>by
    have:=congrArg List.length h
    rw [List.length_drop] at this
    simp [kt_] at this
    omega
   rw [xg_,if_neg this]
   simp
 | [],0,_,_,_,_,_,_,h,_,_,_,_,_,_=>by omega
 | x :: xs,0,_,_,_,_,_,_,h,_,_,_,_,_,_=>by omega
 | x :: xs,f + 1,i,ln,prev,ks,fs,h,hf,hln,⟨⟨c1,c2,c3,c4⟩,c5⟩,hk,hp4,hkp,hs=>by
   have htx:kt_ (x :: xs) = zi_ x ++ kt_ xs:=by simp [kt_]
   have hlp:0 < (zi_ x).length:=by simp [zi_];omega
   have hi:i < t.length:=by
    have:=congrArg List.length h
    rw [List.length_drop,htx,List.length_append] at this
    omega
   simp only [List.length_cons] at hf hln
   rw [xg_,if_pos hi,if_neg (by omega),h,htx,yR_ c4 (by omega)]
   dsimp only
   rw [if_neg (by simp)]
   have hkd:ks.take x.up.length = x.up:=by
    have:=congrArg (List.take x.up.length) hkp
    rw [List.take_take,Nat.min_eq_left c2,← c1] at this
    exact this
   have hks:(ks.set x.up.length (qn_ x.n x.l)).take (x.up.length + 1) = x.up ++ [qn_ x.n x.l]:=by
    rw [List.take_succ_eq_append_getElem (by simp;omega),List.take_set_of_le (nl_ _),hkd]
    simp
   rw [hks]
   have hany:(fs.any fun z=>decide (0 ≤ cmpP z.p (x.up ++ [qn_ x.n x.l]))) = false:=by
    rw [List.any_eq_false]
    intro z hz
    have:=(List.pairwise_append.1 hs).2.2 z hz (flD x) (by simp)
    simp only [flD] at this
    simp only [decide_eq_true_eq]
    omega
   rw [hany,if_neg (by simp)]
   have e1:i + ((zi_ x).length - 1) + 1 = i + (zi_ x).length:=by omega
   have e2:min (x.up.length + 1) 3 = min (x.up ++ [qn_ x.n x.l]).length 3:=by simp
   have hd:t.drop (i + (zi_ x).length) = kt_ xs:=by rw [← List.drop_drop,h,htx,List.drop_left]
   rw [e1,e2]
   have:=xC_ t xs f (i + (zi_ x).length) (ln + 1) (x.up ++ [qn_ x.n x.l]) (ks.set x.up.length (qn_ x.n x.l)) (fs ++ [flD x]) hd (by omega) (by omega) c5 (by simpa using hk) (by simp;omega) (by rw [List.length_append,List.length_singleton];exact hks) (by simpa using hs)
   rw [show (⟨x.up ++ [qn_ x.n x.l],x.l⟩:Fl) = flD x from rfl,this]
   simp
theorem fls_flD (y:Fo):flsL [] y = (qa_ [] y).map flD:=rfl
theorem prs_txt {y:Fo} (h:qS_ y = 0):prs (kt_ (qa_ [] y)) = (flsL [] y,0,0,0):=by
 have hlen:(qa_ [] y).length ≤ 60:=by rw [qq_];exact jL_ h
 have:=xC_ (kt_ (qa_ [] y)) (qa_ [] y) 62 0 0 [] [ky0,ky0,ky0,ky0] [] rfl (by omega) (by omega) (by
  have:=vb_ y [] [] [] (chk_okG h) rfl (nl_ _) (fun _ _ _=>trivial)
  simpa using this) rfl (by simp) rfl (by rw [List.nil_append,← fls_flD];exact xk_ h)
 rw [prs]
 simpa [fls_flD] using this
end Go.Proofs.LF
namespace Go.Proofs.LF
open Go.RowKit Go.Sort
set_option maxHeartbeats 4000000
set_option maxRecDepth 100000
attribute [local go_sem] q1_ q2_ q8_
def bedN:List UInt8:=[98,101,100]
def rakedN:List UInt8:=[114,97,107,101,100]
def soldN:List UInt8:=[115,111,108,100]
def oneY (n:Int):Fo := .cons bedN [3] (.cons rakedN [5,n] .nil .nil) (.cons soldN [] .nil .nil)
theorem FCs.alloc {S:Nat→Prop} {w:World} {y:Fo} {cs:List Value} (h:FCs S w y cs) (hS:∀ b,S b→b < w.heap.size) (o:Obj):FCs S (w.alloc o) y cs:=h.agree (fun b hb=>heap_alloc_old _ _ (hS b hb))
theorem zc_ {S:Nat→Prop} {w:World} {b k n:Nat} {vs:Array Value} {t:TypeId} {fr:Nat × Nat} (hb:w.heap[b]? = some (.cells vs t fr)) (hS:S b) (hl:vs.size = n * k) (hn:n ≤ maxLen):SlC S w k (.slice (some ⟨b,0,none⟩) n n) n vs.toList:=by
 refine ⟨by simpa using hl,_,n,rfl,nl_ _,hn,(fun h=>by cases h), .inr ⟨b,0,rfl,hS,fun j u hj=>?_⟩⟩
 simp only [World.cell?,hb,Nat.zero_add]
 simpa using hj
theorem One_any (n:Int) (w:World) :
 Calls Tryz.prog 51 #[.int .i64 n] w fun e w'=>∃ g,e = .returned (.slice (some ⟨g,0,none⟩) 2 2)∧FSl (Rg w.heap.size w'.heap.size) w' (.slice (some ⟨g,0,none⟩) 2 2) (oneY n)∧Below w.heap.size w w':=by
 go_enter Tryz.func51,Tryz.ntmps51
 go_wp2_with fail
 refine bodyPost_ret (v := .slice (some ⟨w.heap.size + 1 + 1 + 1,0,none⟩) 2 2) (by simp [results,Tryz.results51,go_sem]) rfl ?_
 refine ⟨w.heap.size + 1 + 1 + 1,rfl,?_,?_⟩
 · have key:∀ (N:Nat) (W:World) (A B C D:Obj),A = .cells #[.int .i64 3] 3→B = .cells #[.int .i64 5, .int .i64 n] 3→C = .cells #[.string ⟨#[114,97,107,101,100]⟩, .slice (some ⟨N + 1,0,none⟩) 2 2, .slice none 0 0] 109 →
    D = .cells #[.string ⟨#[98,101,100]⟩, .slice (some ⟨N,0,none⟩) 1 1, .slice (some ⟨N + 1 + 1,0,none⟩) 1 1, .string ⟨#[115,111,108,100]⟩, .slice none 0 0, .slice none 0 0] 109→N = w.heap.size→W = (((w.alloc A).alloc B).alloc C).alloc D→FSl (Rg w.heap.size W.heap.size) W (.slice (some ⟨N + 1 + 1 + 1,0,none⟩) 2 2) (oneY n):=by
    rintro N W A B C D hA hB hC hD hN hW
    have hz:W.heap.size = N + 4:=by rw [hW,hN];simp
    have a0:W.heap[N]? = some A:=by
     rw [hW,hN]
     exact (heap_alloc_old _ _ (by simp;omega)).trans ((heap_alloc_old _ _ (by simp;omega)).trans ((heap_alloc_old _ _ (by simp)).trans (ha_ w A)))
    have a1:W.heap[N + 1]? = some B:=by
     have h:=ha_ (w.alloc A) B
     simp only [World.size_alloc] at h
     rw [hW,hN]
     exact (heap_alloc_old _ _ (by simp)).trans ((heap_alloc_old _ _ (by simp)).trans h)
    have a2:W.heap[N + 1 + 1]? = some C:=by
     have h:=ha_ ((w.alloc A).alloc B) C
     simp only [World.size_alloc] at h
     rw [hW,hN]
     exact (heap_alloc_old _ _ (by simp)).trans h
    have a3:W.heap[N + 1 + 1 + 1]? = some D:=by
     have h:=ha_ (((w.alloc A).alloc B).alloc C) D
     simp only [World.size_alloc] at h
     rw [hW,hN]
     exact h
    have hS:∀ k,k < 4→Rg w.heap.size W.heap.size (N + k):=fun k hk=>⟨by omega,by omega⟩
    rw [hA] at a0
    rw [hB] at a1
    rw [hC] at a2
    rw [hD] at a3
    have i0:zh_ (Rg w.heap.size W.heap.size) W (.slice (some ⟨N,0,none⟩) 1 1) [3]:=zc_ (vs:=#[.int .i64 3]) a0 (hS 0 (by omega)) rfl (by simp [maxLen])
    have i1:zh_ (Rg w.heap.size W.heap.size) W (.slice (some ⟨N + 1,0,none⟩) 2 2) [5,n]:=zc_ (vs:=#[.int .i64 5, .int .i64 n]) a1 (hS 1 (by omega)) rfl (by simp [maxLen])
    have nilI:∀ S,zh_ S W (.slice none 0 0) []:=fun S=>⟨rfl,none,0,rfl,nl_ _,by simp [maxLen],fun _=>rfl, .inl rfl⟩
    have nilF:∀ S,∃ ds,SlC S W 3 (.slice none 0 0) Fo.nil.len ds∧FCs S W .nil ds:=fun S=>⟨[],⟨rfl,none,0,rfl,nl_ _,by simp [maxLen],fun _=>rfl, .inl rfl⟩,rfl⟩
    have s2:=zc_ (k:=3) (n:=1) (S:=Rg w.heap.size W.heap.size) a2 (hS 2 (by omega)) rfl (by simp [maxLen])
    have s3:=zc_ (k:=3) (n:=2) (S:=Rg w.heap.size W.heap.size) a3 (hS 3 (by omega)) rfl (by simp [maxLen])
    exact ⟨_,s3,_,_,_,rfl,i0,⟨_,s2,_,_,_,rfl,i1,nilF _,rfl⟩,_,_,_,rfl,nilI _,nilF _,rfl⟩
   exact key w.heap.size _ _ _ _ _ rfl rfl rfl rfl rfl rfl
 · exact ((((Below.refl _ _).alloc (nl_ _) _).alloc (by simp) _).alloc (by simp;omega) _).alloc (by simp;omega) _
end Go.Proofs.LF
namespace Go.Proofs.LF
open Go.RowKit Go.Sort
def In (W:World) (v:Value) (y:Fo):Prop:=FSl (fun q=>q < W.heap.size) W v y
theorem In.on {W W':World} {v:Value} {y:Fo} (h:In W v y) (hb:Below W.heap.size W W'):In W' v y:=FSl.on h hb
def PaIn (W:World) (v:Value) (ps:List (List Ky)):Prop:=PaSl (fun q=>q < W.heap.size) W v ps
theorem PaIn.on {W W':World} {v:Value} {ps:List (List Ky)} (h:PaIn W v ps) (hb:Below W.heap.size W W'):PaIn W' v ps:=LSl.on h hb
def IsIn (W:World) (v:Value) (l:List Int):Prop:=zh_ (fun q=>q < W.heap.size) W v l
theorem IsIn.on {w w':World} {v:Value} {l:List Int} (h:IsIn w v l) (hb:Below w.heap.size w w'):IsIn w' v l:=
 (zh_.agree h (qc_ hb fun _ h=>h)).wide fun b hq=>by have:=hb.size;omega
def PtIn (W:World) (v:Value) (l:List Ky):Prop:=Pth (fun q=>q < W.heap.size) W v l
theorem PtIn.on {w w':World} {v:Value} {l:List Ky} (h:PtIn w v l) (hb:Below w.heap.size w w'):PtIn w' v l:=
 (Pth.agree h (qc_ hb fun _ h=>h)).wide fun b hq=>by have:=hb.size;omega
def ChIn (W:World) (v:Value) (l:List Ch):Prop:=ChSl (fun q=>q < W.heap.size) W v l
theorem ChIn.on {W W':World} {v:Value} {ps:List Ch} (h:ChIn W v ps) (hb:Below W.heap.size W W'):ChIn W' v ps:=LSl.on h hb
def AllP (W w':World) (v:Value) (ps:List (List Ky)) (n:Nat) (cs:List Value):Prop:=n = ps.length∧w'.ownsRow W.heap.size 92 1 v n cs∧∃ T:Nat→Prop,LCs kM_ T w' ps cs∧∀ b,T b→W.heap.size ≤ b∧b < w'.heap.size∧v.ownBlock ≠ some b
theorem AllP.news {W w':World} {a:Option Addr} {n c:Nat} {ps:List (List Ky)} {cs:List Value} (h:AllP W w' (.slice a n c) ps n cs):cs.length = n * 1∧(a = none→n = 0∧c = 0)∧(∀ ad,a = some ad→∀ (j:Nat) (u:Value),cs[j]? = some u→w'.cell? (ad.add j) = some u)∧(∀ u ∈ cs,u.oneCell' = true):=by
 obtain ⟨_,h1,T,h2,h3⟩:=h
 have s1:=SlC.of_owns h1
 exact ⟨h1.1,fun h=>(SlC.caps s1).2.2 h,SlC.news s1 qg_.refl,LCs.one h2⟩
def ByIn (W:World) (v:Value) (l:List Int):Prop:=Byt (fun q=>q < W.heap.size) W v l
theorem ByIn.on {W W':World} {v:Value} {l:List Int} (h:ByIn W v l) (hb:Below W.heap.size W W'):ByIn W' v l:=
 (SlC.agree h (qc_ hb fun _ h=>h)).wide fun b hq=>by have:=hb.size;omega
def txt1:List UInt8:=[98,101,100,32,51,10,32,114,97,107,101,100,32,53,32,55,10,115,111,108,100,10]
theorem val_chk:qS_ (oneY 7) = 0:=by decide +kernel
theorem val_txt:kt_ (qa_ [] (oneY 7)) = txt1:=by decide +kernel
theorem owns_set {w:World} {B e k n g c i:Nat} {cs:List Value} {u:Value} (h:w.ownsRow B e k (.slice (some ⟨g,0,none⟩) n c) n cs) (hi:i < n * k):(w.setCell ⟨g,i,none⟩ u).ownsRow B e k (.slice (some ⟨g,0,none⟩) n c) n (cs.set i u)∧w.grownBy (w.setCell ⟨g,i,none⟩ u) (some g):=by
 obtain ⟨h1,⟨he,_⟩ | ⟨g',cap,cur,he,hbg,hgg,hn,hcap,hsz,htk⟩⟩:=h
 · cases he
 · cases he
   refine ⟨⟨by simpa using h1, .inr ⟨g,c,cur.setIfInBounds i u,rfl,hbg,?_,hn,hcap,by simpa using hsz,?_⟩⟩,⟨rfl,rfl,rfl,by simp [World.setCell],fun b hb hne=>Below.heap_setCell _ _ _ _ (fun e=>hne (by rw [e]))⟩⟩
   · simp [World.setCell,Array.getElem?_modify,hgg]
   · rw [Array.toList_setIfInBounds,List.take_set,htk]
theorem vp_ {w:World} {B e k n g c i:Nat} {cs:List Value} {u:Value} (h:w.ownsRow B e k (.slice (some ⟨g,0,none⟩) n c) n cs) (hi:i < n * k) (hu:cs[i]? = some u):w.cell? ⟨g,i,none⟩ = some u∧w.frozen? ⟨g,i,none⟩ = false:=by
 obtain ⟨h1,⟨he,_⟩ | ⟨g',cap,cur,he,hbg,hgg,hn,hcap,hsz,htk⟩⟩:=h
 · cases he
 · cases he
   refine ⟨cg_ hgg ?_,q5_ hgg⟩
   rw [← htk,List.getElem?_take,if_pos hi] at hu
   simpa using hu
end Go.Proofs.LF
namespace Go.Proofs.LF
open Go.RowKit Go.Sort
set_option maxHeartbeats 4000000
set_option maxRecDepth 100000
attribute [local go_sem] q1_ q2_ q8_
theorem FCs.take {S:Nat→Prop} {w:World}:∀ {i:Nat} {y:Fo} {cs:List Value},FCs S w y cs→FCs S w (y.take i) (cs.take (i * 3))
 | 0,_,_,_=>by simp [Fo.take,FCs]
 | i + 1, .nil,_,h=>by rw [show _ = [] from h];simp [Fo.take,FCs]
 | i + 1, .cons _ _ _ _,_,⟨vn,vs,cs',h,h2,h3,h5⟩=>by
   rw [h,show (i + 1) * 3 = i * 3 + 1 + 1 + 1 from by omega]
   exact ⟨vn,vs,cs'.take (i * 3),rfl,h2,h3,h5.take⟩
theorem SlC.pre {S:Nat→Prop} {w:World} {k n m c:Nat} {a:Option Addr} {cs:List Value} (h:SlC S w k (.slice a n c) n cs) (hm:m ≤ n):SlC S w k (.slice a m c) m (cs.take (m * k)):=by
 obtain ⟨h1,a',c',he,h2,h3,h4,h5⟩:=h
 cases he
 refine ⟨by rw [List.length_take,h1];exact Nat.min_eq_left (Nat.mul_le_mul_right k hm),a,c,rfl,by omega,h3,h4,?_⟩
 rcases h5 with h5 | ⟨g,o,h6,h7,h8⟩
 · exact .inl (by omega)
 · refine .inr ⟨g,o,h6,h7,fun j u hj=>h8 j u ?_⟩
   rw [List.getElem?_take] at hj
   split at hj
   · exact hj
   · cases hj
theorem SlC.suf {S:Nat→Prop} {w:World} {k n m c g o:Nat} {cs:List Value} (h:SlC S w k (.slice (some ⟨g,o,none⟩) n c) n cs) (hm:m < n):SlC S w k (.slice (some ⟨g,o + m * k,none⟩) (n - m) (c - m)) (n - m) (cs.drop (m * k)):=by
 obtain ⟨h1,a',c',he,h2,h3,h4,h5⟩:=h
 cases he
 refine ⟨by rw [List.length_drop,h1,Nat.sub_mul],_,_,rfl,by omega,by omega,(fun h=>by cases h),?_⟩
 rcases h5 with h5 | ⟨g',o',h6,h7,h8⟩
 · omega
 · cases h6
   refine .inr ⟨g,o + m * k,rfl,h7,fun j u hj=>?_⟩
   rw [List.getElem?_drop] at hj
   rw [Nat.add_assoc]
   exact h8 _ u hj
theorem FSl.pre {S:Nat→Prop} {w:World} {a:Option Addr} {m c:Nat} {y:Fo} (h:FSl S w (.slice a y.len c) y) (hm:m ≤ y.len):FSl S w (.slice a m c) (y.take m):=by
 obtain ⟨ds,h1,h2⟩:=h
 exact ⟨_,by rw [Fo.len_take hm];exact h1.pre hm,h2.take⟩
theorem FSl.suf {S:Nat→Prop} {w:World} {g o m c:Nat} {y:Fo} (h:FSl S w (.slice (some ⟨g,o,none⟩) y.len c) y) (hm:m < y.len):FSl S w (.slice (some ⟨g,o + m * 3,none⟩) (y.len - m) (c - m)) (y.drop m):=by
 obtain ⟨ds,h1,h2⟩:=h
 exact ⟨_,by rw [Fo.len_drop];exact h1.suf hm,h2.drop⟩
theorem one_facts (n:Int):(oneY n).len = 2∧(oneY n).Sm∧(oneY n).cnt = 3:=⟨rfl,by simp [oneY,Fo.Sm,bedN,rakedN,soldN,Fo.len],rfl⟩
theorem print7 (a:Option Addr) (c:Nat) (S:Nat→Prop) (w:World) (hv:FSl S w (.slice a 2 c) (oneY 7)) (hS:∀ b,S b→b < w.heap.size) (ht:Pow w) :
 Calls Tryz.prog 10 #[.slice a 2 c] w fun e w'=>e = .returned (.tuple #[.string ⟨#[98,101,100,32,51,10,32,114,97,107,101,100,32,53,32,55,10,115,111,108,100,10]⟩, .int .i64 0])∧Below w.heap.size w w':=by
 have h:=xJ_ (oneY 7) a c S w hv hS (by decide) (one_facts 7).2.1 (by decide) ht
 rw [val_chk,if_pos rfl,val_txt] at h
 exact h
end Go.Proofs.LF
namespace Go.Proofs.LF
open Go.RowKit Go.Sort
theorem LCs.part {α:Type} {k:Nat} {r:Rd α k} {S:Nat→Prop} {w:World}:∀ {xs ys:List α} {cs:List Value},LCs r S w (xs ++ ys) cs→∃ c d,cs = c ++ d∧LCs r S w xs c∧LCs r S w ys d
 | [],_,cs,h=>⟨[],cs,rfl,rfl,h⟩
 | x :: xs,ys,cs,⟨c,ds,h1,h2,h3⟩=>by
   obtain ⟨c',d',h4,h5,h6⟩:=LCs.part (xs:=xs) (ys:=ys) h3
   exact ⟨c ++ c',d',by rw [h1,h4,List.append_assoc],⟨c,c',rfl,h2,h5⟩,h6⟩
end Go.Proofs.LF
namespace Go.Proofs.LF
open Go.RowKit Go.Sort
set_option maxHeartbeats 40000000
set_option maxRecDepth 100000
attribute [local go_sem] q1_ q2_ q8_
theorem kW_ {F:Fence} {n:Nat} {P:Program} {ops:Array Oper} {Q:Exit→Act→World→Prop} {md:Region.Mode} {S:World→Prop} {i j:Nat} {oi oj:Oper} {fuel:Nat} {listed:Array Bool} {a:Act} {w:World} (hr:Region.ready md ops listed = [i,j]) (hi:ops[i]? = some oi) (hj:ops[j]? = some oj)
 (hwi:Region.wanted oi (yielded ops a.tmps) = true) (hwj:Region.wanted oj (yielded ops a.tmps) = true)
 (h1:∀ K:Act→World→Prop,(∀ a w,S w∧k5_ F n P md ops Q S fuel (listed.setIfInBounds i true) a w→K a w)→Oper.wpIn F n P oi a w K Q)
 (h2:∀ K:Act→World→Prop,(∀ a w,S w∧k5_ F n P md ops Q S fuel (listed.setIfInBounds j true) a w→K a w)→Oper.wpIn F n P oj a w K Q):k5_ F n P md ops Q S (fuel + 1) listed a w:=
 ⟨fun h0=>(by rw [hr] at h0;cases h0),hr ▸ fun k hk=>by
   simp only [List.mem_cons,List.not_mem_nil,or_false] at hk
   rcases hk with rfl | rfl
   · unfold wpOpIn
     rw [hi]
     simp only [hwi,if_true]
     exact h1 _ fun _ _ h=>h
   · unfold wpOpIn
     rw [hj]
     simp only [hwj,if_true]
     exact h2 _ fun _ _ h=>h⟩
end Go.Proofs.LF
namespace Go.Proofs.LB
open Go.RowKit Go.Sort Go.Proofs.LF
set_option maxHeartbeats 4000000
set_option maxRecDepth 100000
attribute [local go_sem] q1_ q2_ q8_
def inI (n lo hi:Int):Bool:=decide (lo ≤ n) && decide (n ≤ hi)
theorem ze_ (n lo hi:Int) (w:World):Calls Tryz.prog 149 #[.int .i64 n, .int .i64 lo, .int .i64 hi] w fun e w'=>e = .returned (.bool (inI n lo hi))∧w' = w:=by
 by_cases h:lo ≤ n
 · have e:inI n lo hi = decide (n ≤ hi):=by simp [inI,h]
   go_enter Tryz.func149,Tryz.ntmps149
   go_wp2_with fail
   go_ret
   first
    | exact ⟨rfl,rfl⟩
    | (rw [e];exact ⟨rfl,rfl⟩)
 · have e:inI n lo hi = false:=by simp [inI,h]
   go_enter Tryz.func149,Tryz.ntmps149
   go_wp2_with fail
   go_ret
   first
    | exact ⟨rfl,rfl⟩
    | (rw [e];exact ⟨rfl,rfl⟩)
theorem great1 (n x:Int) (g o c:Nat) (w:World) (hx:w.cell? ⟨g,o,none⟩ = some (.int .i64 x)):Calls Tryz.prog 196 #[.int .i64 n, .slice (some ⟨g,o,none⟩) 1 c] w fun e w'=>e = .returned (.int .i64 (max n x))∧w' = w:=by
 go_enter Tryz.func196,Tryz.ntmps196
 go_wp2_with fail
 go_loopw [0,9] (fun vn vi wr=>wr = w∧((vi = .int .i64 0∧vn = .int .i64 n) ∨ (vi = .int .i64 1∧vn = .int .i64 (max n x)))) (fun _ vi _=>1 - (intOf vi).toNat)
 case atStart=>exact ⟨rfl, .inl ⟨rfl,rfl⟩⟩
 case round=>
  obtain ⟨rfl,⟨rfl,rfl⟩ | ⟨rfl,rfl⟩⟩:=hrel
  · go_wp2_with fail
    go_roundw
    case rel=>exact ⟨by trivial, .inr ⟨rfl,rfl⟩⟩
    case measure=>simp [intOf]
  · go_wp2_with fail
    go_ret
    exact ⟨rfl,rfl⟩
def witI (slo shi lo hi:Int):Bool:=inI slo lo hi && inI shi slo hi
theorem wj_ (slo shi lo hi:Int) (w:World):Calls Tryz.prog 192 #[.agg #[.int .i64 slo, .int .i64 shi], .int .i64 lo, .int .i64 hi] w fun e w'=>e = .returned (.bool (witI slo shi lo hi))∧Below w.heap.size w w':=by
 have hb:Below w.heap.size w (w.alloc (.cells #[.int .i64 slo, .int .i64 shi] 35)):=(Below.refl _ _).alloc (nl_ _) _
 have hn:=ha_ w (.cells #[.int .i64 slo, .int .i64 shi] 35)
 have q0:=cg_ hn (k:=0) rfl
 have q1:=cg_ hn (k:=1) rfl
 have HB:=hid hb
 clear hb hn
 obtain ⟨b,hb⟩:∃ b,inI slo lo hi = b:=⟨_,rfl⟩
 have I1:=fun w=>ze_ slo lo hi w
 have I2:=fun w=>ze_ shi slo hi w
 rw [hb] at I1
 have I1:=hid I1
 have I2:=hid I2
 have hw:witI slo shi lo hi = (b && inI shi slo hi):=by rw [witI,hb]
 have HW:=hid hw
 clear hb hw
 cases b with
 | true=>
   go_enter Tryz.func192,Tryz.ntmps192
   go_wp2_with fail
   refine (I1.out _).mono ?_
   rintro e w1 ⟨rfl,rfl⟩
   go_wp2_with fail
   refine (I2.out _).mono ?_
   rintro e w1 ⟨rfl,rfl⟩
   go_wp2_with fail
   go_ret
   rw [HW.out]
   exact ⟨rfl,HB.out⟩
 | false=>
   go_enter Tryz.func192,Tryz.ntmps192
   go_wp2_with fail
   refine (I1.out _).mono ?_
   rintro e w1 ⟨rfl,rfl⟩
   go_wp2_with fail
   go_ret
   rw [HW.out]
   exact ⟨rfl,HB.out⟩
def moC (x:Mo):Array Value:=#[.int .i64 x.g, .int .i64 x.r, .int .i64 x.sl, .int .i64 x.sh, .int .i64 x.tl, .int .i64 x.th]
def z7_ (room first uns:Int) (ms ss:Value):Array Value:=#[.int .i64 room, .int .i64 first, .int .i64 uns,ms,ss]
theorem yU_ (room first uns:Int) (ms ss:Value) (n:Int) (w:World):Calls Tryz.prog 187 #[.agg (z7_ room first uns ms ss), .int .i64 n] w fun e w'=>e = .returned (.bool (inI n 0 room))∧Below w.heap.size w w':=by
 have hb:Below w.heap.size w (w.alloc (.cells (z7_ room first uns ms ss) 26)):=(Below.refl _ _).alloc (nl_ _) _
 have hn:=ha_ w (.cells (z7_ room first uns ms ss) 26)
 have q0:=cg_ hn (k:=0) (v := .int .i64 room) rfl
 have HB:=hid hb
 have I1:=hid (fun w=>ze_ n 0 room w)
 clear hb hn
 unfold z7_ at *
 go_enter Tryz.func187,Tryz.ntmps187
 go_wp2_with fail
 refine (I1.out _).mono ?_
 rintro e w1 ⟨rfl,rfl⟩
 go_wp2_with fail
 go_ret
 exact ⟨rfl,HB.out⟩
end Go.Proofs.LB
namespace Go.Proofs.LB
open Go.RowKit Go.Proofs.LF
variable {P:Program}
def heldI (v:Value):Option (DataW Value × List MemPlace):=some (.held v,[])
def vy_ (P:Program) (k:TypeId) (b n:Nat) (f:Nat→Option Value) (w:World):Prop:=
 ∃ D:DataW Value,w.ownsMap P k heldI b n D∧∀ s:Nat,s ≤ 1000→Maps.has D (.int .i64 s) = (f s).isSome∧∀ v,f s = some v→∀ z,D.atKey (.int .i64 s) z = .held v
theorem vy_.made (k:TypeId) (w:World):vy_ P k w.heap.size 0 (fun _=>none) (w.alloc (.map #[] 0)):=
 ⟨_,World.ownsMap_made _ _ _ _,fun s _=>⟨by simp [Maps.has],fun v h=>by cases h⟩⟩
theorem vy_.kept {k:TypeId} {b n:Nat} {f:Nat→Option Value} {w w':World} (h:vy_ P k b n f w) (hb:w'.heap[b]? = w.heap[b]?):vy_ P k b n f w':=by
 obtain ⟨D,⟨es,clock,h1,h2⟩,h3⟩:=h
 exact ⟨D,⟨es,clock,hb.trans h1,h2⟩,h3⟩
theorem vy_.lt {k:TypeId} {b n:Nat} {f:Nat→Option Value} {w:World} (h:vy_ P k b n f w):b < w.heap.size:=let ⟨_,h1,_⟩:=h;h1.lt
theorem keyI {k:TypeId} (hk:P.underlying k = some (.int .i64)) (s:Nat) (hs:s ≤ 1000):keyOf P k (.int .i64 s) = some (.int .i64 s):=
 Maps.keyOf_int_mk hk (by simp [Lit.wf,IntKind.min,IntKind.max,IntKind.signed,IntKind.bits];omega)
theorem vy_.look {t k e:TypeId} {b n:Nat} {f:Nat→Option Value} {w:World} (h:vy_ P k b n f w) (ht:P.underlying t = some (.map k e)) (hk:P.underlying k = some (.int .i64)) {z:Value} (hz:(zeroValue e).run P w = .ok z w)
 (s:Nat) (hs:s ≤ 1000):(Instr.lookup t (.map (some b)) (.int .i64 s) false).run P w = .ok ((f s).getD z) w:=by
 obtain ⟨D,h1,h2⟩:=h
 obtain ⟨v,ps,hrun,hv⟩:=h1.lookup (Maps.int_keyed hk) ht (zd := .held z) (zp:=[]) hz rfl (keyI hk s hs)
 obtain ⟨h3,h4⟩:=h2 s hs
 rw [hrun]
 simp only [heldI,Option.some.injEq,Prod.mk.injEq] at hv
 cases hf:f s with
 | none=>
   rw [hf] at h3
   rw [Maps.atKey_of_not_has h3] at hv
   have:v = z:=by simpa using hv.1
   rw [this];rfl
 | some u=>
   rw [h4 u hf] at hv
   have:v = u:=by simpa using hv.1
   rw [this];rfl
theorem vy_.put {t k e:TypeId} {b n:Nat} {f:Nat→Option Value} {w:World} (h:vy_ P k b n f w) (ht:P.underlying t = some (.map k e)) (hk:P.underlying k = some (.int .i64))
 (s:Nat) (hs:s ≤ 1000) (hn:n < maxLen) (v:Value):∃ w',(Instr.mapUpdate t (.map (some b)) (.int .i64 s) v).run P w = .ok () w'∧vy_ P k b (n + 1) (fun q=>if q = s then some v else f q) w'∧w.grownBy w' (some b):=by
 obtain ⟨D,h1,h2⟩:=h
 obtain ⟨w',hrun,h3,h4⟩:=h1.update (Maps.int_keyed hk) ht hn (keyI hk s hs) (val:=v) (d := .held v) (ps:=[]) rfl
 refine ⟨w',hrun,⟨_,h3,fun q hq9=>?_⟩,h4⟩
 by_cases hq:q = s
 · subst hq
   refine ⟨by rw [Maps.has_put_same h1.isMap (by trivial)];simp,fun u hu z=>?_⟩
   simp only [if_true,Option.some.injEq] at hu
   subst hu
   rw [Maps.atKey_put_same h1.isMap (by trivial)]
 · obtain ⟨h5,h6⟩:=h2 q hq9
   have hqi:¬ (q:Int) = (s:Int):=by omega
   refine ⟨by rw [Maps.has_put_other (by simpa using hqi),h5];simp only [if_neg hq],fun u hu z=>?_⟩
   simp only [if_neg hq] at hu
   rw [Maps.atKey_put_other (by simpa using hqi),h6 u hu]
end Go.Proofs.LB
namespace Go.Proofs.LB
open Go.RowKit Go.Sort Go.Proofs.LF
set_option maxHeartbeats 4000000
set_option maxRecDepth 100000
attribute [local go_sem] q1_ q2_ q8_
def yn_:Rd Mo 6 where
 R _ _ x cs:=cs = (moC x).toList
 len:=by rintro S w x cs rfl;rfl
 one:=by rintro S w x cs rfl u hu;simp [moC] at hu;rcases hu with rfl | rfl | rfl | rfl | rfl | rfl <;> rfl
 agree:=by rintro S w w' x cs rfl _;rfl
 wide:=by rintro S w w' x cs rfl _;rfl
theorem qP_ {fn:Func} {p:Tmp} {ty:TypeId} (h:fn.results = #[.cell p ty]) (tmps:Array Value) (P:Program) (w:World):(results fn tmps).run P w = ((asAddr (tmps.getD p undef)).run P w).andThen fun a w₁=>(loadVar ty a).run P w₁:=by
 simp only [results,h]
 simp [Sem.run_bind,Result.andThen]
theorem ret81 {f:Func} {r:Nat} (hr:f.results = #[.cell r 81]) {tmps:Array Value} {W:World} {b:Nat} {x y:Value} (h:W.heap[b]? = some (.cells #[x,y] 81 (0,0))) (h2:tmps.getD r undef = .pointer (some ⟨b,0,none⟩)) :
 (results f tmps).run Tryz.prog W = .ok (.agg #[x,y]) W:=by
 have h0:=cg_ h (k:=0) rfl
 have h1:=cg_ h (k:=1) rfl
 rw [qP_ hr,h2]
 simp [go_sem,h0,h1]
theorem set2 {W:World} {b:Nat} {t:TypeId} {x y x' y':Value} (h:W.heap[b]? = some (.cells #[x,y] t (0,0))):((W.setCell ⟨b,0,none⟩ x').setCell ⟨b,1,none⟩ y').heap[b]? = some (.cells #[x',y'] t (0,0)):=by
 simp [World.setCell,Array.getElem?_modify,h]
theorem worst_any (x:Mo) (w:World):Calls Tryz.prog 198 #[.agg (moC x)] w fun e w'=>e = .returned (.agg #[.int .i64 x.sl, .int .i64 x.th])∧Below w.heap.size w w':=by
 obtain ⟨w1,hw1⟩:∃ w1,w.alloc (.cells (moC x) 79) = w1:=⟨_,rfl⟩
 have hb1:Below w.heap.size w w1:=by rw [← hw1];exact (Below.refl _ _).alloc (nl_ _) _
 have hn:w1.heap[w.heap.size]? = some (.cells (moC x) 79 (0,0)):=by rw [← hw1];exact ha_ _ _
 obtain ⟨w2,hw2⟩:∃ w2,w1.alloc (.cells #[.int .i64 0, .int .i64 0] 81) = w2:=⟨_,rfl⟩
 have hz1:=hb1.size
 have hlt:w.heap.size < w1.heap.size:=(ge_ hn).1
 have hb2:Below w.heap.size w w2:=by rw [← hw2];exact hb1.alloc hz1 _
 have hn2:w2.heap[w.heap.size]? = some (.cells (moC x) 79 (0,0)):=by rw [← hw2];exact (heap_alloc_old _ _ hlt).trans hn
 have hr2:w2.heap[w1.heap.size]? = some (.cells #[.int .i64 0, .int .i64 0] 81 (0,0)):=by rw [← hw2];exact ha_ _ _
 unfold moC at *
 have q0:=cg_ hn2 (k:=0) rfl
 have q1:=cg_ hn2 (k:=1) rfl
 have q2:=cg_ hn2 (k:=2) rfl
 have q3:=cg_ hn2 (k:=3) rfl
 have q4:=cg_ hn2 (k:=4) rfl
 have q5:=cg_ hn2 (k:=5) rfl
 have p0:=cg_ hr2 (k:=0) rfl
 have p1:=cg_ hr2 (k:=1) rfl
 have f0:=q5_ hr2 (k:=0)
 have f1:=q5_ hr2 (k:=1)
 have HR2:=hid hr2
 have HB2:=hid hb2
 have HZ:=hid hz1
 clear hn hn2 hr2 hb1 hb2 hz1 hlt
 go_enter Tryz.func198,Tryz.ntmps198
 go_wp2_with fail
 refine bodyPost_ret (v := .agg #[.int .i64 x.sl, .int .i64 x.th]) (ret81 rfl (set2 HR2.out) rfl) rfl ?_
 exact ⟨rfl,Below.setCell (Below.setCell HB2.out (p:=⟨w1.heap.size,0,none⟩) HZ.out _) (p:=⟨w1.heap.size,1,none⟩) HZ.out _⟩
theorem best_any (x:Mo) (w:World):Calls Tryz.prog 199 #[.agg (moC x)] w fun e w'=>e = .returned (.agg #[.int .i64 x.sh, .int .i64 x.tl])∧Below w.heap.size w w':=by
 obtain ⟨w1,hw1⟩:∃ w1,w.alloc (.cells (moC x) 79) = w1:=⟨_,rfl⟩
 have hb1:Below w.heap.size w w1:=by rw [← hw1];exact (Below.refl _ _).alloc (nl_ _) _
 have hn:w1.heap[w.heap.size]? = some (.cells (moC x) 79 (0,0)):=by rw [← hw1];exact ha_ _ _
 obtain ⟨w2,hw2⟩:∃ w2,w1.alloc (.cells #[.int .i64 0, .int .i64 0] 81) = w2:=⟨_,rfl⟩
 have hz1:=hb1.size
 have hlt:w.heap.size < w1.heap.size:=(ge_ hn).1
 have hb2:Below w.heap.size w w2:=by rw [← hw2];exact hb1.alloc hz1 _
 have hn2:w2.heap[w.heap.size]? = some (.cells (moC x) 79 (0,0)):=by rw [← hw2];exact (heap_alloc_old _ _ hlt).trans hn
 have hr2:w2.heap[w1.heap.size]? = some (.cells #[.int .i64 0, .int .i64 0] 81 (0,0)):=by rw [← hw2];exact ha_ _ _
 unfold moC at *
 have q0:=cg_ hn2 (k:=0) rfl
 have q1:=cg_ hn2 (k:=1) rfl
 have q2:=cg_ hn2 (k:=2) rfl
 have q3:=cg_ hn2 (k:=3) rfl
 have q4:=cg_ hn2 (k:=4) rfl
 have q5:=cg_ hn2 (k:=5) rfl
 have p0:=cg_ hr2 (k:=0) rfl
 have p1:=cg_ hr2 (k:=1) rfl
 have f0:=q5_ hr2 (k:=0)
 have f1:=q5_ hr2 (k:=1)
 have HR2:=hid hr2
 have HB2:=hid hb2
 have HZ:=hid hz1
 clear hn hn2 hr2 hb1 hb2 hz1 hlt
 go_enter Tryz.func199,Tryz.ntmps199
 go_wp2_with fail
 refine bodyPost_ret (v := .agg #[.int .i64 x.sh, .int .i64 x.tl]) (ret81 rfl (set2 HR2.out) rfl) rfl ?_
 exact ⟨rfl,Below.setCell (Below.setCell HB2.out (p:=⟨w1.heap.size,0,none⟩) HZ.out _) (p:=⟨w1.heap.size,1,none⟩) HZ.out _⟩
theorem i64_mul {n g:Int} (hn:0 ≤ n∧n ≤ 120) (hg:0 ≤ g∧g ≤ 100):0 ≤ n * g∧n * g ≤ 12000:=
 ⟨Int.mul_nonneg hn.1 hg.1,Int.le_trans (Int.mul_le_mul hn.2 hg.2 hg.1 (by omega)) (by omega)⟩
theorem xE_ (room first uns:Int) (ms:List Mo) (am:Option Addr) (cm:Nat) (ss:Value) (m:Nat) (x:Mo) (n s t:Int) (S:Nat→Prop) (w:World) (hm:LSl yn_ S w (.slice am ms.length cm) ms) (hS:∀ b,S b→b < w.heap.size) (hx:ms[m]? = some x)
 (hn:0 ≤ n∧n ≤ 120) (hg:0 ≤ x.g∧x.g ≤ 100) (hs:0 ≤ s∧s ≤ 60) (ht:0 ≤ t∧t ≤ 60) (hr:0 ≤ room∧room ≤ 120) :
 Calls Tryz.prog 197 #[.agg (z7_ room first uns (.slice am ms.length cm) ss), .int .i64 m, .int .i64 n, .agg #[.int .i64 s, .int .i64 t]] w fun e w'=>e = .returned (.int .i64 (grs room x.g n s t))∧Below w.heap.size w w':=by
 obtain ⟨_,_,he,_,hmm,hat⟩:=LSl.at hm
 cases he
 obtain ⟨hlt,hxe⟩:=List.getElem?_eq_some_iff.1 hx
 obtain ⟨g,o,cs,rfl,hg1,hc,hcell⟩:=hat m hlt
 rw [hxe] at hc
 have hc:cs = (moC x).toList:=hc
 subst hc
 have e0:=hcell 0 _ rfl
 rw [Nat.add_zero] at e0
 have hgl:=hS g hg1
 clear hat hcell hm hS hxe hg1
 unfold maxLen at hmm
 obtain ⟨p0,p1⟩:=i64_mul hn hg
 have hG:grs room x.g n s t = max 0 (min room (n + (n * x.g).tdiv 100 + s) - t):=rfl
 obtain ⟨P,hP⟩:∃ P,n * x.g = P:=⟨_,rfl⟩
 rw [hP] at p0 p1 hG
 have hq0:0 ≤ P.tdiv 100∧P.tdiv 100 ≤ 120:=by
  rw [Int.tdiv_eq_ediv_of_nonneg p0];omega
 obtain ⟨Q,hQ⟩:∃ Q,P.tdiv 100 = Q:=⟨_,rfl⟩
 rw [hQ] at hq0 hG
 have hE:=hid (show max 0 (min room (n + Q + s) - t) = grs room x.g n s t from hG.symm)
 have hmI:(m:Int) < (ms.length:Int):=by omega
 have hm0:(0:Int) ≤ (m:Int):=by omega
 obtain ⟨w1,hw1⟩:∃ w1,w.alloc (.cells (z7_ room first uns (.slice (some ⟨g,o,none⟩) ms.length cm) ss) 26) = w1:=⟨_,rfl⟩
 have hb1:Below w.heap.size w w1:=by rw [← hw1];exact (Below.refl _ _).alloc (nl_ _) _
 have hn1:w1.heap[w.heap.size]? = some (.cells (z7_ room first uns (.slice (some ⟨g,o,none⟩) ms.length cm) ss) 26 (0,0)):=by rw [← hw1];exact ha_ _ _
 have hz1:=hb1.size
 have hlt1:w.heap.size < w1.heap.size:=(ge_ hn1).1
 obtain ⟨w2,hw2⟩:∃ w2,w1.alloc (.cells #[.int .i64 s, .int .i64 t] 81) = w2:=⟨_,rfl⟩
 have hb2:Below w.heap.size w w2:=by rw [← hw2];exact hb1.alloc hz1 _
 have hn2:w2.heap[w.heap.size]? = some (.cells (z7_ room first uns (.slice (some ⟨g,o,none⟩) ms.length cm) ss) 26 (0,0)):=by rw [← hw2];exact (heap_alloc_old _ _ hlt1).trans hn1
 have hr2:w2.heap[w1.heap.size]? = some (.cells #[.int .i64 s, .int .i64 t] 81 (0,0)):=by rw [← hw2];exact ha_ _ _
 have e2:=bc_ hb2 hgl e0
 have hz2:=hb2.size
 have hlt2:w1.heap.size < w2.heap.size:=(ge_ hr2).1
 obtain ⟨ba,hba⟩:∃ b,w.heap.size = b:=⟨_,rfl⟩
 obtain ⟨bc,hbc⟩:∃ b,w1.heap.size = b:=⟨_,rfl⟩
 rw [hba] at hn2 hlt1 hgl
 rw [hbc] at hr2 hlt1 hlt2
 unfold z7_ at hn2
 have hS0:w2.cell? ⟨ba,0,none⟩ = some (.int .i64 room)∧w2.cell? ⟨ba,3,none⟩ = some (.slice (some ⟨g,o,none⟩) ms.length cm)∧w2.cell? ⟨g,o + m * 6,none⟩ = some (.int .i64 x.g)∧w2.cell? ⟨bc,0,none⟩ = some (.int .i64 s)∧w2.cell? ⟨bc,1,none⟩ = some (.int .i64 t):=⟨cg_ hn2 (k:=0) rfl,cg_ hn2 (k:=3) rfl,e2,cg_ hr2 (k:=0) rfl,cg_ hr2 (k:=1) rfl⟩
 have HB2:=hid hb2
 have hwr1:IntKind.i64.wrap P = P:=IntWalk.i64_in _ (by omega)
 have hwr2:IntKind.i64.wrap Q = Q:=IntWalk.i64_in _ (by omega)
 have hwr3:IntKind.i64.wrap (n + Q) = n + Q:=IntWalk.i64_in _ (by omega)
 have hwr4:IntKind.i64.wrap (n + Q + s) = n + Q + s:=IntWalk.i64_in _ (by omega)
 have hwr5:IntKind.i64.wrap (min room (n + Q + s) - t) = min room (n + Q + s) - t:=IntWalk.i64_in _ (by omega)
 clear hn1 hn2 hr2 hb1 hb2 e0 e2 hz1 hG
 unfold z7_ at hw1 ⊢
 go_enter Tryz.func197,Tryz.ntmps197
 go_upto_region 1 with fail
 have HS0:=hid hS0
 have hlb:ba < w2.heap.size:=by omega
 have hlg:g < w2.heap.size:=by omega
 have SC:=hid (fun (W:World) (h:Below w2.heap.size w2 W)=>show W.cell? ⟨ba,0,none⟩ = some (.int .i64 room)∧W.cell? ⟨ba,3,none⟩ = some (.slice (some ⟨g,o,none⟩) ms.length cm)∧W.cell? ⟨g,o + m * 6,none⟩ = some (.int .i64 x.g)∧W.cell? ⟨bc,0,none⟩ = some (.int .i64 s)∧W.cell? ⟨bc,1,none⟩ = some (.int .i64 t) from ⟨bc_ h hlb HS0.out.1,bc_ h hlb HS0.out.2.1,bc_ h hlg HS0.out.2.2.1,bc_ h hlt2 HS0.out.2.2.2.1,bc_ h hlt2 HS0.out.2.2.2.2⟩)
 clear hS0
 try rw [hw1]
 try rw [hw2]
 have BD:=hid (show Below w2.heap.size w2 w2.drew from (Below.refl _ w2).drew)
 have hS0:=SC.out _ BD.out
 refine (wpIn_wide (n:=9)).1 ?_
 refine q6_ (fun W:World=>W.cell? ⟨ba,0,none⟩ = some (.int .i64 room)∧W.cell? ⟨ba,3,none⟩ = some (.slice (some ⟨g,o,none⟩) ms.length cm)∧W.cell? ⟨g,o + m * 6,none⟩ = some (.int .i64 x.g)∧W.cell? ⟨bc,0,none⟩ = some (.int .i64 s)∧W.cell? ⟨bc,1,none⟩ = some (.int .i64 t)) (by kernel_rfl) ?_
 refine tkZ 0 9 (.pointer (some ⟨ba,0,none⟩)) rfl rfl hS0 ?_
 refine tkZ 1 10 (.int .i64 room) rfl rfl hS0 ?_
 refine tkZ 2 11 (.int .i64 n) rfl rfl hS0 ?_
 refine tkZ 3 12 (.int .i64 n) rfl rfl hS0 ?_
 refine tkZ 4 13 (.pointer (some ⟨ba,3,none⟩)) rfl rfl hS0 ?_
 refine tkZ 5 14 (.slice (some ⟨g,o,none⟩) ms.length cm) rfl rfl hS0 ?_
 refine tkZ 6 15 (.int .i64 m) rfl rfl hS0 ?_
 refine tkZ 7 16 (.pointer (some ⟨g,o + m * 6,none⟩)) rfl rfl hS0 ?_
 refine tkZ 8 17 (.pointer (some ⟨g,o + m * 6,none⟩)) rfl rfl hS0 ?_
 refine tkZ 9 18 (.int .i64 x.g) rfl rfl hS0 ?_
 refine tkZ 10 19 (.int .i64 P) rfl rfl hS0 ?_
 refine tkZ 11 20 (.int .i64 Q) rfl rfl hS0 ?_
 refine tkZ 12 21 (.int .i64 (n + Q)) rfl rfl hS0 ?_
 refine tkZ 13 22 (.pointer (some ⟨bc,0,none⟩)) rfl rfl hS0 ?_
 refine tkZ 14 23 (.int .i64 s) rfl rfl hS0 ?_
 refine tkZ 15 24 (.int .i64 (n + Q + s)) rfl rfl hS0 ?_
 refine tkZ 16 25 (.int .i64 (min room (n + Q + s))) rfl rfl hS0 ?_
 refine tkZ 17 26 (.pointer (some ⟨bc,1,none⟩)) rfl rfl hS0 ?_
 refine tkZ 18 27 (.int .i64 t) rfl rfl hS0 ?_
 refine tkZ 19 28 (.int .i64 (min room (n + Q + s) - t)) rfl rfl hS0 ?_
 obtain ⟨w3,hw3⟩:∃ w3,w2.drew = w3:=⟨_,rfl⟩
 rw [hw3] at BD ⊢
 clear hw3 hS0
 refine aHO 20 rfl fun K hK=>?_
 go_simp
 have hb:=(Below.refl w3.heap.size w3).alloc (nl_ _) (.cells #[.int .i64 (min room (n + Q + s) - t)] 3)
 have hk:=ha_ w3 (.cells #[.int .i64 (min room (n + Q + s) - t)] 3)
 obtain ⟨w4,hw4⟩:∃ w4,w3.alloc (.cells #[.int .i64 (min room (n + Q + s) - t)] 3) = w4:=⟨_,rfl⟩
 rw [hw4] at hb hk ⊢
 have BE:=hid (BD.out.trans (hb.mono BD.out.size))
 have c4:=cg_ hk (k:=0) rfl
 have GR:=hid (great1 0 (min room (n + Q + s) - t) w3.heap.size 0 1 w4 c4)
 refine hK _ _ ⟨SC.out _ BE.out,?_⟩
 clear hK hb hk hw4 c4
 refine aHO 21 rfl fun K hK=>?_
 go_simp
 refine ⟨trivial,(callsIn_wide.2 GR.out).mono ?_⟩
 rintro e w5 ⟨rfl,hw5⟩
 subst hw5
 rw [hE.out]
 refine hK _ _ ⟨SC.out _ BE.out,?_⟩
 clear hK GR
 have hS9:=SC.out _ BE.out
 refine tkY 22 8 (.int .i64 (grs room x.g n s t)) rfl rfl hS9 (fun w' hs=>?_) ?_
 · go_simp
 refine q7_ (by kernel_rfl) ?_
 go_simp
 go_wp2_with fail
 go_ret
 exact ⟨rfl,HB2.out.trans (BE.out.mono (by omega))⟩
def PredB (g:Nat) (bv:Value) (w:World) (x:Value) (b:Bool):Prop:=
 ∀ W,Below w.heap.size w W→Calls Tryz.prog g #[bv,x] W fun e w'=>e = .returned (.bool b)∧Below W.heap.size W w'
theorem idx_mo (g:Nat) (hE:LF.zn_ g) (p:Nat→Bool) (caps:List Value) (n:Nat) (a:Option Addr) (c:Nat) (cs:List Value) (S:Nat→Prop) (w:World) (hl:SlC S w 6 (.slice a n c) n cs) (hS:∀ b,S b→b < w.heap.size) (hlen:n ≤ 100000)
 (hp:∀ i,i < n→zB_ g caps w [qB_ 6 cs i] (p i)) :
 Calls Tryz.prog 226 #[.slice a n c, .func (.func g) #[] caps.toArray] w fun e w'=>e = .returned (.int .i64 (idxN p n))∧Below w.heap.size w w':=by
 have hE':∀ (args:Array Value) (W:World),Sem.run Tryz.prog (callFunc g args) W = .ok (.enter g args) W:=hE
 clear hE
 go_enter Tryz.func226,Tryz.ntmps226
 go_wp2_with fail
 go_loopw [8] (fun i wr=>∃ k:Nat,k ≤ n∧i = .int .i64 k∧Hid (∀ j,j < k→p j = false)∧Below w.heap.size w wr) (fun i _=>n - (intOf i).toNat)
 case atStart=>exact ⟨0,by omega,rfl,by intro j hj;omega,Below.refl _ _⟩
 case round=>
  obtain ⟨k,hk,rfl,H2,hB⟩:=hrel
  have HP:=hid hp
  clear hp
  by_cases hlt:k < n
  · obtain ⟨g',o,rfl,hg,_,_,hcell⟩:=SlC.cells hl (by omega)
    have hx0:=(qc_ (S:=S) hB hS).cell hg (hcell (k * 6) _ (qf_ (by have:=hl.1;omega)))
    have hx1:=(qc_ (S:=S) hB hS).cell hg (hcell (k * 6 + 1) _ (qf_ (by have:=hl.1;omega)))
    have hx2:=(qc_ (S:=S) hB hS).cell hg (hcell (k * 6 + 2) _ (qf_ (by have:=hl.1;omega)))
    have hx3:=(qc_ (S:=S) hB hS).cell hg (hcell (k * 6 + 3) _ (qf_ (by have:=hl.1;omega)))
    have hx4:=(qc_ (S:=S) hB hS).cell hg (hcell (k * 6 + 4) _ (qf_ (by have:=hl.1;omega)))
    have hx5:=(qc_ (S:=S) hB hS).cell hg (hcell (k * 6 + 5) _ (qf_ (by have:=hl.1;omega)))
    simp only [← Nat.add_assoc] at hx1 hx2 hx3 hx4 hx5
    clear hcell
    go_wp2_with fail
    refine (HP.out k hlt _ hB).mono ?_
    rintro e w' ⟨rfl,hb'⟩
    cases hpx:p k with
    | true=>
      have HX:=hid hpx
      clear hpx
      go_wp2_with fail
      go_ret
      exact ⟨qd_ (qU_ H2.out hlt HX.out).symm,hB.trans (hb'.mono hB.size)⟩
    | false=>
      have HX:=hid hpx
      clear hpx
      go_wp2_with fail
      go_roundw
      case rel=>exact ⟨k + 1,by omega,by go_num,fun j hj=>by rcases Nat.lt_succ_iff_lt_or_eq.1 hj with h | h;exact H2.out j h;rw [h];exact HX.out,hB.trans (hb'.mono hB.size)⟩
      case measure=>simp [intOf];omega
  · go_wp2_with fail
    go_ret
    obtain rfl:k = n:=by omega
    exact ⟨qd_ (zb_ H2.out).symm,hB⟩
theorem contf_mo (g:Nat) (hE:LF.zn_ g) (p:Nat→Bool) (caps:List Value) (n:Nat) (a:Option Addr) (c:Nat) (cs:List Value) (S:Nat→Prop) (w:World) (hl:SlC S w 6 (.slice a n c) n cs) (hS:∀ b,S b→b < w.heap.size) (hlen:n ≤ 100000)
 (hp:∀ i,i < n→zB_ g caps w [qB_ 6 cs i] (p i)) :
 Calls Tryz.prog 215 #[.slice a n c, .func (.func g) #[] caps.toArray] w fun e w'=>e = .returned (.bool (wc_ p n))∧Below w.heap.size w w':=by
 have HP:=hid hp
 clear hp
 go_enter Tryz.func215,Tryz.ntmps215
 go_wp2_with fail
 refine (idx_mo g hE p caps n a c cs S w hl hS hlen HP.out).mono ?_
 rintro e w' ⟨rfl,hb⟩
 go_wp2_with fail
 go_ret
 exact ⟨qj_ (zw_ p n),hb⟩
theorem idx_su (g:Nat) (hE:LF.zn_ g) (p:Nat→Bool) (caps:List Value) (n:Nat) (a:Option Addr) (c:Nat) (cs:List Value) (S:Nat→Prop) (w:World) (hl:SlC S w 3 (.slice a n c) n cs) (hS:∀ b,S b→b < w.heap.size) (hlen:n ≤ 100000)
 (hp:∀ i,i < n→zB_ g caps w [qB_ 3 cs i] (p i)) :
 Calls Tryz.prog 227 #[.slice a n c, .func (.func g) #[] caps.toArray] w fun e w'=>e = .returned (.int .i64 (idxN p n))∧Below w.heap.size w w':=by
 have hE':∀ (args:Array Value) (W:World),Sem.run Tryz.prog (callFunc g args) W = .ok (.enter g args) W:=hE
 clear hE
 go_enter Tryz.func227,Tryz.ntmps227
 go_wp2_with fail
 go_loopw [8] (fun i wr=>∃ k:Nat,k ≤ n∧i = .int .i64 k∧Hid (∀ j,j < k→p j = false)∧Below w.heap.size w wr) (fun i _=>n - (intOf i).toNat)
 case atStart=>exact ⟨0,by omega,rfl,by intro j hj;omega,Below.refl _ _⟩
 case round=>
  obtain ⟨k,hk,rfl,H2,hB⟩:=hrel
  have HP:=hid hp
  clear hp
  by_cases hlt:k < n
  · obtain ⟨g',o,rfl,hg,_,_,hcell⟩:=SlC.cells hl (by omega)
    have hx0:=(qc_ (S:=S) hB hS).cell hg (hcell (k * 3) _ (qf_ (by have:=hl.1;omega)))
    have hx1:=(qc_ (S:=S) hB hS).cell hg (hcell (k * 3 + 1) _ (qf_ (by have:=hl.1;omega)))
    have hx2:=(qc_ (S:=S) hB hS).cell hg (hcell (k * 3 + 2) _ (qf_ (by have:=hl.1;omega)))
    simp only [← Nat.add_assoc] at hx1 hx2
    clear hcell
    go_wp2_with fail
    refine (HP.out k hlt _ hB).mono ?_
    rintro e w' ⟨rfl,hb'⟩
    cases hpx:p k with
    | true=>
      have HX:=hid hpx
      clear hpx
      go_wp2_with fail
      go_ret
      exact ⟨qd_ (qU_ H2.out hlt HX.out).symm,hB.trans (hb'.mono hB.size)⟩
    | false=>
      have HX:=hid hpx
      clear hpx
      go_wp2_with fail
      go_roundw
      case rel=>exact ⟨k + 1,by omega,by go_num,fun j hj=>by rcases Nat.lt_succ_iff_lt_or_eq.1 hj with h | h;exact H2.out j h;rw [h];exact HX.out,hB.trans (hb'.mono hB.size)⟩
      case measure=>simp [intOf];omega
  · go_wp2_with fail
    go_ret
    obtain rfl:k = n:=by omega
    exact ⟨qd_ (zb_ H2.out).symm,hB⟩
theorem contf_su (g:Nat) (hE:LF.zn_ g) (p:Nat→Bool) (caps:List Value) (n:Nat) (a:Option Addr) (c:Nat) (cs:List Value) (S:Nat→Prop) (w:World) (hl:SlC S w 3 (.slice a n c) n cs) (hS:∀ b,S b→b < w.heap.size) (hlen:n ≤ 100000)
 (hp:∀ i,i < n→zB_ g caps w [qB_ 3 cs i] (p i)) :
 Calls Tryz.prog 217 #[.slice a n c, .func (.func g) #[] caps.toArray] w fun e w'=>e = .returned (.bool (wc_ p n))∧Below w.heap.size w w':=by
 have HP:=hid hp
 clear hp
 go_enter Tryz.func217,Tryz.ntmps217
 go_wp2_with fail
 refine (idx_su g hE p caps n a c cs S w hl hS hlen HP.out).mono ?_
 rintro e w' ⟨rfl,hb⟩
 go_wp2_with fail
 go_ret
 exact ⟨qj_ (zw_ p n),hb⟩
theorem every1_mo (g:Nat) (hE:LF.zn_ g) (bv:Value) (x0 x1 x2 x3 x4 x5:Value) (b:Bool) (bx:Nat) (W:World) (hbx:W.cell? ⟨bx,0,none⟩ = some (.func (.func g) #[bv] #[])) (hbl:bx < W.heap.size)
 (h:∀ W',Below W.heap.size W W'→Calls Tryz.prog g #[bv, .agg #[x0,x1,x2,x3,x4,x5]] W' fun e w'=>e = .returned (.bool b)∧Below W'.heap.size W' w') :
 Calls Tryz.prog 216 #[.agg #[x0,x1,x2,x3,x4,x5], .pointer (some ⟨bx,0,none⟩)] W fun e w'=>e = .returned (.bool (!b))∧Below W.heap.size W w':=by
 have hE':∀ (args:Array Value) (W:World),Sem.run Tryz.prog (callFunc g args) W = .ok (.enter g args) W:=hE
 clear hE
 obtain ⟨W1,hW1⟩:∃ W1,W.alloc (.cells #[x0,x1,x2,x3,x4,x5] 79) = W1:=⟨_,rfl⟩
 have hb1:Below W.heap.size W W1:=by rw [← hW1];exact (Below.refl _ _).alloc (nl_ _) _
 have hn1:W1.heap[W.heap.size]? = some (.cells #[x0,x1,x2,x3,x4,x5] 79 (0,0)):=by rw [← hW1];exact ha_ _ _
 have hz1:=hb1.size
 have hb2:=bc_ hb1 hbl hbx
 have r0:=cg_ hn1 (k:=0) rfl
 have r1:=cg_ hn1 (k:=1) rfl
 have r2:=cg_ hn1 (k:=2) rfl
 have r3:=cg_ hn1 (k:=3) rfl
 have r4:=cg_ hn1 (k:=4) rfl
 have r5:=cg_ hn1 (k:=5) rfl
 have HB:=hid hb1
 clear hn1 hb1
 have H:=hid (h W1 HB.out)
 clear h
 go_enter Tryz.func216,Tryz.ntmps216
 go_wp2_with fail
 refine H.out.mono ?_
 rintro e w' ⟨rfl,hb⟩
 go_wp2_with fail
 go_ret
 exact ⟨rfl,HB.out.trans (hb.mono hz1)⟩
theorem enters216:LF.zn_ 216:=by
 intro args W
 simp [go_sem]
theorem every_mo (g:Nat) (hE:LF.zn_ g) (p:Nat→Bool) (bv:Value) (n:Nat) (a:Option Addr) (c:Nat) (cs:List Value) (S:Nat→Prop) (w:World) (hl:SlC S w 6 (.slice a n c) n cs) (hS:∀ b,S b→b < w.heap.size) (hlen:n ≤ 100000)
 (hp:∀ i,i < n→PredB g bv w (qB_ 6 cs i) (p i)) :
 Calls Tryz.prog 188 #[.slice a n c, .func (.func g) #[bv] #[]] w fun e w'=>e = .returned (.bool (wq_ p n))∧Below w.heap.size w w':=by
 have HP:=hid hp
 clear hp
 have hb0:Below w.heap.size w (w.alloc (.cells #[.func (.func g) #[bv] #[]] 303)):=(Below.refl _ _).alloc (nl_ _) _
 have hc0:=cg_ (ha_ w (.cells #[.func (.func g) #[bv] #[]] 303)) (k:=0) rfl
 have CT:=hid (contf_mo 216 enters216 (fun i=>!p i) [.pointer (some ⟨w.heap.size,0,none⟩)] n a c cs S _ (SlC.agree hl (qc_ (B:=w.heap.size) hb0 hS)) (fun b hb=>by have:=hS b hb;simp;omega) hlen (fun i hi W hW=>by
  have hW2:=hb0.trans (hW.mono (by simp))
  have:=every1_mo g hE bv _ _ _ _ _ _ (p i) w.heap.size W (bc_ hW (by simp) hc0) (by have:=hW.size;simp at this;omega) (fun W' hW'=>HP.out i hi W' (hW2.trans (hW'.mono (by have:=hW2.size;omega))))
  exact this))
 have HB:=hid hb0
 clear hb0 hc0
 go_enter Tryz.func188,Tryz.ntmps188
 go_wp2_with fail
 refine CT.out.mono ?_
 rintro e w' ⟨rfl,hb⟩
 go_wp2_with fail
 go_ret
 exact ⟨rfl,HB.out.trans (hb.mono (by simp))⟩
theorem every1_su (g:Nat) (hE:LF.zn_ g) (caps:List Value) (x0 x1 x2:Value) (b:Bool) (bx:Nat) (W:World) (hbx:W.cell? ⟨bx,0,none⟩ = some (.func (.func g) #[] caps.toArray)) (hbl:bx < W.heap.size)
 (h:∀ W',Below W.heap.size W W'→Calls Tryz.prog g (.agg #[x0,x1,x2] :: caps).toArray W' fun e w'=>e = .returned (.bool b)∧Below W'.heap.size W' w') :
 Calls Tryz.prog 218 #[.agg #[x0,x1,x2], .pointer (some ⟨bx,0,none⟩)] W fun e w'=>e = .returned (.bool (!b))∧Below W.heap.size W w':=by
 have hE':∀ (args:Array Value) (W:World),Sem.run Tryz.prog (callFunc g args) W = .ok (.enter g args) W:=hE
 clear hE
 obtain ⟨W1,hW1⟩:∃ W1,W.alloc (.cells #[x0,x1,x2] 37) = W1:=⟨_,rfl⟩
 have hb1:Below W.heap.size W W1:=by rw [← hW1];exact (Below.refl _ _).alloc (nl_ _) _
 have hn1:W1.heap[W.heap.size]? = some (.cells #[x0,x1,x2] 37 (0,0)):=by rw [← hW1];exact ha_ _ _
 have hz1:=hb1.size
 have hb2:=bc_ hb1 hbl hbx
 have r0:=cg_ hn1 (k:=0) rfl
 have r1:=cg_ hn1 (k:=1) rfl
 have r2:=cg_ hn1 (k:=2) rfl
 have HB:=hid hb1
 clear hn1 hb1
 have H:=hid (h W1 HB.out)
 clear h
 go_enter Tryz.func218,Tryz.ntmps218
 go_wp2_with fail
 refine H.out.mono ?_
 rintro e w' ⟨rfl,hb⟩
 go_wp2_with fail
 go_ret
 exact ⟨rfl,HB.out.trans (hb.mono hz1)⟩
theorem enters218:LF.zn_ 218:=by
 intro args W
 simp [go_sem]
theorem yB_ (g:Nat) (hE:LF.zn_ g) (p:Nat→Bool) (caps:List Value) (n:Nat) (a:Option Addr) (c:Nat) (cs:List Value) (S:Nat→Prop) (w:World) (hl:SlC S w 3 (.slice a n c) n cs) (hS:∀ b,S b→b < w.heap.size) (hlen:n ≤ 100000)
 (hp:∀ i,i < n→zB_ g caps w [qB_ 3 cs i] (p i)) :
 Calls Tryz.prog 190 #[.slice a n c, .func (.func g) #[] caps.toArray] w fun e w'=>e = .returned (.bool (wq_ p n))∧Below w.heap.size w w':=by
 have HP:=hid hp
 clear hp
 have hb0:Below w.heap.size w (w.alloc (.cells #[.func (.func g) #[] caps.toArray] 306)):=(Below.refl _ _).alloc (nl_ _) _
 have hc0:=cg_ (ha_ w (.cells #[.func (.func g) #[] caps.toArray] 306)) (k:=0) rfl
 have CT:=hid (contf_su 218 enters218 (fun i=>!p i) [.pointer (some ⟨w.heap.size,0,none⟩)] n a c cs S _ (SlC.agree hl (qc_ (B:=w.heap.size) hb0 hS)) (fun b hb=>by have:=hS b hb;simp;omega) hlen (fun i hi W hW=>by
  have hW2:=hb0.trans (hW.mono (by simp))
  have:=every1_su g hE caps _ _ _ (p i) w.heap.size W (bc_ hW (by simp) hc0) (by have:=hW.size;simp at this;omega) (fun W' hW'=>HP.out i hi W' (hW2.trans (hW'.mono (by have:=hW2.size;omega))))
  exact this))
 have HB:=hid hb0
 clear hb0 hc0
 go_enter Tryz.func190,Tryz.ntmps190
 go_wp2_with fail
 refine CT.out.mono ?_
 rintro e w' ⟨rfl,hb⟩
 go_wp2_with fail
 go_ret
 exact ⟨rfl,HB.out.trans (hb.mono (by simp))⟩
theorem every1_i (g:Nat) (hE:LF.zn_ g) (caps:List Value) (x:Value) (b:Bool) (bx:Nat) (W:World) (hbx:W.cell? ⟨bx,0,none⟩ = some (.func (.func g) #[] caps.toArray)) (hbl:bx < W.heap.size)
 (h:∀ W',Below W.heap.size W W'→Calls Tryz.prog g (x :: caps).toArray W' fun e w'=>e = .returned (.bool b)∧Below W'.heap.size W' w') :
 Calls Tryz.prog 228 #[x, .pointer (some ⟨bx,0,none⟩)] W fun e w'=>e = .returned (.bool (!b))∧Below W.heap.size W w':=by
 have hE':∀ (args:Array Value) (W:World),Sem.run Tryz.prog (callFunc g args) W = .ok (.enter g args) W:=hE
 clear hE
 have H:=hid (h W (Below.refl _ _))
 clear h
 go_enter Tryz.func228,Tryz.ntmps228
 go_wp2_with fail
 refine H.out.mono ?_
 rintro e w' ⟨rfl,hb⟩
 go_wp2_with fail
 go_ret
 exact ⟨rfl,hb⟩
theorem enters228:LF.zn_ 228:=by
 intro args W
 simp [go_sem]
theorem every_i (g:Nat) (hE:LF.zn_ g) (p:Nat→Bool) (caps:List Value) (n:Nat) (a:Option Addr) (c:Nat) (cs:List Value) (S:Nat→Prop) (w:World) (hl:SlC S w 1 (.slice a n c) n cs) (hS:∀ b,S b→b < w.heap.size) (hlen:n ≤ 100000)
 (hp:∀ i,i < n→zB_ g caps w [qB_ 1 cs i] (p i)) :
 Calls Tryz.prog 219 #[.slice a n c, .func (.func g) #[] caps.toArray] w fun e w'=>e = .returned (.bool (wq_ p n))∧Below w.heap.size w w':=by
 have HP:=hid hp
 clear hp
 have hb0:Below w.heap.size w (w.alloc (.cells #[.func (.func g) #[] caps.toArray] 145)):=(Below.refl _ _).alloc (nl_ _) _
 have hc0:=cg_ (ha_ w (.cells #[.func (.func g) #[] caps.toArray] 145)) (k:=0) rfl
 have CT:=hid (yp_ 228 enters228 (fun i=>!p i) [.pointer (some ⟨w.heap.size,0,none⟩)] n a c cs S _ (SlC.agree hl (qc_ (B:=w.heap.size) hb0 hS)) (fun b hb=>by have:=hS b hb;simp;omega) hlen (fun i hi W hW=>by
  have hW2:=hb0.trans (hW.mono (by simp))
  have:=every1_i g hE caps _ (p i) w.heap.size W (bc_ hW (by simp) hc0) (by have:=hW.size;simp at this;omega) (fun W' hW'=>HP.out i hi W' (hW2.trans (hW'.mono (by have:=hW2.size;omega))))
  exact this))
 have HB:=hid hb0
 clear hb0 hc0
 go_enter Tryz.func219,Tryz.ntmps219
 go_wp2_with fail
 refine CT.out.mono ?_
 rintro e w' ⟨rfl,hb⟩
 go_wp2_with fail
 go_ret
 exact ⟨rfl,HB.out.trans (hb.mono (by simp))⟩
def suC (s:Su):Array Value:=#[.int .i64 s.m, .int .i64 s.lo, .int .i64 s.hi]
def vQ_:Rd Su 3 where
 R _ _ x cs:=cs = (suC x).toList
 len:=by rintro S w x cs rfl;rfl
 one:=by rintro S w x cs rfl u hu;simp [suC] at hu;rcases hu with rfl | rfl | rfl <;> rfl
 agree:=by rintro S w w' x cs rfl _;rfl
 wide:=by rintro S w w' x cs rfl _;rfl
structure OkMo (room:Int) (x:Mo):Prop where
 g:0 ≤ x.g∧x.g ≤ 100
 r:0 ≤ x.r∧x.r ≤ room
 s:0 ≤ x.sl∧x.sl ≤ x.sh∧x.sh ≤ 60
 t:0 ≤ x.tl∧x.tl ≤ x.th∧x.th ≤ 60
structure OkSu (room:Int) (M:Nat) (s:Su):Prop where
 b:0 ≤ s.lo∧s.lo ≤ s.hi∧s.hi ≤ room
 m:s.m ≤ M
structure OkBed (room first uns:Int) (ms:List Mo) (ss:List Su):Prop where
 rm:1 ≤ room∧room ≤ 120
 len:1 ≤ ms.length∧ms.length ≤ 10
 many:ss.length ≤ 8
 fi:0 ≤ first∧first ≤ room
 un:0 ≤ uns∧uns ≤ 40
 mo:∀ x ∈ ms,OkMo room x
 su:∀ s ∈ ss,OkSu room ms.length s
theorem in_ok {n lo hi:Int} (w:World) (h:lo ≤ n∧n ≤ hi):Calls Tryz.prog 149 #[.int .i64 n, .int .i64 lo, .int .i64 hi] w fun e w'=>e = .returned (.bool true)∧w' = w:=by
 have:=ze_ n lo hi w
 have e:inI n lo hi = true:=by simp [inI,h.1,h.2]
 rwa [e] at this
theorem kZ_ {slo shi lo hi:Int} (w:World) (h1:lo ≤ slo) (h2:slo ≤ shi) (h3:shi ≤ hi):Calls Tryz.prog 192 #[.agg #[.int .i64 slo, .int .i64 shi], .int .i64 lo, .int .i64 hi] w fun e w'=>e = .returned (.bool true)∧Below w.heap.size w w':=by
 have:=wj_ slo shi lo hi w
 have e:witI slo shi lo hi = true:=by
  have:slo ≤ hi:=by omega
  simp [witI,inI,h1,h2,h3,this]
 rwa [e] at this
theorem xZ_ {room first uns:Int} {ms ss:Value} {n:Int} (w:World) (h:0 ≤ n∧n ≤ room):Calls Tryz.prog 187 #[.agg (z7_ room first uns ms ss), .int .i64 n] w fun e w'=>e = .returned (.bool true)∧Below w.heap.size w w':=by
 have:=yU_ room first uns ms ss n w
 have e:inI n 0 room = true:=by simp [inI,h.1,h.2]
 rwa [e] at this
theorem q0_ {w w':World} {b:Nat} {o:Obj} (h:w.heap[b]? = some o) (hb:Below w.heap.size w w'):w'.heap[b]? = some o:=(hb.block b (ge_ h).1).trans h
theorem right_ok (room first uns:Int) (ms ss:Value) (x:Mo) (w:World) (hx:OkMo room x) (hr:room ≤ 120) :
 Calls Tryz.prog 189 #[.agg (z7_ room first uns ms ss), .agg (moC x)] w fun e w'=>e = .returned (.bool true)∧Below w.heap.size w w':=by
 obtain ⟨w1,hw1⟩:∃ w1,w.alloc (.cells (z7_ room first uns ms ss) 26) = w1:=⟨_,rfl⟩
 have hb1:Below w.heap.size w w1:=by rw [← hw1];exact (Below.refl _ _).alloc (nl_ _) _
 have hn1:w1.heap[w.heap.size]? = some (.cells (z7_ room first uns ms ss) 26 (0,0)):=by rw [← hw1];exact ha_ _ _
 obtain ⟨w2,hw2⟩:∃ w2,w1.alloc (.cells (moC x) 79) = w2:=⟨_,rfl⟩
 have hz1:=hb1.size
 have hb2:Below w1.heap.size w1 w2:=by rw [← hw2];exact (Below.refl _ _).alloc (nl_ _) _
 have BN:=hid (q0_ hn1 hb2)
 have MN:=hid (show w2.heap[w1.heap.size]? = some (.cells (moC x) 79 (0,0)) by rw [← hw2];exact ha_ _ _)
 have BW:=hid (hb1.trans (hb2.mono hz1))
 have HX:=hid hx
 clear hb1 hn1 hb2 hx
 obtain ⟨ba,hba⟩:∃ b,w.heap.size = b:=⟨_,rfl⟩
 obtain ⟨bm,hbm⟩:∃ b,w1.heap.size = b:=⟨_,rfl⟩
 rw [hba] at BN
 rw [hbm] at MN
 unfold z7_ moC at *
 go_enter Tryz.func189,Tryz.ntmps189
 go_upto_region 1 with fail
 try rw [hw1]
 try rw [hw2]
 try simp only [hba,hbm]
 clear hw1 hw2
 have m0:=cg_ MN.out (k:=0) (v := .int .i64 x.g) rfl
 have m1:=cg_ MN.out (k:=1) (v := .int .i64 x.r) rfl
 have m2:=cg_ MN.out (k:=2) (v := .int .i64 x.sl) rfl
 have m3:=cg_ MN.out (k:=3) (v := .int .i64 x.sh) rfl
 have m4:=cg_ MN.out (k:=4) (v := .int .i64 x.tl) rfl
 have m5:=cg_ MN.out (k:=5) (v := .int .i64 x.th) rfl
 have b0:=cg_ BN.out (k:=0) (v := .int .i64 room) rfl
 have b1:=cg_ BN.out (k:=1) (v := .int .i64 first) rfl
 have b2:=cg_ BN.out (k:=2) (v := .int .i64 uns) rfl
 have b3:=cg_ BN.out (k:=3) (v:=ms) rfl
 have b4:=cg_ BN.out (k:=4) (v:=ss) rfl
 go_wp2_with fail
 refine (in_ok _ HX.out.g).mono ?_
 rintro e v1 ⟨rfl,hq⟩
 subst hq
 clear m0 m1 m2 m3 m4 m5 b0 b1 b2 b3 b4
 have m0:=cg_ MN.out (k:=0) (v := .int .i64 x.g) rfl
 have m1:=cg_ MN.out (k:=1) (v := .int .i64 x.r) rfl
 have m2:=cg_ MN.out (k:=2) (v := .int .i64 x.sl) rfl
 have m3:=cg_ MN.out (k:=3) (v := .int .i64 x.sh) rfl
 have m4:=cg_ MN.out (k:=4) (v := .int .i64 x.tl) rfl
 have m5:=cg_ MN.out (k:=5) (v := .int .i64 x.th) rfl
 have b0:=cg_ BN.out (k:=0) (v := .int .i64 room) rfl
 have b1:=cg_ BN.out (k:=1) (v := .int .i64 first) rfl
 have b2:=cg_ BN.out (k:=2) (v := .int .i64 uns) rfl
 have b3:=cg_ BN.out (k:=3) (v:=ms) rfl
 have b4:=cg_ BN.out (k:=4) (v:=ss) rfl
 go_wp2_with fail
 refine (xZ_ (room:=room) (first:=first) (uns:=uns) (ms:=ms) (ss:=ss) _ HX.out.r).mono ?_
 rintro e v2 ⟨rfl,hb⟩
 clear m0 m1 m2 m3 m4 m5 b0 b1 b2 b3 b4
 replace BN:=hid (q0_ BN.out hb)
 replace MN:=hid (q0_ MN.out hb)
 replace BW:=hid (BW.out.trans (hb.mono BW.out.size))
 clear hb
 have m0:=cg_ MN.out (k:=0) (v := .int .i64 x.g) rfl
 have m1:=cg_ MN.out (k:=1) (v := .int .i64 x.r) rfl
 have m2:=cg_ MN.out (k:=2) (v := .int .i64 x.sl) rfl
 have m3:=cg_ MN.out (k:=3) (v := .int .i64 x.sh) rfl
 have m4:=cg_ MN.out (k:=4) (v := .int .i64 x.tl) rfl
 have m5:=cg_ MN.out (k:=5) (v := .int .i64 x.th) rfl
 have b0:=cg_ BN.out (k:=0) (v := .int .i64 room) rfl
 have b1:=cg_ BN.out (k:=1) (v := .int .i64 first) rfl
 have b2:=cg_ BN.out (k:=2) (v := .int .i64 uns) rfl
 have b3:=cg_ BN.out (k:=3) (v:=ms) rfl
 have b4:=cg_ BN.out (k:=4) (v:=ss) rfl
 go_wp2_with fail
 refine (kZ_ _ HX.out.s.1 HX.out.s.2.1 HX.out.s.2.2).mono ?_
 rintro e v3 ⟨rfl,hb⟩
 clear m0 m1 m2 m3 m4 m5 b0 b1 b2 b3 b4
 replace BN:=hid (q0_ BN.out hb)
 replace MN:=hid (q0_ MN.out hb)
 replace BW:=hid (BW.out.trans (hb.mono BW.out.size))
 clear hb
 have m0:=cg_ MN.out (k:=0) (v := .int .i64 x.g) rfl
 have m1:=cg_ MN.out (k:=1) (v := .int .i64 x.r) rfl
 have m2:=cg_ MN.out (k:=2) (v := .int .i64 x.sl) rfl
 have m3:=cg_ MN.out (k:=3) (v := .int .i64 x.sh) rfl
 have m4:=cg_ MN.out (k:=4) (v := .int .i64 x.tl) rfl
 have m5:=cg_ MN.out (k:=5) (v := .int .i64 x.th) rfl
 have b0:=cg_ BN.out (k:=0) (v := .int .i64 room) rfl
 have b1:=cg_ BN.out (k:=1) (v := .int .i64 first) rfl
 have b2:=cg_ BN.out (k:=2) (v := .int .i64 uns) rfl
 have b3:=cg_ BN.out (k:=3) (v:=ms) rfl
 have b4:=cg_ BN.out (k:=4) (v:=ss) rfl
 go_wp2_with fail
 refine (kZ_ _ HX.out.t.1 HX.out.t.2.1 HX.out.t.2.2).mono ?_
 rintro e v4 ⟨rfl,hb⟩
 clear m0 m1 m2 m3 m4 m5 b0 b1 b2 b3 b4
 replace BN:=hid (q0_ BN.out hb)
 replace MN:=hid (q0_ MN.out hb)
 replace BW:=hid (BW.out.trans (hb.mono BW.out.size))
 clear hb
 go_wp2_with fail
 go_ret
 exact ⟨rfl,BW.out⟩
theorem elem_mo {S:Nat→Prop} {w:World}:∀ {ms:List Mo} {cs:List Value},LCs yn_ S w ms cs→∀ (i:Nat) (hi:i < ms.length),qB_ 6 cs i = .agg (moC ms[i])
 | [],_,_,_,hi=>by simp at hi
 | x :: ms,cs,⟨c,ds,h1,h2,h3⟩,0,_=>by
   have h2:c = (moC x).toList:=h2
   rw [h1,h2];rfl
 | x :: ms,cs,⟨c,ds,h1,h2,h3⟩,i + 1,hi=>by
   have h2:c = (moC x).toList:=h2
   have ih:=elem_mo h3 i (by simpa using hi)
   rw [List.getElem_cons_succ,← ih,h1,h2]
   simp only [qB_,moC]
   have e:∀ j,(#[Value.int .i64 x.g, .int .i64 x.r, .int .i64 x.sl, .int .i64 x.sh, .int .i64 x.tl, .int .i64 x.th].toList ++ ds).getD ((i + 1) * 6 + j) undef = ds.getD (i * 6 + j) undef:=fun j=>by
    rw [show (i + 1) * 6 + j = (i * 6 + j) + 6 by omega];rfl
   simp only [e]
   simp
theorem jv_ {S:Nat→Prop} {w:World}:∀ {ss:List Su} {cs:List Value},LCs vQ_ S w ss cs→∀ (i:Nat) (hi:i < ss.length),qB_ 3 cs i = .agg (suC ss[i])
 | [],_,_,_,hi=>by simp at hi
 | x :: ms,cs,⟨c,ds,h1,h2,h3⟩,0,_=>by
   have h2:c = (suC x).toList:=h2
   rw [h1,h2];rfl
 | x :: ms,cs,⟨c,ds,h1,h2,h3⟩,i + 1,hi=>by
   have h2:c = (suC x).toList:=h2
   have ih:=jv_ h3 i (by simpa using hi)
   rw [List.getElem_cons_succ,← ih,h1,h2]
   simp only [qB_,suC]
   have e:∀ j,(#[Value.int .i64 x.m, .int .i64 x.lo, .int .i64 x.hi].toList ++ ds).getD ((i + 1) * 3 + j) undef = ds.getD (i * 3 + j) undef:=fun j=>by
    rw [show (i + 1) * 3 + j = (i * 3 + j) + 3 by omega];rfl
   simp only [e]
   simp
theorem zg_ (n:Nat):wq_ (fun _=>true) n = true:=by simp [wq_,wc_]
theorem enters189:LF.zn_ 189:=by intro args W;simp [go_sem]
theorem enters191:LF.zn_ 191:=by intro args W;simp [go_sem]
theorem enters193:LF.zn_ 193:=by intro args W;simp [go_sem]
theorem c191_ok (room first uns:Int) (am:Option Addr) (cm M:Nat) (sv:Value) (s:Su) (bb:Nat) (W:World) (hb:W.heap[bb]? = some (.cells (z7_ room first uns (.slice am M cm) sv) 26 (0,0))) (hs:OkSu room M s) :
 Calls Tryz.prog 191 #[.agg (suC s), .pointer (some ⟨bb,0,none⟩)] W fun e w'=>e = .returned (.bool true)∧Below W.heap.size W w':=by
 obtain ⟨W1,hW1⟩:∃ W1,W.alloc (.cells (suC s) 37) = W1:=⟨_,rfl⟩
 have hb1:Below W.heap.size W W1:=by rw [← hW1];exact (Below.refl _ _).alloc (nl_ _) _
 have hn1:W1.heap[W.heap.size]? = some (.cells (suC s) 37 (0,0)):=by rw [← hW1];exact ha_ _ _
 have hbb:=q0_ hb hb1
 have s0:=cg_ hn1 (k:=0) (v := .int .i64 s.m) rfl
 have s1:=cg_ hn1 (k:=1) (v := .int .i64 s.lo) rfl
 have s2:=cg_ hn1 (k:=2) (v := .int .i64 s.hi) rfl
 have b0:=cg_ hbb (k:=0) (v := .int .i64 room) rfl
 have b3:=cg_ hbb (k:=3) (v := .slice am M cm) rfl
 have HB:=hid hb1
 have HS:=hid hs
 have hz1:=hb1.size
 clear hn1 hbb hb hb1 hs
 unfold suC at *
 go_enter Tryz.func191,Tryz.ntmps191
 go_wp2_with fail
 refine (kZ_ _ HS.out.b.1 HS.out.b.2.1 HS.out.b.2.2).mono ?_
 rintro e w2 ⟨rfl,hb2⟩
 go_wp2_with fail
 go_ret
 exact ⟨rfl,HB.out.trans (hb2.mono hz1)⟩
theorem c193_ok (room first uns:Int) (am:Option Addr) (cm M:Nat) (sv:Value) (s:Su) (bb:Nat) (W:World) (hb:W.heap[bb]? = some (.cells (z7_ room first uns (.slice am M cm) sv) 26 (0,0))) (hs:OkSu room M s) :
 Calls Tryz.prog 193 #[.agg (suC s), .pointer (some ⟨bb,0,none⟩)] W fun e w'=>e = .returned (.bool true)∧Below W.heap.size W w':=by
 obtain ⟨W1,hW1⟩:∃ W1,W.alloc (.cells (suC s) 37) = W1:=⟨_,rfl⟩
 have hb1:Below W.heap.size W W1:=by rw [← hW1];exact (Below.refl _ _).alloc (nl_ _) _
 have hn1:W1.heap[W.heap.size]? = some (.cells (suC s) 37 (0,0)):=by rw [← hW1];exact ha_ _ _
 have hbb:=q0_ hb hb1
 have s0:=cg_ hn1 (k:=0) (v := .int .i64 s.m) rfl
 have s1:=cg_ hn1 (k:=1) (v := .int .i64 s.lo) rfl
 have s2:=cg_ hn1 (k:=2) (v := .int .i64 s.hi) rfl
 have b0:=cg_ hbb (k:=0) (v := .int .i64 room) rfl
 have b3:=cg_ hbb (k:=3) (v := .slice am M cm) rfl
 have HB:=hid hb1
 have HS:=hid hs
 have hz1:=hb1.size
 have HM:=hid (show (0:Int) ≤ (s.m:Int)∧(s.m:Int) ≤ (M:Int) from ⟨by omega,by have:=hs.m;omega⟩)
 clear hn1 hbb hb hb1 hs
 unfold suC at *
 go_enter Tryz.func193,Tryz.ntmps193
 go_wp2_with fail
 refine (in_ok _ HM.out).mono ?_
 rintro e w2 ⟨rfl,hw2⟩
 subst hw2
 go_wp2_with fail
 go_ret
 exact ⟨rfl,HB.out⟩
theorem x3_ (room first uns:Int) (ms:List Mo) (ss:List Su) (am as_:Option Addr) (cm cs_:Nat) (S:Nat→Prop) (w:World) (hm:LSl yn_ S w (.slice am ms.length cm) ms) (hs:LSl vQ_ S w (.slice as_ ss.length cs_) ss) (hS:∀ b,S b→b < w.heap.size) (hO:OkBed room first uns ms ss) :
 Calls Tryz.prog 147 #[.agg (z7_ room first uns (.slice am ms.length cm) (.slice as_ ss.length cs_))] w fun e w'=>e = .returned (.int .i64 0)∧Below w.heap.size w w':=by
 obtain ⟨csm,hmc,hml⟩:=hm
 obtain ⟨css,hsc,hsl⟩:=hs
 obtain ⟨w1,hw1⟩:∃ w1,w.alloc (.cells (z7_ room first uns (.slice am ms.length cm) (.slice as_ ss.length cs_)) 26) = w1:=⟨_,rfl⟩
 have hb1:Below w.heap.size w w1:=by rw [← hw1];exact (Below.refl _ _).alloc (nl_ _) _
 have BN:=hid (show w1.heap[w.heap.size]? = some (.cells (z7_ room first uns (.slice am ms.length cm) (.slice as_ ss.length cs_)) 26 (0,0)) by rw [← hw1];exact ha_ _ _)
 have BW:=hid hb1
 have HO:=hid hO
 have HMC:=hid hmc
 have HSC:=hid hsc
 have HML:=hid hml
 have HSL:=hid hsl
 have HS:=hid hS
 have hlen:=hO.len
 have hmany:=hO.many
 clear hb1 hO hmc hsc hml hsl hS
 obtain ⟨ba,hba⟩:∃ b,w.heap.size = b:=⟨_,rfl⟩
 rw [hba] at BN
 have r1:(1:Int) ≤ (ms.length:Int)∧(ms.length:Int) ≤ 10:=by omega
 have r2:¬ (8:Int) < (ss.length:Int):=by omega
 unfold z7_ at *
 go_enter Tryz.func147,Tryz.ntmps147
 go_upto_region 1 with fail
 try rw [hw1]
 try simp only [hba]
 clear hw1
 have b0:=cg_ BN.out (k:=0) (v := .int .i64 room) rfl
 have b1:=cg_ BN.out (k:=1) (v := .int .i64 first) rfl
 have b2:=cg_ BN.out (k:=2) (v := .int .i64 uns) rfl
 have b3:=cg_ BN.out (k:=3) (v := .slice am ms.length cm) rfl
 have b4:=cg_ BN.out (k:=4) (v := .slice as_ ss.length cs_) rfl
 go_wp2_with fail
 refine (in_ok _ HO.out.rm).mono ?_
 rintro e v1 ⟨rfl,hq⟩
 subst hq
 clear b0 b1 b2 b3 b4
 have b0:=cg_ BN.out (k:=0) (v := .int .i64 room) rfl
 have b1:=cg_ BN.out (k:=1) (v := .int .i64 first) rfl
 have b2:=cg_ BN.out (k:=2) (v := .int .i64 uns) rfl
 have b3:=cg_ BN.out (k:=3) (v := .slice am ms.length cm) rfl
 have b4:=cg_ BN.out (k:=4) (v := .slice as_ ss.length cs_) rfl
 go_wp2_with fail
 refine (in_ok _ r1).mono ?_
 rintro e v2 ⟨rfl,hq⟩
 subst hq
 clear b0 b1 b2 b3 b4
 have b0:=cg_ BN.out (k:=0) (v := .int .i64 room) rfl
 have b1:=cg_ BN.out (k:=1) (v := .int .i64 first) rfl
 have b2:=cg_ BN.out (k:=2) (v := .int .i64 uns) rfl
 have b3:=cg_ BN.out (k:=3) (v := .slice am ms.length cm) rfl
 have b4:=cg_ BN.out (k:=4) (v := .slice as_ ss.length cs_) rfl
 go_wp2_with fail
 refine (xZ_ (room:=room) (first:=first) (uns:=uns) (ms := .slice am ms.length cm) (ss := .slice as_ ss.length cs_) _ HO.out.fi).mono ?_
 rintro e v3 ⟨rfl,hb⟩
 clear b0 b1 b2 b3 b4
 replace BN:=hid (q0_ BN.out hb)
 replace BW:=hid (BW.out.trans (hb.mono BW.out.size))
 clear hb
 have b0:=cg_ BN.out (k:=0) (v := .int .i64 room) rfl
 have b1:=cg_ BN.out (k:=1) (v := .int .i64 first) rfl
 have b2:=cg_ BN.out (k:=2) (v := .int .i64 uns) rfl
 have b3:=cg_ BN.out (k:=3) (v := .slice am ms.length cm) rfl
 have b4:=cg_ BN.out (k:=4) (v := .slice as_ ss.length cs_) rfl
 go_wp2_with fail
 refine (in_ok _ HO.out.un).mono ?_
 rintro e v4 ⟨rfl,hq⟩
 subst hq
 clear b0 b1 b2 b3 b4
 obtain ⟨w9,hw9⟩:∃ w9,w9 = v4:=⟨_,rfl⟩
 subst hw9
 have EV:=every_mo 189 enters189 (fun _=>true) (.agg #[.int .i64 room, .int .i64 first, .int .i64 uns, .slice am ms.length cm, .slice as_ ss.length cs_]) ms.length am cm csm S w9 (HMC.out.agree (qc_ BW.out HS.out)) (fun b hb=>by have:=HS.out b hb;have:=BW.out.size;omega) (by omega) (fun i hi W hW=>by
  rw [elem_mo HML.out i hi]
  exact right_ok room first uns _ _ ms[i] W (HO.out.mo _ (List.getElem_mem hi)) HO.out.rm.2)
 rw [zg_] at EV
 have EV:=hid EV
 have b0:=cg_ BN.out (k:=0) (v := .int .i64 room) rfl
 have b1:=cg_ BN.out (k:=1) (v := .int .i64 first) rfl
 have b2:=cg_ BN.out (k:=2) (v := .int .i64 uns) rfl
 have b3:=cg_ BN.out (k:=3) (v := .slice am ms.length cm) rfl
 have b4:=cg_ BN.out (k:=4) (v := .slice as_ ss.length cs_) rfl
 go_wp2_with fail
 refine (EV.out).mono ?_
 rintro e v5 ⟨rfl,hb⟩
 clear b0 b1 b2 b3 b4
 replace BN:=hid (q0_ BN.out hb)
 replace BW:=hid (BW.out.trans (hb.mono BW.out.size))
 clear hb
 have EV:=yB_ 191 enters191 (fun _=>true) [.pointer (some ⟨ba,0,none⟩)] ss.length as_ cs_ css S v5 (HSC.out.agree (qc_ BW.out HS.out)) (fun b hb=>by have:=HS.out b hb;have:=BW.out.size;omega) (by omega) (fun i hi W hW=>by
  rw [jv_ HSL.out i hi]
  exact c191_ok room first uns am cm ms.length _ ss[i] ba W (q0_ BN.out hW) (HO.out.su _ (List.getElem_mem hi)))
 rw [zg_] at EV
 have EV:=hid EV
 have b0:=cg_ BN.out (k:=0) (v := .int .i64 room) rfl
 have b1:=cg_ BN.out (k:=1) (v := .int .i64 first) rfl
 have b2:=cg_ BN.out (k:=2) (v := .int .i64 uns) rfl
 have b3:=cg_ BN.out (k:=3) (v := .slice am ms.length cm) rfl
 have b4:=cg_ BN.out (k:=4) (v := .slice as_ ss.length cs_) rfl
 go_wp2_with fail
 refine (EV.out).mono ?_
 rintro e v6 ⟨rfl,hb⟩
 clear b0 b1 b2 b3 b4
 replace BN:=hid (q0_ BN.out hb)
 replace BW:=hid (BW.out.trans (hb.mono BW.out.size))
 clear hb
 have EV:=yB_ 193 enters193 (fun _=>true) [.pointer (some ⟨ba,0,none⟩)] ss.length as_ cs_ css S v6 (HSC.out.agree (qc_ BW.out HS.out)) (fun b hb=>by have:=HS.out b hb;have:=BW.out.size;omega) (by omega) (fun i hi W hW=>by
  rw [jv_ HSL.out i hi]
  exact c193_ok room first uns am cm ms.length _ ss[i] ba W (q0_ BN.out hW) (HO.out.su _ (List.getElem_mem hi)))
 rw [zg_] at EV
 have EV:=hid EV
 have b0:=cg_ BN.out (k:=0) (v := .int .i64 room) rfl
 have b1:=cg_ BN.out (k:=1) (v := .int .i64 first) rfl
 have b2:=cg_ BN.out (k:=2) (v := .int .i64 uns) rfl
 have b3:=cg_ BN.out (k:=3) (v := .slice am ms.length cm) rfl
 have b4:=cg_ BN.out (k:=4) (v := .slice as_ ss.length cs_) rfl
 go_wp2_with fail
 refine (EV.out).mono ?_
 rintro e v7 ⟨rfl,hb⟩
 clear b0 b1 b2 b3 b4
 replace BN:=hid (q0_ BN.out hb)
 replace BW:=hid (BW.out.trans (hb.mono BW.out.size))
 clear hb
 go_wp2_with fail
 go_ret
 exact ⟨rfl,BW.out⟩
theorem kW_ {F:Fence} {n:Nat} {P:Program} {ops:Array Oper} {Q:Exit→Act→World→Prop} {md:Region.Mode} {S:World→Prop} {i j:Nat} {oi oj:Oper} {fuel:Nat} {listed:Array Bool} {a:Act} {w:World} (hr:Region.ready md ops listed = [i,j]) (hi:ops[i]? = some oi) (hj:ops[j]? = some oj)
 (hwi:Region.wanted oi (yielded ops a.tmps) = true) (hwj:Region.wanted oj (yielded ops a.tmps) = true)
 (h1:∀ K:Act→World→Prop,(∀ a w,S w∧k5_ F n P md ops Q S fuel (listed.setIfInBounds i true) a w→K a w)→Oper.wpIn F n P oi a w K Q)
 (h2:∀ K:Act→World→Prop,(∀ a w,S w∧k5_ F n P md ops Q S fuel (listed.setIfInBounds j true) a w→K a w)→Oper.wpIn F n P oj a w K Q):k5_ F n P md ops Q S (fuel + 1) listed a w:=
 ⟨fun h0=>(by rw [hr] at h0;cases h0),hr ▸ fun k hk=>by
   simp only [List.mem_cons,List.not_mem_nil,or_false] at hk
   rcases hk with rfl | rfl
   · unfold wpOpIn
     rw [hi]
     simp only [hwi,if_true]
     exact h1 _ fun _ _ h=>h
   · unfold wpOpIn
     rw [hj]
     simp only [hwj,if_true]
     exact h2 _ fun _ _ h=>h⟩
theorem xL_ {P:Program} {o:Oper} {a:Act} {w:World} {m x:Operand} {t:TypeId} {v1 v2 r:Value} (ho:o.op = .lookup t m x false) (hm:a.eval m = v1) (hx:a.eval x = v2) (hr:(Instr.lookup t v1 v2 false).run P w = .ok r w):(execOp a.eval o).run P w = .ok (.value r) w:=by
 unfold execOp
 simp [ho,hm,hx,hr,Result.andThen]
theorem j2_ {P:Program} {o:Oper} {a:Act} {w w':World} {m x v:Operand} {t:TypeId} {v1 v2 v3:Value} (ho:o.op = .mapUpdate t m x v) (hm:a.eval m = v1) (hx:a.eval x = v2) (hv:a.eval v = v3) (hr:(Instr.mapUpdate t v1 v2 v3).run P w = .ok () w'):(execOp a.eval o).run P w = .ok .skip w':=by
 unfold execOp
 simp [ho,hm,hx,hv,hr,Result.andThen]
theorem j0_ {F:Fence} {n:Nat} {P:Program} {Q:Exit→Act→World→Prop} {o:Oper} {a:Act} {w w':World} {K:Act→World→Prop} (hF:∀ f,F.fn f) (hnd:qh_ o = true) (h:(execOp a.eval o).run P w = .ok .skip w') (hk:K (a.put o.dst undef) w'):Oper.wpIn F n P o a w K Q:=by
 simp only [Oper.wpIn,zU_ hnd,h,Oper.uponIn]
 exact ⟨fun f _=>hF f,hk⟩
def plc (ss:List Su) (k m:Nat):List Nat:=(List.range k).filter fun i=>(ss.getD i ⟨0,0,0⟩).m == m
theorem y1_ (ss:List Su) (k m:Nat):plc ss (k + 1) m = if (ss.getD k ⟨0,0,0⟩).m = m then plc ss k m ++ [k] else plc ss k m:=by
 unfold plc
 rw [List.range_succ,List.filter_append]
 simp only [List.filter_cons,List.filter_nil,beq_iff_eq]
 split <;> simp
theorem plc_len (ss:List Su) (k m:Nat):(plc ss k m).length ≤ k:=by
 have:=List.length_filter_le (fun i=>(ss.getD i ⟨0,0,0⟩).m == m) (List.range k)
 simpa [plc] using this
def nI (l:List Nat):List Value:=l.map fun i:Nat=>Value.int .i64 (i:Int)
def jE_ (B M n:Nat) (L:Nat→List Nat) (w:World):Prop:=
 ∃ f,vy_ Tryz.prog 3 M n f w∧(∀ m,L m = []→f m = none)∧(∀ m,L m ≠ []→∃ v,f m = some v∧w.ownsRow B 3 1 v (L m).length (nI (L m)))∧∀ m m' v v' g,m ≠ m'→f m = some v→f m' = some v'→v.ownBlock = some g→v'.ownBlock ≠ some g
theorem jE_.below {B M n:Nat} {L:Nat→List Nat} {w w':World} (h:jE_ B M n L w) (hb:Below w.heap.size w w'):jE_ B M n L w':=by
 obtain ⟨f,h1,h2,h3,h4⟩:=h
 refine ⟨f,h1.kept (hb.block M h1.lt),h2,fun m hm=>?_,h4⟩
 obtain ⟨v,h5,h6⟩:=h3 m hm
 exact ⟨v,h5,ob_ h6 hb (nl_ _)⟩
end Go.Proofs.LB
namespace Go.Proofs.LS
open Go.RowKit Go.Sort Go.Proofs.LF Go.Proofs.LB
set_option maxHeartbeats 4000000
set_option maxRecDepth 100000
attribute [local go_sem] q1_ q2_ q8_
theorem ze_ (n lo hi:Int) (w:World):Calls Tryz.prog 104 #[.int .i64 n, .int .i64 lo, .int .i64 hi] w fun e w'=>e = .returned (.bool (inI n lo hi))∧w' = w:=by
 by_cases h:lo ≤ n
 · have e:inI n lo hi = decide (n ≤ hi):=by simp [inI,h]
   go_enter Tryz.func104,Tryz.ntmps104
   go_wp2_with fail
   go_ret
   first
    | exact ⟨rfl,rfl⟩
    | (rw [e];exact ⟨rfl,rfl⟩)
 · have e:inI n lo hi = false:=by simp [inI,h]
   go_enter Tryz.func104,Tryz.ntmps104
   go_wp2_with fail
   go_ret
   first
    | exact ⟨rfl,rfl⟩
    | (rw [e];exact ⟨rfl,rfl⟩)
def stC (x:St):Array Value:=#[.int .i64 x.t, .int .i64 x.ll, .int .i64 x.lh, .int .i64 x.sl, .int .i64 x.sh, .int .i64 x.el, .int .i64 x.eh]
def spC (x:Sp):Array Value:=#[.int .i64 x.lo, .int .i64 x.hi]
def rdSt:Rd St 7 where
 R _ _ x cs:=cs = (stC x).toList
 len:=by rintro S w x cs rfl;rfl
 one:=by rintro S w x cs rfl u hu;simp [stC] at hu;rcases hu with rfl | rfl | rfl | rfl | rfl | rfl | rfl <;> rfl
 agree:=by rintro S w w' x cs rfl _;rfl
 wide:=by rintro S w w' x cs rfl _;rfl
def rdSp:Rd Sp 2 where
 R _ _ x cs:=cs = (spC x).toList
 len:=by rintro S w x cs rfl;rfl
 one:=by rintro S w x cs rfl u hu;simp [spC] at hu;rcases hu with rfl | rfl <;> rfl
 agree:=by rintro S w w' x cs rfl _;rfl
 wide:=by rintro S w w' x cs rfl _;rfl
theorem w3_ (as_ ac:Option Addr) (n m cs_ cc:Nat) (k:Int) (w:World) (hn:n ≤ 1000) (hm:m ≤ 1000):Calls Tryz.prog 60 #[.agg #[.slice as_ n cs_, .slice ac m cc], .int .i64 k] w fun e w'=>e = .returned (.bool (inI k 0 ((m:Int) - 1)))∧Below w.heap.size w w':=by
 have hb:Below w.heap.size w (w.alloc (.cells #[.slice as_ n cs_, .slice ac m cc] 60)):=(Below.refl _ _).alloc (nl_ _) _
 have hn:=ha_ w (.cells #[.slice as_ n cs_, .slice ac m cc] 60)
 have q0:=cg_ hn (k:=0) (v := .slice as_ n cs_) rfl
 have q1:=cg_ hn (k:=1) (v := .slice ac m cc) rfl
 have HB:=hid hb
 have I1:=hid (fun w=>ze_ k 0 ((m:Int) - 1) w)
 clear hb hn
 go_enter Tryz.func60,Tryz.ntmps60
 go_wp2_with fail
 refine (I1.out _).mono ?_
 rintro e w1 ⟨rfl,rfl⟩
 go_wp2_with fail
 go_ret
 exact ⟨rfl,HB.out⟩
theorem strip_any (as_ ac:Option Addr) (n m cs_ cc:Nat) (k:Int) (w:World) (hn:n ≤ 1000) (hm:m ≤ 1000):Calls Tryz.prog 112 #[.agg #[.slice as_ n cs_, .slice ac m cc], .int .i64 k] w fun e w'=>e = .returned (.bool (inI k 0 ((n:Int) - 1)))∧Below w.heap.size w w':=by
 have hb:Below w.heap.size w (w.alloc (.cells #[.slice as_ n cs_, .slice ac m cc] 60)):=(Below.refl _ _).alloc (nl_ _) _
 have hn:=ha_ w (.cells #[.slice as_ n cs_, .slice ac m cc] 60)
 have q0:=cg_ hn (k:=0) (v := .slice as_ n cs_) rfl
 have q1:=cg_ hn (k:=1) (v := .slice ac m cc) rfl
 have HB:=hid hb
 have I1:=hid (fun w=>ze_ k 0 ((n:Int) - 1) w)
 clear hb hn
 go_enter Tryz.func112,Tryz.ntmps112
 go_wp2_with fail
 refine (I1.out _).mono ?_
 rintro e w1 ⟨rfl,rfl⟩
 go_wp2_with fail
 go_ret
 exact ⟨rfl,HB.out⟩
def okSp (x:Sp):Bool:=inI x.lo 0 30 && inI x.hi 0 30
theorem j8_ (x:Sp) (w:World):Calls Tryz.prog 61 #[.agg (spC x)] w fun e w'=>e = .returned (.bool (okSp x))∧Below w.heap.size w w':=by
 have hb:Below w.heap.size w (w.alloc (.cells (spC x) 35)):=(Below.refl _ _).alloc (nl_ _) _
 have hn:=ha_ w (.cells (spC x) 35)
 unfold spC at *
 have q0:=cg_ hn (k:=0) (v := .int .i64 x.lo) rfl
 have q1:=cg_ hn (k:=1) (v := .int .i64 x.hi) rfl
 have HB:=hid hb
 have I1:=hid (fun w=>ze_ x.lo 0 30 w)
 have I2:=hid (fun w=>ze_ x.hi 0 30 w)
 clear hb hn
 obtain ⟨b,hb⟩:∃ b,inI x.lo 0 30 = b:=⟨_,rfl⟩
 have HW:=hid (show okSp x = (b && inI x.hi 0 30) by rw [okSp,hb])
 rw [hb] at I1
 clear hb
 cases b with
 | true=>
   go_enter Tryz.func61,Tryz.ntmps61
   go_wp2_with fail
   refine (I1.out _).mono ?_
   rintro e w1 ⟨rfl,rfl⟩
   go_wp2_with fail
   refine (I2.out _).mono ?_
   rintro e w1 ⟨rfl,rfl⟩
   go_wp2_with fail
   go_ret
   rw [HW.out]
   exact ⟨rfl,HB.out⟩
 | false=>
   go_enter Tryz.func61,Tryz.ntmps61
   go_wp2_with fail
   refine (I1.out _).mono ?_
   rintro e w1 ⟨rfl,rfl⟩
   go_wp2_with fail
   go_ret
   rw [HW.out]
   exact ⟨rfl,HB.out⟩
theorem ordS_any (x:Sp) (w:World):Calls Tryz.prog 109 #[.agg (spC x)] w fun e w'=>e = .returned (.bool (decide (x.lo ≤ x.hi)))∧Below w.heap.size w w':=by
 have hb:Below w.heap.size w (w.alloc (.cells (spC x) 35)):=(Below.refl _ _).alloc (nl_ _) _
 have hn:=ha_ w (.cells (spC x) 35)
 unfold spC at *
 have q0:=cg_ hn (k:=0) (v := .int .i64 x.lo) rfl
 have q1:=cg_ hn (k:=1) (v := .int .i64 x.hi) rfl
 have HB:=hid hb
 clear hb hn
 go_enter Tryz.func109,Tryz.ntmps109
 go_wp2_with fail
 go_ret
 exact ⟨rfl,HB.out⟩
theorem ret35 {f:Func} {r:Nat} (hr:f.results = #[.cell r 35]) {tmps:Array Value} {W:World} {b:Nat} {x y:Value} (h:W.heap[b]? = some (.cells #[x,y] 35 (0,0))) (h2:tmps.getD r undef = .pointer (some ⟨b,0,none⟩)) :
 (results f tmps).run Tryz.prog W = .ok (.agg #[x,y]) W:=by
 have h0:=cg_ h (k:=0) rfl
 have h1:=cg_ h (k:=1) rfl
 rw [qP_ hr,h2]
 simp [go_sem,h0,h1]
structure SmSt (x:St):Prop where
 t:0 ≤ x.t∧x.t ≤ 1000
 ll:0 ≤ x.ll∧x.ll ≤ 1000
 lh:0 ≤ x.lh∧x.lh ≤ 1000
 sl:0 ≤ x.sl∧x.sl ≤ 1000
 sh:0 ≤ x.sh∧x.sh ≤ 1000
 el:0 ≤ x.el∧x.el ≤ 1000
 eh:0 ≤ x.eh∧x.eh ≤ 1000
theorem yF_ (x:St) (w:World) (hx:SmSt x):Calls Tryz.prog 111 #[.agg (stC x)] w fun e w'=>e = .returned (.agg (spC (kh_ x)))∧Below w.heap.size w w':=by
 obtain ⟨w1,hw1⟩:∃ w1,w.alloc (.cells (stC x) 72) = w1:=⟨_,rfl⟩
 have hb1:Below w.heap.size w w1:=by rw [← hw1];exact (Below.refl _ _).alloc (nl_ _) _
 have hn:w1.heap[w.heap.size]? = some (.cells (stC x) 72 (0,0)):=by rw [← hw1];exact ha_ _ _
 obtain ⟨w2,hw2⟩:∃ w2,w1.alloc (.cells #[.int .i64 0, .int .i64 0] 35) = w2:=⟨_,rfl⟩
 have hz1:=hb1.size
 have hlt:w.heap.size < w1.heap.size:=(ge_ hn).1
 have hb2:Below w.heap.size w w2:=by rw [← hw2];exact hb1.alloc hz1 _
 have hn2:w2.heap[w.heap.size]? = some (.cells (stC x) 72 (0,0)):=by rw [← hw2];exact (heap_alloc_old _ _ hlt).trans hn
 have hr2:w2.heap[w1.heap.size]? = some (.cells #[.int .i64 0, .int .i64 0] 35 (0,0)):=by rw [← hw2];exact ha_ _ _
 obtain ⟨h1,h2,h3,h4,h5,h6,h7⟩:=hx
 unfold stC at *
 have q1:=cg_ hn2 (k:=1) rfl
 have q2:=cg_ hn2 (k:=2) rfl
 have q3:=cg_ hn2 (k:=3) rfl
 have q4:=cg_ hn2 (k:=4) rfl
 have q5:=cg_ hn2 (k:=5) rfl
 have q6:=cg_ hn2 (k:=6) rfl
 have p0:=cg_ hr2 (k:=0) rfl
 have p1:=cg_ hr2 (k:=1) rfl
 have f0:=q5_ hr2 (k:=0)
 have f1:=q5_ hr2 (k:=1)
 have v1:IntKind.i64.wrap (x.ll + x.sl) = x.ll + x.sl:=IntWalk.i64_in _ (by omega)
 have v2:IntKind.i64.wrap (x.ll + x.sl - x.eh) = x.ll + x.sl - x.eh:=IntWalk.i64_in _ (by omega)
 have v3:IntKind.i64.wrap (x.lh + x.sh) = x.lh + x.sh:=IntWalk.i64_in _ (by omega)
 have v4:IntKind.i64.wrap (x.lh + x.sh - x.el) = x.lh + x.sh - x.el:=IntWalk.i64_in _ (by omega)
 have HR2:=hid hr2
 have HB2:=hid hb2
 have HZ:=hid hz1
 clear hn hn2 hr2 hb1 hb2 hz1 hlt
 go_enter Tryz.func111,Tryz.ntmps111
 go_wp2_with fail
 refine bodyPost_ret (v := .agg (spC (kh_ x))) (ret35 rfl (set2 HR2.out) rfl) rfl ?_
 exact ⟨rfl,Below.setCell (Below.setCell HB2.out (p:=⟨w1.heap.size,0,none⟩) HZ.out _) (p:=⟨w1.heap.size,1,none⟩) HZ.out _⟩
theorem yk_ (W:World) (x y:Int):(Instr.field 35 (.agg #[.int .i64 x, .int .i64 y]) 0).run Tryz.prog W = .ok (.int .i64 x) W:=by kernel_rfl
theorem y2_ (W:World) (x y:Int):(Instr.field 35 (.agg #[.int .i64 x, .int .i64 y]) 1).run Tryz.prog W = .ok (.int .i64 y) W:=by kernel_rfl
attribute [local go_sem] yk_ y2_
theorem yQ_ (x:St) (w:World) (hx:SmSt x):Calls Tryz.prog 110 #[.agg (stC x)] w fun e w'=>e = .returned (.bool (decide (0 ≤ (kh_ x).hi)))∧Below w.heap.size w w':=by
 obtain ⟨w1,hw1⟩:∃ w1,w.alloc (.cells (stC x) 72) = w1:=⟨_,rfl⟩
 have hb:Below w.heap.size w w1:=by rw [← hw1];exact (Below.refl _ _).alloc (nl_ _) _
 have hn:w1.heap[w.heap.size]? = some (.cells (stC x) 72 (0,0)):=by rw [← hw1];exact ha_ _ _
 have HG:=hid (yF_ x w1 hx)
 unfold stC spC at *
 have q0:=cg_ hn (k:=0) rfl
 have q1:=cg_ hn (k:=1) rfl
 have q2:=cg_ hn (k:=2) rfl
 have q3:=cg_ hn (k:=3) rfl
 have q4:=cg_ hn (k:=4) rfl
 have q5:=cg_ hn (k:=5) rfl
 have q6:=cg_ hn (k:=6) rfl
 have HB:=hid hb
 clear hb hn hx
 go_enter Tryz.func110,Tryz.ntmps110
 go_wp2_with fail
 refine HG.out.mono ?_
 rintro e w2 ⟨rfl,hb⟩
 go_wp2_with fail
 go_ret
 exact ⟨rfl,HB.out.trans (hb.mono HB.out.size)⟩
end Go.Proofs.LS
namespace Go.Proofs.LB
open Go.RowKit Go.Sort Go.Proofs.LF
set_option maxHeartbeats 4000000
set_option maxRecDepth 100000
attribute [local go_sem] q1_ q2_ q8_
theorem jE_.more {B M n:Nat} {L:Nat→List Nat} {w w5 w6:World} {f:Nat→Option Value} {m k:Nat} {v:Value} {a5:Option Addr} {c5:Nat} (hf:vy_ Tryz.prog 3 M n f w) (h2:∀ q,L q = []→f q = none) (h3:∀ q,L q ≠ []→∃ v,f q = some v∧w.ownsRow B 3 1 v (L q).length (nI (L q)))
 (h4:∀ q q' u u' g,q ≠ q'→f q = some u→f q' = some u'→u.ownBlock = some g→u'.ownBlock ≠ some g) (hv:v = (f m).getD (.slice none 0 0)) (hM:M < B)
 (hown:w5.ownsRow B 3 1 (.slice a5 ((L m).length + 1) c5) ((L m).length + 1) (nI (L m) ++ [.int .i64 k])) (hg5:w.grownBy w5 v.ownBlock) (hat:∀ g,(Value.slice a5 ((L m).length + 1) c5).ownBlock = some g→v.ownBlock = some g ∨ w.heap.size ≤ g)
 (h6:vy_ Tryz.prog 3 M (n + 1) (fun q=>if q = m then some (.slice a5 ((L m).length + 1) c5) else f q) w6) (hg6:w5.grownBy w6 (some M)):jE_ B M (n + 1) (fun q=>if q = m then L q ++ [k] else L q) w6:=by
 have hother:∀ q u,q ≠ m→f q = some u→∀ g,u.ownBlock = some g→v.ownBlock ≠ some g:=fun q u hq hu g hg e=>by
  cases hm:f m with
  | none=>rw [hm] at hv;subst hv;cases e
  | some v'=>
    rw [hm] at hv
    have hv:v = v':=hv
    rw [hv] at e
    exact h4 q m u v' g hq hu hm hg e
 refine ⟨_,h6,fun q hq=>?_,fun q hq=>?_,fun q q' u u' g hqq hu hu' hg=>?_⟩
 · by_cases e:q = m
   · simp [e] at hq
   · simp only [if_neg e] at hq ⊢;exact h2 q hq
 · by_cases e:q = m
   · subst e
     refine ⟨_,by rw [if_pos rfl],?_⟩
     dsimp only
     rw [if_pos rfl]
     have:nI (L q ++ [k]) = nI (L q) ++ [.int .i64 (k:Int)]:=by simp [nI]
     rw [this,List.length_append,List.length_singleton]
     refine q3_ hown fun g hg=>hg6.block g (hown.lt g hg).2 (fun e=>?_)
     have:=(hown.lt g hg).1
     cases e
     omega
   · simp only [if_neg e] at hq ⊢
     obtain ⟨u,hu,hr⟩:=h3 q hq
     refine ⟨u,hu,q3_ hr fun g hg=>?_⟩
     have hl:=hr.lt g hg
     rw [hg6.block g (Nat.lt_of_lt_of_le hl.2 hg5.size) (fun e=>by cases e;omega)]
     exact hg5.block g hl.2 (fun e'=>hother q u e hu g hg e'.symm)
 · by_cases e:q = m
   · have e':q' ≠ m:=fun h=>hqq (by rw [e,h])
     simp only [if_pos e,if_neg e',Option.some.injEq] at hu hu'
     subst hu
     intro hc
     rcases hat g hg with h | h
     · exact hother q' u' e' hu' g hc h
     · have hne:L q' ≠ []:=fun h0=>by rw [h2 q' h0] at hu';cases hu'
       obtain ⟨u9,hu9,hr⟩:=h3 q' hne
       rw [hu'] at hu9
       cases hu9
       have:=(hr.lt g hc).2
       omega
   · simp only [if_neg e] at hu
     by_cases e':q' = m
     · simp only [if_pos e',Option.some.injEq] at hu'
       subst hu'
       intro hc
       rcases hat g hc with h | h
       · exact hother q u e hu g hg h
       · have hne:L q ≠ []:=fun h0=>by rw [h2 q h0] at hu;cases hu
         obtain ⟨u9,hu9,hr⟩:=h3 q hne
         rw [hu] at hu9
         cases hu9
         have:=(hr.lt g hg).2
         omega
     · simp only [if_neg e'] at hu'
       exact h4 q q' u u' g hqq hu hu' hg
end Go.Proofs.LB
namespace Go.Proofs.LS
open Go.RowKit Go.Sort Go.Proofs.LF Go.Proofs.LB
set_option maxHeartbeats 4000000
set_option maxRecDepth 100000
attribute [local go_sem] q1_ q2_ q8_
theorem idx_sp (g:Nat) (hE:LF.zn_ g) (p:Nat→Bool) (caps:List Value) (n:Nat) (a:Option Addr) (c:Nat) (cs:List Value) (S:Nat→Prop) (w:World) (hl:SlC S w 2 (.slice a n c) n cs) (hS:∀ b,S b→b < w.heap.size) (hlen:n ≤ 100000)
 (hp:∀ i,i < n→zB_ g caps w [qB_ 2 cs i] (p i)) :
 Calls Tryz.prog 200 #[.slice a n c, .func (.func g) #[] caps.toArray] w fun e w'=>e = .returned (.int .i64 (idxN p n))∧Below w.heap.size w w':=by
 have hE':∀ (args:Array Value) (W:World),Sem.run Tryz.prog (callFunc g args) W = .ok (.enter g args) W:=hE
 clear hE
 go_enter Tryz.func200,Tryz.ntmps200
 go_wp2_with fail
 go_loopw [8] (fun i wr=>∃ k:Nat,k ≤ n∧i = .int .i64 k∧Hid (∀ j,j < k→p j = false)∧Below w.heap.size w wr) (fun i _=>n - (intOf i).toNat)
 case atStart=>exact ⟨0,by omega,rfl,by intro j hj;omega,Below.refl _ _⟩
 case round=>
  obtain ⟨k,hk,rfl,H2,hB⟩:=hrel
  have HP:=hid hp
  clear hp
  by_cases hlt:k < n
  · obtain ⟨g',o,rfl,hg,_,_,hcell⟩:=SlC.cells hl (by omega)
    have hx0:=(qc_ (S:=S) hB hS).cell hg (hcell (k * 2) _ (qf_ (by have:=hl.1;omega)))
    have hx1:=(qc_ (S:=S) hB hS).cell hg (hcell (k * 2 + 1) _ (qf_ (by have:=hl.1;omega)))
    simp only [← Nat.add_assoc] at hx1
    clear hcell
    go_wp2_with fail
    refine (HP.out k hlt _ hB).mono ?_
    rintro e w' ⟨rfl,hb'⟩
    cases hpx:p k with
    | true=>
      have HX:=hid hpx
      clear hpx
      go_wp2_with fail
      go_ret
      exact ⟨qd_ (qU_ H2.out hlt HX.out).symm,hB.trans (hb'.mono hB.size)⟩
    | false=>
      have HX:=hid hpx
      clear hpx
      go_wp2_with fail
      go_roundw
      case rel=>exact ⟨k + 1,by omega,by go_num,fun j hj=>by rcases Nat.lt_succ_iff_lt_or_eq.1 hj with h | h;exact H2.out j h;rw [h];exact HX.out,hB.trans (hb'.mono hB.size)⟩
      case measure=>simp [intOf];omega
  · go_wp2_with fail
    go_ret
    obtain rfl:k = n:=by omega
    exact ⟨qd_ (zb_ H2.out).symm,hB⟩
theorem contf_sp (g:Nat) (hE:LF.zn_ g) (p:Nat→Bool) (caps:List Value) (n:Nat) (a:Option Addr) (c:Nat) (cs:List Value) (S:Nat→Prop) (w:World) (hl:SlC S w 2 (.slice a n c) n cs) (hS:∀ b,S b→b < w.heap.size) (hlen:n ≤ 100000)
 (hp:∀ i,i < n→zB_ g caps w [qB_ 2 cs i] (p i)) :
 Calls Tryz.prog 152 #[.slice a n c, .func (.func g) #[] caps.toArray] w fun e w'=>e = .returned (.bool (wc_ p n))∧Below w.heap.size w w':=by
 have HP:=hid hp
 clear hp
 go_enter Tryz.func152,Tryz.ntmps152
 go_wp2_with fail
 refine (idx_sp g hE p caps n a c cs S w hl hS hlen HP.out).mono ?_
 rintro e w' ⟨rfl,hb⟩
 go_wp2_with fail
 go_ret
 exact ⟨qj_ (zw_ p n),hb⟩
theorem idx_st (g:Nat) (hE:LF.zn_ g) (p:Nat→Bool) (caps:List Value) (n:Nat) (a:Option Addr) (c:Nat) (cs:List Value) (S:Nat→Prop) (w:World) (hl:SlC S w 7 (.slice a n c) n cs) (hS:∀ b,S b→b < w.heap.size) (hlen:n ≤ 100000)
 (hp:∀ i,i < n→zB_ g caps w [qB_ 7 cs i] (p i)) :
 Calls Tryz.prog 201 #[.slice a n c, .func (.func g) #[] caps.toArray] w fun e w'=>e = .returned (.int .i64 (idxN p n))∧Below w.heap.size w w':=by
 have hE':∀ (args:Array Value) (W:World),Sem.run Tryz.prog (callFunc g args) W = .ok (.enter g args) W:=hE
 clear hE
 go_enter Tryz.func201,Tryz.ntmps201
 go_wp2_with fail
 go_loopw [8] (fun i wr=>∃ k:Nat,k ≤ n∧i = .int .i64 k∧Hid (∀ j,j < k→p j = false)∧Below w.heap.size w wr) (fun i _=>n - (intOf i).toNat)
 case atStart=>exact ⟨0,by omega,rfl,by intro j hj;omega,Below.refl _ _⟩
 case round=>
  obtain ⟨k,hk,rfl,H2,hB⟩:=hrel
  have HP:=hid hp
  clear hp
  by_cases hlt:k < n
  · obtain ⟨g',o,rfl,hg,_,_,hcell⟩:=SlC.cells hl (by omega)
    have hx0:=(qc_ (S:=S) hB hS).cell hg (hcell (k * 7) _ (qf_ (by have:=hl.1;omega)))
    have hx1:=(qc_ (S:=S) hB hS).cell hg (hcell (k * 7 + 1) _ (qf_ (by have:=hl.1;omega)))
    have hx2:=(qc_ (S:=S) hB hS).cell hg (hcell (k * 7 + 2) _ (qf_ (by have:=hl.1;omega)))
    have hx3:=(qc_ (S:=S) hB hS).cell hg (hcell (k * 7 + 3) _ (qf_ (by have:=hl.1;omega)))
    have hx4:=(qc_ (S:=S) hB hS).cell hg (hcell (k * 7 + 4) _ (qf_ (by have:=hl.1;omega)))
    have hx5:=(qc_ (S:=S) hB hS).cell hg (hcell (k * 7 + 5) _ (qf_ (by have:=hl.1;omega)))
    have hx6:=(qc_ (S:=S) hB hS).cell hg (hcell (k * 7 + 6) _ (qf_ (by have:=hl.1;omega)))
    simp only [← Nat.add_assoc] at hx1 hx2 hx3 hx4 hx5 hx6
    clear hcell
    go_wp2_with fail
    refine (HP.out k hlt _ hB).mono ?_
    rintro e w' ⟨rfl,hb'⟩
    cases hpx:p k with
    | true=>
      have HX:=hid hpx
      clear hpx
      go_wp2_with fail
      go_ret
      exact ⟨qd_ (qU_ H2.out hlt HX.out).symm,hB.trans (hb'.mono hB.size)⟩
    | false=>
      have HX:=hid hpx
      clear hpx
      go_wp2_with fail
      go_roundw
      case rel=>exact ⟨k + 1,by omega,by go_num,fun j hj=>by rcases Nat.lt_succ_iff_lt_or_eq.1 hj with h | h;exact H2.out j h;rw [h];exact HX.out,hB.trans (hb'.mono hB.size)⟩
      case measure=>simp [intOf];omega
  · go_wp2_with fail
    go_ret
    obtain rfl:k = n:=by omega
    exact ⟨qd_ (zb_ H2.out).symm,hB⟩
theorem contf_st (g:Nat) (hE:LF.zn_ g) (p:Nat→Bool) (caps:List Value) (n:Nat) (a:Option Addr) (c:Nat) (cs:List Value) (S:Nat→Prop) (w:World) (hl:SlC S w 7 (.slice a n c) n cs) (hS:∀ b,S b→b < w.heap.size) (hlen:n ≤ 100000)
 (hp:∀ i,i < n→zB_ g caps w [qB_ 7 cs i] (p i)) :
 Calls Tryz.prog 155 #[.slice a n c, .func (.func g) #[] caps.toArray] w fun e w'=>e = .returned (.bool (wc_ p n))∧Below w.heap.size w w':=by
 have HP:=hid hp
 clear hp
 go_enter Tryz.func155,Tryz.ntmps155
 go_wp2_with fail
 refine (idx_st g hE p caps n a c cs S w hl hS hlen HP.out).mono ?_
 rintro e w' ⟨rfl,hb⟩
 go_wp2_with fail
 go_ret
 exact ⟨qj_ (zw_ p n),hb⟩
theorem every1_sp (g:Nat) (hE:LF.zn_ g) (caps:List Value) (x0 x1:Value) (b:Bool) (bx:Nat) (W:World) (hbx:W.cell? ⟨bx,0,none⟩ = some (.func (.func g) #[] caps.toArray)) (hbl:bx < W.heap.size)
 (h:∀ W',Below W.heap.size W W'→Calls Tryz.prog g (.agg #[x0,x1] :: caps).toArray W' fun e w'=>e = .returned (.bool b)∧Below W'.heap.size W' w') :
 Calls Tryz.prog 153 #[.agg #[x0,x1], .pointer (some ⟨bx,0,none⟩)] W fun e w'=>e = .returned (.bool (!b))∧Below W.heap.size W w':=by
 have hE':∀ (args:Array Value) (W:World),Sem.run Tryz.prog (callFunc g args) W = .ok (.enter g args) W:=hE
 clear hE
 obtain ⟨W1,hW1⟩:∃ W1,W.alloc (.cells #[x0,x1] 35) = W1:=⟨_,rfl⟩
 have hb1:Below W.heap.size W W1:=by rw [← hW1];exact (Below.refl _ _).alloc (nl_ _) _
 have hn1:W1.heap[W.heap.size]? = some (.cells #[x0,x1] 35 (0,0)):=by rw [← hW1];exact ha_ _ _
 have hz1:=hb1.size
 have hb2:=bc_ hb1 hbl hbx
 have r0:=cg_ hn1 (k:=0) rfl
 have r1:=cg_ hn1 (k:=1) rfl
 have HB:=hid hb1
 clear hn1 hb1
 have H:=hid (h W1 HB.out)
 clear h
 go_enter Tryz.func153,Tryz.ntmps153
 go_wp2_with fail
 refine H.out.mono ?_
 rintro e w' ⟨rfl,hb⟩
 go_wp2_with fail
 go_ret
 exact ⟨rfl,HB.out.trans (hb.mono hz1)⟩
theorem enters153:LF.zn_ 153:=by
 intro args W
 simp [go_sem]
theorem y0_ (g:Nat) (hE:LF.zn_ g) (p:Nat→Bool) (caps:List Value) (n:Nat) (a:Option Addr) (c:Nat) (cs:List Value) (S:Nat→Prop) (w:World) (hl:SlC S w 2 (.slice a n c) n cs) (hS:∀ b,S b→b < w.heap.size) (hlen:n ≤ 100000)
 (hp:∀ i,i < n→zB_ g caps w [qB_ 2 cs i] (p i)) :
 Calls Tryz.prog 105 #[.slice a n c, .func (.func g) #[] caps.toArray] w fun e w'=>e = .returned (.bool (wq_ p n))∧Below w.heap.size w w':=by
 have HP:=hid hp
 clear hp
 have hb0:Below w.heap.size w (w.alloc (.cells #[.func (.func g) #[] caps.toArray] 152)):=(Below.refl _ _).alloc (nl_ _) _
 have hc0:=cg_ (ha_ w (.cells #[.func (.func g) #[] caps.toArray] 152)) (k:=0) rfl
 have CT:=hid (contf_sp 153 enters153 (fun i=>!p i) [.pointer (some ⟨w.heap.size,0,none⟩)] n a c cs S _ (SlC.agree hl (qc_ (B:=w.heap.size) hb0 hS)) (fun b hb=>by have:=hS b hb;simp;omega) hlen (fun i hi W hW=>by
  have hW2:=hb0.trans (hW.mono (by simp))
  have:=every1_sp g hE caps _ _ (p i) w.heap.size W (bc_ hW (by simp) hc0) (by have:=hW.size;simp at this;omega) (fun W' hW'=>HP.out i hi W' (hW2.trans (hW'.mono (by have:=hW2.size;omega))))
  exact this))
 have HB:=hid hb0
 clear hb0 hc0
 go_enter Tryz.func105,Tryz.ntmps105
 go_wp2_with fail
 refine CT.out.mono ?_
 rintro e w' ⟨rfl,hb⟩
 go_wp2_with fail
 go_ret
 exact ⟨rfl,HB.out.trans (hb.mono (by simp))⟩
theorem every1_st (g:Nat) (hE:LF.zn_ g) (caps:List Value) (x0 x1 x2 x3 x4 x5 x6:Value) (b:Bool) (bx:Nat) (W:World) (hbx:W.cell? ⟨bx,0,none⟩ = some (.func (.func g) #[] caps.toArray)) (hbl:bx < W.heap.size)
 (h:∀ W',Below W.heap.size W W'→Calls Tryz.prog g (.agg #[x0,x1,x2,x3,x4,x5,x6] :: caps).toArray W' fun e w'=>e = .returned (.bool b)∧Below W'.heap.size W' w') :
 Calls Tryz.prog 156 #[.agg #[x0,x1,x2,x3,x4,x5,x6], .pointer (some ⟨bx,0,none⟩)] W fun e w'=>e = .returned (.bool (!b))∧Below W.heap.size W w':=by
 have hE':∀ (args:Array Value) (W:World),Sem.run Tryz.prog (callFunc g args) W = .ok (.enter g args) W:=hE
 clear hE
 obtain ⟨W1,hW1⟩:∃ W1,W.alloc (.cells #[x0,x1,x2,x3,x4,x5,x6] 72) = W1:=⟨_,rfl⟩
 have hb1:Below W.heap.size W W1:=by rw [← hW1];exact (Below.refl _ _).alloc (nl_ _) _
 have hn1:W1.heap[W.heap.size]? = some (.cells #[x0,x1,x2,x3,x4,x5,x6] 72 (0,0)):=by rw [← hW1];exact ha_ _ _
 have hz1:=hb1.size
 have hb2:=bc_ hb1 hbl hbx
 have r0:=cg_ hn1 (k:=0) rfl
 have r1:=cg_ hn1 (k:=1) rfl
 have r2:=cg_ hn1 (k:=2) rfl
 have r3:=cg_ hn1 (k:=3) rfl
 have r4:=cg_ hn1 (k:=4) rfl
 have r5:=cg_ hn1 (k:=5) rfl
 have r6:=cg_ hn1 (k:=6) rfl
 have HB:=hid hb1
 clear hn1 hb1
 have H:=hid (h W1 HB.out)
 clear h
 go_enter Tryz.func156,Tryz.ntmps156
 go_wp2_with fail
 refine H.out.mono ?_
 rintro e w' ⟨rfl,hb⟩
 go_wp2_with fail
 go_ret
 exact ⟨rfl,HB.out.trans (hb.mono hz1)⟩
theorem v5_:LF.zn_ 156:=by
 intro args W
 simp [go_sem]
theorem yv_ (g:Nat) (hE:LF.zn_ g) (p:Nat→Bool) (caps:List Value) (n:Nat) (a:Option Addr) (c:Nat) (cs:List Value) (S:Nat→Prop) (w:World) (hl:SlC S w 7 (.slice a n c) n cs) (hS:∀ b,S b→b < w.heap.size) (hlen:n ≤ 100000)
 (hp:∀ i,i < n→zB_ g caps w [qB_ 7 cs i] (p i)) :
 Calls Tryz.prog 107 #[.slice a n c, .func (.func g) #[] caps.toArray] w fun e w'=>e = .returned (.bool (wq_ p n))∧Below w.heap.size w w':=by
 have HP:=hid hp
 clear hp
 have hb0:Below w.heap.size w (w.alloc (.cells #[.func (.func g) #[] caps.toArray] 217)):=(Below.refl _ _).alloc (nl_ _) _
 have hc0:=cg_ (ha_ w (.cells #[.func (.func g) #[] caps.toArray] 217)) (k:=0) rfl
 have CT:=hid (contf_st 156 v5_ (fun i=>!p i) [.pointer (some ⟨w.heap.size,0,none⟩)] n a c cs S _ (SlC.agree hl (qc_ (B:=w.heap.size) hb0 hS)) (fun b hb=>by have:=hS b hb;simp;omega) hlen (fun i hi W hW=>by
  have hW2:=hb0.trans (hW.mono (by simp))
  have:=every1_st g hE caps _ _ _ _ _ _ _ (p i) w.heap.size W (bc_ hW (by simp) hc0) (by have:=hW.size;simp at this;omega) (fun W' hW'=>HP.out i hi W' (hW2.trans (hW'.mono (by have:=hW2.size;omega))))
  exact this))
 have HB:=hid hb0
 clear hb0 hc0
 go_enter Tryz.func107,Tryz.ntmps107
 go_wp2_with fail
 refine CT.out.mono ?_
 rintro e w' ⟨rfl,hb⟩
 go_wp2_with fail
 go_ret
 exact ⟨rfl,HB.out.trans (hb.mono (by simp))⟩
end Go.Proofs.LS