/- Parts of the proof of a law of layer 11 (file): LfRt, LfW48, LfW86, LfSyA, LfW78, LfVal, LfTnB, LfW49, LfW50. The conditions stand in each theorem. -/
import Derived.Test.YtadkpjgpefcphaaGreatDoorProg
import Derived.Test.YtadkpjgpefcphaaGreatDoorTnaa
import Derived.Test.YtadkpjgpefcphaaGreatDoorTnac
import Derived.Test.YtadkpjgpefcphaaGreatDoorTnad
import Derived.Test.YtadkpjgpefcphaaGreatDoorTnae
import Derived.Test.YtadkpjgpefcphaaGreatDoorTnag
import Derived.Test.YtadkpjgpefcphaaGreatDoorTnak
import Derived.Test.YtadkpjgpefcphaaGreatDoorTnal
import Derived.Test.YtadkpjgpefcphaaGreatDoorTnao
import Derived.Test.YtadkpjgpefcphaaGreatDoorTnap
import Derived.Test.YtadkpjgpefcphaaGreatDoorTnaq
import Derived.Test.YtadkpjgpefcphaaGreatDoorTnas
import Derived.Test.YtadkpjgpefcphaaGreatDoorTnat
import Derived.Test.YtadkpjgpefcphaaGreatDoorTnau
import Derived.Test.YtadkpjgpefcphaaGreatDoorTnav
set_option linter.all false
set_option linter.unusedVariables false
set_option linter.unusedSimpArgs false
namespace Go.Proofs.LF
def Chn:List Ky→List NdD→Prop
 | _,[]=>True
 | prev,x :: xs=>(x.up = prev.take x.up.length∧x.up.length ≤ prev.length∧x.up.length ≤ 3∧OkN x)∧Chn (x.up ++ [kyOf x.n x.l]) xs
theorem chn_nodes:∀ (y:Fo) (up prev:List Ky) (rest:List NdD),OkG up.length y→prev.take up.length = up→up.length ≤ prev.length→(∀ prev',prev'.take up.length = up→up.length ≤ prev'.length→Chn prev' rest)→Chn prev (nodesL up y ++ rest)
 | .nil,up,prev,rest,_,h1,h2,h=>by simpa [nodesL] using h prev h1 h2
 | .cons n l s r,up,prev,rest,⟨⟨g1,g2,g3,g4⟩,g5,_,g7⟩,h1,h2,h=>by
   simp only [nodesL,List.cons_append,List.append_assoc]
   refine ⟨⟨h1.symm,h2,g1,g2,g3,g4⟩,?_⟩
   refine chn_nodes s (up ++ [kyOf n l]) _ _ (by simpa using g5) (List.take_of_length_le (nl_ _)) (nl_ _) fun prev' p1 p2=>?_
   have q1:prev'.take up.length = up:=by
    have:=congrArg (List.take up.length) p1
    rw [List.take_take,List.length_append,List.length_singleton,Nat.min_eq_left (by omega),List.take_left] at this
    exact this
   exact chn_nodes r up prev' rest g7 q1 (by simp at p2;omega) h
def flD (x:NdD):Fl:=⟨x.up ++ [kyOf x.n x.l],x.l⟩
theorem prs_nodes (t:List UInt8):∀ (xs:List NdD) (f i ln:Nat) (prev ks:List Ky) (fs:List Fl),t.drop i = txtL xs→xs.length < f→ln + xs.length ≤ 60→Chn prev xs→ks.length = 4→prev.length ≤ 4→ks.take prev.length = prev→Srt (fs ++ xs.map flD) →
 prsG t f i ln (min prev.length 3) ks fs = (fs ++ xs.map flD,0,0,0)
 | [],f + 1,i,ln,prev,ks,fs,h,_,_,_,_,_,_,_=>by
   have:¬ i < t.length:=fun hi=>by
    have:=congrArg List.length h
    rw [List.length_drop] at this
    simp [txtL] at this
    omega
   rw [prsG,if_neg this]
   simp
 | [],0,_,_,_,_,_,_,h,_,_,_,_,_,_=>by omega
 | x :: xs,0,_,_,_,_,_,_,h,_,_,_,_,_,_=>by omega
 | x :: xs,f + 1,i,ln,prev,ks,fs,h,hf,hln,⟨⟨c1,c2,c3,c4⟩,c5⟩,hk,hp4,hkp,hs=>by
   have htx:txtL (x :: xs) = lineB x ++ txtL xs:=by simp [txtL]
   have hlp:0 < (lineB x).length:=by simp [lineB];omega
   have hi:i < t.length:=by
    have:=congrArg List.length h
    rw [List.length_drop,htx,List.length_append] at this
    omega
   simp only [List.length_cons] at hf hln
   rw [prsG,if_pos hi,if_neg (by omega),h,htx,rdLine_txt c4 (by omega)]
   dsimp only
   rw [if_neg (by simp)]
   have hkd:ks.take x.up.length = x.up:=by
    have:=congrArg (List.take x.up.length) hkp
    rw [List.take_take,Nat.min_eq_left c2,← c1] at this
    exact this
   have hks:(ks.set x.up.length (kyOf x.n x.l)).take (x.up.length + 1) = x.up ++ [kyOf x.n x.l]:=by
    rw [List.take_succ_eq_append_getElem (by simp;omega),List.take_set_of_le (nl_ _),hkd]
    simp
   rw [hks]
   have hany:(fs.any fun z=>decide (0 ≤ cmpP z.p (x.up ++ [kyOf x.n x.l]))) = false:=by
    rw [List.any_eq_false]
    intro z hz
    have:=(List.pairwise_append.1 hs).2.2 z hz (flD x) (by simp)
    simp only [flD] at this
    simp only [decide_eq_true_eq]
    omega
   rw [hany,if_neg (by simp)]
   have e1:i + ((lineB x).length - 1) + 1 = i + (lineB x).length:=by omega
   have e2:min (x.up.length + 1) 3 = min (x.up ++ [kyOf x.n x.l]).length 3:=by simp
   have hd:t.drop (i + (lineB x).length) = txtL xs:=by rw [← List.drop_drop,h,htx,List.drop_left]
   rw [e1,e2]
   have:=prs_nodes t xs f (i + (lineB x).length) (ln + 1) (x.up ++ [kyOf x.n x.l]) (ks.set x.up.length (kyOf x.n x.l)) (fs ++ [flD x]) hd (by omega) (by omega) c5 (by simpa using hk) (by simp;omega) (by rw [List.length_append,List.length_singleton];exact hks) (by simpa using hs)
   rw [show (⟨x.up ++ [kyOf x.n x.l],x.l⟩:Fl) = flD x from rfl,this]
   simp
theorem fls_flD (y:Fo):flsL [] y = (nodesL [] y).map flD:=rfl
theorem prs_txt {y:Fo} (h:chkY y = 0):prs (txtL (nodesL [] y)) = (flsL [] y,0,0,0):=by
 have hlen:(nodesL [] y).length ≤ 60:=by rw [nodesL_length];exact chk_cnt h
 have:=prs_nodes (txtL (nodesL [] y)) (nodesL [] y) 62 0 0 [] [ky0,ky0,ky0,ky0] [] rfl (by omega) (by omega) (by
  have:=chn_nodes y [] [] [] (chk_okG h) rfl (nl_ _) (fun _ _ _=>trivial)
  simpa using this) rfl (by simp) rfl (by rw [List.nil_append,← fls_flD];exact fls_srt h)
 rw [prs]
 simpa [fls_flD] using this
end Go.Proofs.LF
namespace Go.Proofs.LF
open Go.RowKit Go.Sort
set_option maxHeartbeats 4000000
set_option maxRecDepth 100000
attribute [local go_sem] bs_toList bs_size bs_get
def bedN:List UInt8:=[98,101,100]
def rakedN:List UInt8:=[114,97,107,101,100]
def soldN:List UInt8:=[115,111,108,100]
def oneY (n:Int):Fo := .cons bedN [3] (.cons rakedN [5,n] .nil .nil) (.cons soldN [] .nil .nil)
theorem FCs.alloc {S:Nat→Prop} {w:World} {y:Fo} {cs:List Value} (h:FCs S w y cs) (hS:∀ b,S b→b < w.heap.size) (o:Obj):FCs S (w.alloc o) y cs:=h.agree (fun b hb=>heap_alloc_old _ _ (hS b hb))
theorem slc_block {S:Nat→Prop} {w:World} {b k n:Nat} {vs:Array Value} {t:TypeId} {fr:Nat × Nat} (hb:w.heap[b]? = some (.cells vs t fr)) (hS:S b) (hl:vs.size = n * k) (hn:n ≤ maxLen):SlC S w k (.slice (some ⟨b,0,none⟩) n n) n vs.toList:=by
 refine ⟨by simpa using hl,_,n,rfl,nl_ _,hn,(fun h=>by cases h), .inr ⟨b,0,rfl,hS,fun j u hj=>?_⟩⟩
 simp only [World.cell?,hb,Nat.zero_add]
 simpa using hj
theorem One_any (n:Int) (w:World) :
 Calls Tryz.prog 80 #[.int .i64 n] w fun e w'=>∃ g,e = .returned (.slice (some ⟨g,0,none⟩) 2 2)∧FSl (Rg w.heap.size w'.heap.size) w' (.slice (some ⟨g,0,none⟩) 2 2) (oneY n)∧Below w.heap.size w w':=by
 go_enter Tryz.func80,Tryz.ntmps80
 go_wp2_with fail
 refine bodyPost_ret (v := .slice (some ⟨w.heap.size + 1 + 1 + 1,0,none⟩) 2 2) (by simp [results,Tryz.results80,go_sem]) rfl ?_
 refine ⟨w.heap.size + 1 + 1 + 1,rfl,?_,?_⟩
 · have key:∀ (N:Nat) (W:World) (A B C D:Obj),A = .cells #[.int .i64 3] 3→B = .cells #[.int .i64 5, .int .i64 n] 3→C = .cells #[.string ⟨#[114,97,107,101,100]⟩, .slice (some ⟨N + 1,0,none⟩) 2 2, .slice none 0 0] 85 →
    D = .cells #[.string ⟨#[98,101,100]⟩, .slice (some ⟨N,0,none⟩) 1 1, .slice (some ⟨N + 1 + 1,0,none⟩) 1 1, .string ⟨#[115,111,108,100]⟩, .slice none 0 0, .slice none 0 0] 85→N = w.heap.size→W = (((w.alloc A).alloc B).alloc C).alloc D→FSl (Rg w.heap.size W.heap.size) W (.slice (some ⟨N + 1 + 1 + 1,0,none⟩) 2 2) (oneY n):=by
    rintro N W A B C D hA hB hC hD hN hW
    have hz:W.heap.size = N + 4:=by rw [hW,hN];simp
    have a0:W.heap[N]? = some A:=by
     rw [hW,hN]
     exact (heap_alloc_old _ _ (by simp;omega)).trans ((heap_alloc_old _ _ (by simp;omega)).trans ((heap_alloc_old _ _ (by simp)).trans (heap_alloc_new w A)))
    have a1:W.heap[N + 1]? = some B:=by
     have h:=heap_alloc_new (w.alloc A) B
     simp only [World.size_alloc] at h
     rw [hW,hN]
     exact (heap_alloc_old _ _ (by simp)).trans ((heap_alloc_old _ _ (by simp)).trans h)
    have a2:W.heap[N + 1 + 1]? = some C:=by
     have h:=heap_alloc_new ((w.alloc A).alloc B) C
     simp only [World.size_alloc] at h
     rw [hW,hN]
     exact (heap_alloc_old _ _ (by simp)).trans h
    have a3:W.heap[N + 1 + 1 + 1]? = some D:=by
     have h:=heap_alloc_new (((w.alloc A).alloc B).alloc C) D
     simp only [World.size_alloc] at h
     rw [hW,hN]
     exact h
    have hS:∀ k,k < 4→Rg w.heap.size W.heap.size (N + k):=fun k hk=>⟨by omega,by omega⟩
    rw [hA] at a0
    rw [hB] at a1
    rw [hC] at a2
    rw [hD] at a3
    have i0:Ints (Rg w.heap.size W.heap.size) W (.slice (some ⟨N,0,none⟩) 1 1) [3]:=slc_block (vs:=#[.int .i64 3]) a0 (hS 0 (by omega)) rfl (by simp [maxLen])
    have i1:Ints (Rg w.heap.size W.heap.size) W (.slice (some ⟨N + 1,0,none⟩) 2 2) [5,n]:=slc_block (vs:=#[.int .i64 5, .int .i64 n]) a1 (hS 1 (by omega)) rfl (by simp [maxLen])
    have nilI:∀ S,Ints S W (.slice none 0 0) []:=fun S=>⟨rfl,none,0,rfl,nl_ _,by simp [maxLen],fun _=>rfl, .inl rfl⟩
    have nilF:∀ S,∃ ds,SlC S W 3 (.slice none 0 0) Fo.nil.len ds∧FCs S W .nil ds:=fun S=>⟨[],⟨rfl,none,0,rfl,nl_ _,by simp [maxLen],fun _=>rfl, .inl rfl⟩,rfl⟩
    have s2:=slc_block (k:=3) (n:=1) (S:=Rg w.heap.size W.heap.size) a2 (hS 2 (by omega)) rfl (by simp [maxLen])
    have s3:=slc_block (k:=3) (n:=2) (S:=Rg w.heap.size W.heap.size) a3 (hS 3 (by omega)) rfl (by simp [maxLen])
    exact ⟨_,s3,_,_,_,rfl,i0,⟨_,s2,_,_,_,rfl,i1,nilF _,rfl⟩,_,_,_,rfl,nilI _,nilF _,rfl⟩
   exact key w.heap.size _ _ _ _ _ rfl rfl rfl rfl rfl rfl
 · exact ((((Below.refl _ _).alloc (nl_ _) _).alloc (by simp) _).alloc (by simp;omega) _).alloc (by simp;omega) _
theorem K_any (s:ByteArray) (x:Int) (g c:Nat) (w:World) (hx:w.cell? ⟨g,0,none⟩ = some (.int .i64 x)) (hg:g < w.heap.size) (hc:1 ≤ c) :
 Calls Tryz.prog 51 #[.string s, .slice (some ⟨g,0,none⟩) 1 c] w fun e w'=>e = .returned (.agg #[.string s, .bool true, .int .i64 x])∧Below w.heap.size w w':=by
 have hx':(w.alloc (.cells #[.string ByteArray.empty, .bool false, .int .i64 0] 71)).cell? ⟨g,0,none⟩ = some (.int .i64 x):=bc_ ((Below.refl w.heap.size _).alloc (nl_ _) _) hg hx
 go_enter Tryz.func51,Tryz.ntmps51
 go_wp2_with fail
 exact bodyPost_ret (v := .agg #[.string s, .bool true, .int .i64 x]) (by simp [results,Tryz.results51,go_sem]) rfl ⟨rfl,((Below.refl _ _).alloc (nl_ _) _)⟩
theorem ky_beq (a b:Ky):decide (a = b) = (a.n == b.n && (a.h == b.h && a.x == b.x)):=by
 obtain ⟨an,ah,ax⟩:=a
 obtain ⟨bn,bh,bx⟩:=b
 by_cases h1:an = bn <;> by_cases h2:ah = bh <;> by_cases h3:ax = bx <;> simp [h1,h2,h3]
theorem eqKeys_any (p q:List Ky) (ap aq:Option Addr) (cp cq:Nat) (S:Nat→Prop) (w:World) (hp:Pth S w (.slice ap p.length cp) p) (hq:Pth S w (.slice aq q.length cq) q) (lp:p.length ≤ 100000) (lq:q.length ≤ 100000) :
 Calls Tryz.prog 42 #[.slice ap p.length cp, .slice aq q.length cq] w fun e w'=>e = .returned (.bool (decide (p = q)))∧Below w.heap.size w w':=by
 by_cases hne:p.length = q.length
 · have hne':((p.length:Int) != (q.length:Int)) = false:=by simp;omega
   have HN:=hid hne
   clear hne
   go_enter Tryz.func42,Tryz.ntmps42
   go_wp2_with fail
   go_loopw [13] (fun i wr=>∃ (k d:Nat),k ≤ p.length∧i = .int .i64 k∧wr = w.drewN d∧Hid (p.take k = q.take k)) (fun i _=>p.length - (intOf i).toNat)
   case atStart=>exact ⟨0,0,by omega,rfl,rfl,by simp [Hid]⟩
   case round=>
    obtain ⟨k,d,hk,rfl,rfl,H2⟩:=hrel
    by_cases hlt:k < p.length
    · obtain ⟨g,o,rfl,_,_,_,hcell⟩:=SlC.cells hp (by omega)
      obtain ⟨g',o',rfl,_,_,_,hcell'⟩:=SlC.cells hq (by have:=HN.out;omega)
      have hlt':k < q.length:=by have:=HN.out;omega
      obtain ⟨k0,k1,k2⟩:=key_cells hlt
      obtain ⟨k0',k1',k2'⟩:=key_cells hlt'
      have c0:=hcell _ _ k0
      have c1:=hcell _ _ k1
      have c2:=hcell _ _ k2
      have d0:=hcell' _ _ k0'
      have d1:=hcell' _ _ k1'
      have d2:=hcell' _ _ k2'
      rw [← Nat.add_assoc] at c1 c2 d1 d2
      have htp:p.take (k + 1) = p.take k ++ [p[k]]:=List.take_succ_eq_append_getElem hlt
      have htq:q.take (k + 1) = q.take k ++ [q[k]]:=List.take_succ_eq_append_getElem hlt'
      obtain ⟨a,ha⟩:∃ a,p[k] = a:=⟨_,rfl⟩
      obtain ⟨b,hb⟩:∃ b,q[k] = b:=⟨_,rfl⟩
      have HA:=hid ha
      have HB:=hid hb
      rw [ha] at c0 c1 c2 htp
      rw [hb] at d0 d1 d2 htq
      have HTP:=hid htp
      have HTQ:=hid htq
      clear hcell hcell' k0 k1 k2 k0' k1' k2' htp htq ha hb
      have i1:(0:Int) ≤ (k:Int):=by omega
      have i2:(k:Int) < (p.length:Int):=by omega
      have i3:(k:Int) < (q.length:Int):=by omega
      by_cases he:a = b
      · subst he
        go_wp2_with fail
        go_quiet (fail)
        go_wp2_with fail
        go_roundw
        case rel=>exact ⟨k + 1,_,by omega,by go_num,rfl,by rw [Hid,HTP.out,HTQ.out,H2.out]⟩
        case measure=>simp [intOf];omega
      · have hdec:(a.n == b.n && (a.h == b.h && a.x == b.x)) = false:=by rw [← ky_beq];simp [he]
        have HE:=hid he
        have HDEC:=hid hdec
        clear he hdec
        cases hn:(a.n == b.n) <;> cases hh:(a.h == b.h) <;> cases hx:(a.x == b.x)
        all_goals first
         | (exfalso;have:=HDEC.out;rw [hn,hh,hx] at this;cases this;done)
         | (go_wp2_with fail
            go_quiet (fail)
            go_wp2_with fail
            go_ret
            refine ⟨ret_bool ?_,below_drewN (below_drewN (Below.refl _ _) _) _⟩
            symm
            rw [decide_eq_false_iff_not]
            rintro rfl
            exact HE.out (HA.out.symm.trans HB.out))
    · go_wp2_with fail
      go_ret
      obtain rfl:k = p.length:=by omega
      refine ⟨ret_bool ?_,below_drewN (Below.refl _ _) _⟩
      symm
      have:=H2.out
      rw [List.take_length,HN.out,List.take_length] at this
      exact decide_eq_true this
 · have hne':((p.length:Int) != (q.length:Int)) = true:=by simp;omega
   have HN:=hid hne
   clear hne
   go_enter Tryz.func42,Tryz.ntmps42
   go_wp2_with fail
   go_ret
   refine ⟨ret_bool ?_,Below.refl _ _⟩
   symm
   rw [decide_eq_false_iff_not]
   rintro rfl
   exact HN.out rfl
end Go.Proofs.LF
namespace Go.Proofs.LF
open Go.RowKit Go.Sort
set_option maxHeartbeats 4000000
set_option maxRecDepth 100000
attribute [local go_sem] bs_toList bs_size bs_get bs_add
def txN (l:List Int):List UInt8:=(l.map fun i=>32 :: Lib.itoa i).flatten
def txD:Nat→Fo→List UInt8
 | _, .nil=>[]
 | d, .cons n l s r=>(List.replicate d 32 ++ n) ++ txN l ++ (10 :: txD (d + 1) s) ++ txD d r
theorem txD_app (d:Nat):∀ (y z:Fo),txD d (y.app z) = txD d y ++ txD d z
 | .nil,_=>rfl
 | .cons n l s r,z=>by simp only [Fo.app,txD,txD_app d r z,List.append_assoc]
theorem txD_take {d k:Nat} {y s r:Fo} {n:List UInt8} {l:List Int} (h:y.drop k = .cons n l s r):txD d (y.take (k + 1)) = txD d (y.take k) ++ (List.replicate d 32 ++ n) ++ txN l ++ (10 :: txD (d + 1) s):=by
 have key:∀ (k:Nat) (y:Fo),y.drop k = .cons n l s r→y.take (k + 1) = (y.take k).app (.cons n l s .nil):=by
  intro k
  induction k with
  | zero=>intro y h;cases y with
    | nil=>cases h
    | cons=>simp only [Fo.drop,Fo.cons.injEq] at h;obtain ⟨rfl,rfl,rfl,rfl⟩:=h;rfl
  | succ k ih=>intro y h;cases y with
    | nil=>cases h
    | cons n' l' s' r'=>simp only [Fo.drop] at h;simp only [Fo.take,Fo.app];rw [ih r' h]
 rw [key k y h,txD_app]
 simp [txD]
theorem txD_txt:∀ (y:Fo) (up:List Ky),txtL (nodesL up y) = txD up.length y
 | .nil,_=>rfl
 | .cons n l s r,up=>by
   have e:∀ (x:NdD) xs,txtL (x :: xs) = lineB x ++ txtL xs:=fun x xs=>by simp [txtL]
   rw [nodesL,e,txtL_app,txD_txt s,txD_txt r,txD,List.length_append,List.length_singleton]
   simp [lineB,join_words,txN]
theorem txN_app (a b:List Int):txN (a ++ b) = txN a ++ txN b:=by simp [txN]
theorem txN_len {l:List Int} (h:badNs l = false):(txN l).length ≤ 5 * l.length:=flat_len (badNs_mem h)
theorem txD_len:∀ (y:Fo) (d:Nat),OkG d y→(txD d y).length ≤ 40 * y.cnt
 | .nil,_,_=>by simp [txD]
 | .cons n l s r,d,⟨⟨h1,h2,h3,h4⟩,h5,_,h7⟩=>by
   have a1:=txD_len s (d + 1) h5
   have a2:=txD_len r d h7
   have a3:=txN_len h4
   have a4:=badNm_len h2
   simp only [txD,List.length_append,List.length_cons,List.length_replicate,Fo.cnt]
   omega
theorem okG_take:∀ (k:Nat) {y:Fo} {d:Nat},OkG d y→OkG d (y.take k)
 | 0,_,_,_=>trivial
 | _ + 1, .nil,_,_=>trivial
 | k + 1, .cons n l s r,d,⟨h1,h2,h3,h4⟩=>⟨h1,h2,fun q hq=>h3 q (by
    have key:∀ (k:Nat) (y:Fo),∀ q ∈ tops (y.take k),q ∈ tops y:=by
     intro k
     induction k with
     | zero=>intro y q hq;cases hq
     | succ k ih=>intro y q hq;cases y with
       | nil=>cases hq
       | cons _ _ _ r => rcases List.mem_cons.1 hq with h | h
                         · simp [tops,h]
                         · simp [tops,ih r q h]
    exact key k r q hq),okG_take k h4⟩
theorem okG_drop:∀ (k:Nat) {y:Fo} {d:Nat},OkG d y→OkG d (y.drop k)
 | 0,_,_,h=>h
 | _ + 1, .nil,_,_=>trivial
 | k + 1, .cons _ _ _ _,_,⟨_,_,_,h4⟩=>okG_drop k h4
theorem rep_eq (d:Nat):Lib.repeatL [32] d = List.replicate d 32:=by
 induction d with
 | zero=>rfl
 | succ d ih=>rw [Lib.repeatL,ih,List.replicate_succ];rfl
theorem rep_any (d:Nat) (w:World) (hd:d ≤ 1000):Calls Tryz.prog 81 #[.string ⟨#[32]⟩, .int .i64 d] w fun e w'=>e = .returned (.string (bs (List.replicate d 32)))∧Below w.heap.size w w':=by
 match d,hd with
 | 0,_=>exact (Tryz.strings_Repeat_zero _ w).mono fun e w' ⟨he,hw⟩=>⟨he,by rw [hw];exact Below.refl _ _⟩
 | 1,_=>exact (Tryz.strings_Repeat_one _ w).mono fun e w' ⟨he,hw⟩=>⟨he,by rw [hw];exact Below.refl _ _⟩
 | d + 2,hd=>
   refine (Tryz.strings_Repeat_main ⟨#[32]⟩ (d + 2) w (by omega) (by omega) (by simp [ByteArray.size];omega) (by simp [ByteArray.size])).mono fun e w' ⟨he,hw⟩=>⟨?_,hw⟩
   rw [he,← rep_eq]
   rfl
theorem text_all (m:Nat):∀ (y:Fo) (d:Nat) (a:Option Addr) (c:Nat) (S:Nat→Prop) (w:World),y.cnt < m→FSl S w (.slice a y.len c) y→(∀ b,S b→b < w.heap.size)→OkG d y→d ≤ 4→y.cnt ≤ 900 →
 Calls Tryz.prog 79 #[.slice a y.len c, .int .i64 d] w fun e w'=>e = .returned (.string (bs (txD d y)))∧Below w.heap.size w w':=by
 induction m with
 | zero=>intro y _ _ _ _ _ h;omega
 | succ m ih=>
 intro y d a c S w hm hy hS hok hd hc9
 have hb0:Bld w.heap.size (.slice none 0 0) [] (w.alloc (.cells #[.pointer none, .slice none 0 0] 144)):=⟨_, .inl rfl,heap_alloc_new _ _,World.ownsRow_nil _ _ _ _,by simp [Value.ownBlock]⟩
 obtain ⟨_,_,he,hcc,hcm,hat⟩:=hy.at
 cases he
 have HAT:=hid hat
 have HB0:=hid hb0
 have IH:=hid ih
 have HS:=hid hS
 have HOK:=hid hok
 have hlc:=len_cnt y
 unfold maxLen at hcm
 clear ih hy hS hat hb0 hok
 go_enter Tryz.func79,Tryz.ntmps79
 go_wp2_with fail
 go_loopw [12] (fun i wr=>∃ (k:Nat) (v:Value),k ≤ y.len∧i = .int .i64 k∧Hid (Bld w.heap.size v (txD d (y.take k)) wr)∧Hid (Below w.heap.size w wr)) (fun i _=>y.len - (intOf i).toNat)
 case atStart=>exact ⟨0, .slice none 0 0,by omega,rfl,by cases y <;> exact HB0.out,(Below.refl _ _).alloc (nl_ _) _⟩
 case round=>
  obtain ⟨k,v,hk,rfl,hb,hB⟩:=hrel
  obtain ⟨w1,hw1⟩:∃ w1,w1 = wr:=⟨_,rfl⟩
  subst hw1
  have hsz:=hB.out.size
  by_cases hlt:k < y.len
  · have hlt':(k:Int) < (y.len:Int):=by omega
    obtain ⟨g,o,n,l,s,r,an,cn,ab,cb,rfl,hg,hdr,m0,m1,m2,hI,hF⟩:=HAT.out k hlt
    have htk:=txD_take (d:=d) hdr
    have hct:=Fo.cnt_take_drop k y
    rw [hdr] at hct
    have hkd:=okG_drop k HOK.out
    rw [hdr] at hkd
    obtain ⟨⟨g1,g2,g3,g4⟩,g5,_,_⟩:=hkd
    have ht1:=txD_len _ d (okG_take k HOK.out)
    simp only [Fo.cnt] at hct
    have ha:=Ag_b hB.out HS.out
    have c0:=ha.cell hg (m0)
    have c1:=ha.cell hg (m1)
    have c2:=ha.cell hg (m2)
    have hn8:=badNm_len g2
    have hI2:=hI.agree ha
    have hF2:=hF.agree ha
    have HTK:=hid htk
    obtain ⟨tx,htx⟩:∃ tx,txD d (y.take k) = tx:=⟨_,rfl⟩
    rw [htx] at hb HTK ht1
    have HG5:=hid g5
    have HN:=hid (badNs_mem g4)
    have HNL:=hid (txN_len g4)
    have HI:=hid hI2
    have HF:=hid hF2
    clear htx htk hdr m0 m1 m2 hI hF hI2 hF2 g5 g2 g4 ha
    have htl:tx.length ≤ 40000:=by omega
    have NBK:=hid (heap_alloc_new w1 (.cells #[.string (bs n), .slice an l.length cn, .slice ab s.len cb] 85))
    have BA:=hid ((Below.refl w1.heap.size w1).alloc (nl_ _) (.cells #[.string (bs n), .slice an l.length cn, .slice ab s.len cb] 85))
    go_upto_region 5 with fail
    obtain ⟨wa,hwa⟩:∃ wa,w1.alloc (.cells #[.string (bs n), .slice an l.length cn, .slice ab s.len cb] 85) = wa:=⟨_,rfl⟩
    have hza:wa.heap.size = w1.heap.size + 1:=by rw [← hwa];simp
    rw [hwa] at NBK BA ⊢
    clear hwa c0 c1 c2
    have n0:=cg_ NBK.out (k:=0) (v := .string (bs n)) rfl
    have n1:=cg_ NBK.out (k:=1) (v := .slice an l.length cn) rfl
    have n2:=cg_ NBK.out (k:=2) (v := .slice ab s.len cb) rfl
    have hBl:=hid (fun q (h:BldO w.heap.size v q)=>BldO.lt hb.out q h)
    have hBg:=hid (fun q (h:BldO w.heap.size v q)=>BldO.ge hb.out q h)
    have hbA:=hb.out.below BA.out
    have HBA:=hid hbA
    have HN1:=hid n1
    have HN2:=hid n2
    have hd':d ≤ 1000:=by omega
    have hS0:wa.drew.cell? ⟨w1.heap.size,0,none⟩ = some (.string (bs n)):=n0
    have HS0:=hid hS0
    clear n0 n1 n2 hbA hS0
    refine (wpIn_wide (n:=9)).1 ?_
    refine region_held (fun w':World=>w'.cell? ⟨w1.heap.size,0,none⟩ = some (.string (bs n))) (by kernel_rfl) ?_
    have hS0:=HS0.out
    refine tkY 0 16 (.int .i64 d) rfl rfl hS0 (fun w' hs=>?_) ?_
    · go_simp
    refine tkY 2 18 (.pointer (some ⟨w1.heap.size,0,none⟩)) rfl rfl hS0 (fun w' hs=>?_) ?_
    · go_simp
    refine tkY 3 19 (.string (bs n)) rfl rfl hS0 (fun w' hs=>?_) ?_
    · have q0:=hs
      go_simp
    refine AnyH_one (i:=1) (by kernel_rfl) rfl (by kernel_rfl) (fun K hK=>?_)
    go_simp
    refine ⟨trivial,(callsIn_wide.2 (rep_any d wa.drew hd')).mono ?_⟩
    rintro e w5 ⟨he5,hb5⟩
    subst he5
    have hS5:w5.cell? ⟨w1.heap.size,0,none⟩ = some (.string (bs n)):=bc_ hb5 (by simp;omega) HS0.out
    refine hK _ _ ⟨hS5,?_⟩
    clear hK
    have hz5:=hb5.size
    simp only [World.size_drew] at hz5
    have HB5:=hid hb5
    refine tkY 4 20 (.string (bs (List.replicate d 32 ++ n))) rfl rfl hS5 (fun w' hs=>?_) ?_
    · go_simp
      omega
    refine AnyH_one (i:=5) (by kernel_rfl) rfl (by kernel_rfl) (fun K hK=>?_)
    go_simp
    refine ⟨trivial,(callsIn_wide.2 (WriteString_any w.heap.size v tx (List.replicate d 32 ++ n) w5 ((HBA.out.below (Below.refl _ _).drew).below HB5.out) (by omega) (by simp;omega))).mono ?_⟩
    rintro e w6 ⟨he6,v6,hb6,hk6,hj6⟩
    subst he6
    have hS6:w6.cell? ⟨w1.heap.size,0,none⟩ = some (.string (bs n)):=hk6.cell (by omega) (fun h=>by have:=hBl.out _ h;omega) hS5
    refine hK _ _ ⟨hS6,?_⟩
    clear hK
    refine AnyH_done (by kernel_rfl) ?_
    go_simp
    have hz6:=hk6.size
    have hk6b:Below w.heap.size w5 w6:=hk6.below (by omega) (fun b hb' ho=>by have:=hBg.out b ho;omega)
    have h36:Below w.heap.size w1 w6:=((BA.out.drew.trans (HB5.out.mono (by simp;omega))).mono hsz).trans hk6b
    have H36:=hid h36
    have HB6:=hid (hB.out.trans h36)
    have q1:w6.cell? ⟨w1.heap.size,1,none⟩ = some (.slice an l.length cn):=hk6.cell (by omega) (fun h=>by have:=hBl.out _ h;omega) (bc_ HB5.out (by simp;omega) HN1.out)
    have q2:w6.cell? ⟨w1.heap.size,2,none⟩ = some (.slice ab s.len cb):=hk6.cell (by omega) (fun h=>by have:=hBl.out _ h;omega) (bc_ HB5.out (by simp;omega) HN2.out)
    have Q2:=hid q2
    have HBD:=hid hb6
    have HJ:=hid (fun q (h:BldO w.heap.size v6 q)=>show q ≠ w1.heap.size from by
     rcases hj6 q h with h' | h'
     · have:=hBl.out q h';omega
     · omega)
    have hcaps:=SlC.caps HI.out
    clear hk6b h36 hk6 hj6 hb6 hb5 hS5 hS6 hS0 HN1 HN2 HBA HB5 hBl hBg NBK BA q2
    go_wp2_with fail
    go_loopw [25] (fun i w2=>∃ (j:Nat) (v2:Value),j ≤ l.length∧i = .int .i64 j∧Hid (Bld w.heap.size v2 (tx ++ (List.replicate d 32 ++ n) ++ txN (l.take j)) w2)∧Hid (Below w.heap.size w w2)∧Hid (Below w.heap.size w1 w2)∧Hid (w2.cell? ⟨w1.heap.size,2,none⟩ = some (.slice ab s.len cb))∧Hid (∀ q,BldO w.heap.size v2 q→q ≠ w1.heap.size)) (fun i _=>l.length - (intOf i).toNat)
    case atStart=>exact ⟨0,v6,by omega,rfl,by simpa [Hid,txN] using HBD.out,HB6,H36,Q2,HJ⟩
    case round=>
     obtain ⟨j,v2,hj,rfl,HBD2,HB2,H32,Q22,HJ2⟩:=hrel
     have hz2:=HB2.out.size
     have hzr2:w1.heap.size < wr.heap.size:=by
      have:=Q22.out
      rcases Nat.lt_or_ge w1.heap.size wr.heap.size with h | h
      · exact h
      · exfalso
        simp only [World.cell?] at this
        rw [Array.getElem?_eq_none h] at this
        cases this
     by_cases hjl:j < l.length
     · have hjl':(j:Int) < (l.length:Int):=by omega
       obtain ⟨g',o',rfl,hg',_,_,hcl⟩:=SlC.cells HI.out (by omega)
       have e0:=(Ag_b H32.out HS.out).cell hg' (hcl j _ (by rw [List.getElem?_map,List.getElem?_eq_getElem hjl];rfl))
       have hx:=HN.out l[j] (List.getElem_mem hjl)
       have htn:txN (l.take (j + 1)) = txN (l.take j) ++ 32 :: Lib.itoa l[j]:=by
        rw [List.take_succ_eq_append_getElem hjl,txN_app];simp [txN]
       obtain ⟨z,hz⟩:∃ z:Nat,l[j] = (z:Int):=⟨l[j].toNat,by omega⟩
       rw [hz] at e0 hx htn
       have hit:Lib.itoa (z:Int) = Lib.decDigits z:=by unfold Lib.itoa;rw [if_neg (by omega)];rfl
       rw [hit] at htn
       have hdl:=dig_len 3 z (by simp;omega)
       have hng:¬ 9223372036854775807 < 1 + (Lib.decDigits z).length:=by omega
       have htl2:(txN (l.take j)).length ≤ 1000:=by
        have h1:=HNL.out
        have h2:(txN (l.take j)).length ≤ (txN l).length:=by
         have h4:txN l = txN (l.take j) ++ txN (l.drop j):=by
          rw [← txN_app,List.take_append_drop]
         rw [h4,List.length_append];omega
        omega
       have HTN:=hid htn
       clear hcl hz hit htn
       go_wp2_with fail
       refine (decimal_any z wr (by omega)).mono ?_
       rintro e w3 ⟨rfl,hb3⟩
       have hz3:=hb3.size
       have HB3:=hid hb3
       have hbl3:=HBD2.out.below hb3
       have HBL3:=hid hbl3
       have hBg:=hid (fun q (h:BldO w.heap.size v2 q)=>BldO.ge HBD2.out q h)
       have Q3:=hid (bc_ hb3 hzr2 Q22.out)
       clear hb3 hbl3 e0
       go_wp2_with fail
       refine (WriteString_any w.heap.size v2 _ (32 :: Lib.decDigits z) w3 HBL3.out (by simp only [List.length_append,List.length_replicate];omega) (by simp;omega)).mono ?_
       rintro e w4 ⟨rfl,v4,hb4,hk4,hj4⟩
       have hz4:=hk4.size
       have hkb:Below w.heap.size wr w4:=(HB3.out.mono hz2).trans (hk4.below (by omega) (fun b hb' ho=>by have:=hBg.out b ho;omega))
       have HKB:=hid hkb
       have Q4:=hid (hk4.cell (by omega) (fun h=>HJ2.out _ h rfl) Q3.out)
       have HB4:=hid hb4
       have HJ4:=hid (fun q (h:BldO w.heap.size v4 q)=>show q ≠ w1.heap.size from by
        rcases hj4 q h with h' | h'
        · exact HJ2.out q h'
        · omega)
       clear hkb hk4 hj4 hb4
       go_wp2_with fail
       go_roundw
       case rel=>exact ⟨j + 1,v4,by omega,by go_num,by rw [Hid,HTN.out,← List.append_assoc];exact HB4.out,hid (HB2.out.trans HKB.out),hid (H32.out.trans HKB.out),Q4,HJ4⟩
       case measure=>simp [intOf];omega
     · have hjl':¬ (j:Int) < (l.length:Int):=by omega
       obtain rfl:j = l.length:=by omega
       rw [List.take_length] at HBD2
       have q2:=Q22.out
       have hF3:=HF.out.agree (Ag_b H32.out HS.out)
       have REC:=hid (IH.out s (d + 1) ab cb S wr (by omega) hF3 (fun b hb'=>by have:=HS.out b hb';omega) HG5.out (by omega) (by omega))
       rw [show ((d + 1:Nat):Int) = (d:Int) + 1 by omega] at REC
       have hsl:=txD_len s (d + 1) HG5.out
       have hng:¬ 9223372036854775807 < 1 + (txD (d + 1) s).length:=by omega
       have htl2:=HNL.out
       clear hF3
       go_wp2_with fail
       refine REC.out.mono ?_
       rintro e w3 ⟨rfl,hb3⟩
       have hz3:=hb3.size
       have HB3:=hid hb3
       have hbl3:=HBD2.out.below hb3
       have HBL3:=hid hbl3
       have hBg:=hid (fun q (h:BldO w.heap.size v2 q)=>BldO.ge HBD2.out q h)
       clear hb3 hbl3 REC
       go_wp2_with fail
       refine (WriteString_any w.heap.size v2 _ (10 :: txD (d + 1) s) w3 HBL3.out (by simp only [List.length_append,List.length_replicate];omega) (by simp;omega)).mono ?_
       rintro e w4 ⟨rfl,v4,hb4,hk4,hj4⟩
       have hz4:=hk4.size
       have hkb:Below w.heap.size wr w4:=(HB3.out.mono hz2).trans (hk4.below (by omega) (fun b hb' ho=>by have:=hBg.out b ho;omega))
       have HKB:=hid hkb
       have HB4:=hid hb4
       clear hkb hk4 hj4 hb4
       go_wp2_with fail
       go_roundw
       case rel=>exact ⟨k + 1,v4,by omega,by go_num,by rw [Hid,HTK.out];exact HB4.out,hid (HB2.out.trans HKB.out)⟩
       case measure=>simp [intOf];omega
  · obtain rfl:k = y.len:=by omega
    have hlt':¬ (y.len:Int) < (y.len:Int):=by omega
    go_wp2_with fail
    refine (Tryz.Builder_String_any_k _ _ _ _ (Lib.IsBuilderF.of hb.out.is) (Nat.le_of_lt hb.out.lt)).mono ?_
    rintro e W2 ⟨rfl,_,hbw,_⟩
    have HBW:=hid hbw
    clear hbw
    go_wp2_with fail
    go_ret
    rw [Fo.take_len]
    exact ⟨rfl,hB.out.trans HBW.out⟩
end Go.Proofs.LF
namespace Go.Proofs.LF
def FlOk (x:Fl):Prop:=x.p.length ≤ 4∧(∃ v n,x.p = v ++ [kyOf n x.l]∧badNm n = false)∧x.l.length ≤ 4∧badNs x.l = false
theorem tops_fls:∀ (r:Fo) (u:List Ky),∀ k ∈ tops r,∃ x ∈ flsL u r,x.p = u ++ [k]
 | .nil,_,k,h=>by cases h
 | .cons n l s r,u,k,h=>by
   rw [flsL_cons]
   rcases List.mem_cons.1 h with rfl | h
   · exact ⟨_,List.mem_cons_self ..,rfl⟩
   · obtain ⟨x,hx,hp⟩:=tops_fls r u k h
     exact ⟨x,by simp [hx],hp⟩
theorem okG_fls:∀ (y:Fo) (u:List Ky),Srt (flsL u y)→(∀ x ∈ flsL u y,FlOk x)→OkG u.length y
 | .nil,_,_,_=>trivial
 | .cons n l s r,u,hs,hf=>by
   rw [flsL_cons] at hs hf
   obtain ⟨s1,s2⟩:=List.pairwise_cons.1 hs
   obtain ⟨s3,s4,_⟩:=List.pairwise_append.1 s2
   obtain ⟨f1,⟨v,n',f2,f3⟩,f4,f5⟩:=hf _ (List.mem_cons_self ..)
   simp only [List.length_append,List.length_singleton] at f1
   have hk:=List.append_inj_right' f2 rfl
   simp only [List.cons.injEq,and_true] at hk
   have hn:n = n':=by have:=congrArg Ky.n hk;rwa [kyOf_n,kyOf_n] at this
   subst hn
   refine ⟨⟨by omega,f3,f4,f5⟩,?_,fun k hk'=>?_,okG_fls r u s4 fun x hx=>hf x (by simp [hx])⟩
   · have:=okG_fls s (u ++ [kyOf n l]) s3 fun x hx=>hf x (by simp [hx])
     simpa using this
   · obtain ⟨x,hx,hxp⟩:=tops_fls r u k hk'
     have:=s1 x (by simp [hx])
     rw [hxp,cmpP_same] at this
     simp only [cmpP] at this
     rcases Int.lt_trichotomy (byK (kyOf n l) k) 0 with h | h | h
     · exact h
     · simp [h] at this
     · rw [if_pos (by omega)] at this;omega
theorem okG_chk0 {y:Fo} (h:OkG 0 y) (hc:y.cnt ≤ 60):chkY y = 0:=by rw [okG_chk h,if_pos hc]
end Go.Proofs.LF
namespace Go.Proofs.LF
open Go.RowKit Go.Sort
def Bd (y:Fo):Prop:=y.len ≤ 1000∧y.Sm∧y.cnt ≤ 900
def In (W:World) (v:Value) (y:Fo):Prop:=FSl (fun q=>q < W.heap.size) W v y
theorem In.on {W W':World} {v:Value} {y:Fo} (h:In W v y) (hb:Below W.heap.size W W'):In W' v y:=FSl.on h hb
def PaIn (W:World) (v:Value) (ps:List (List Ky)):Prop:=PaSl (fun q=>q < W.heap.size) W v ps
theorem PaIn.on {W W':World} {v:Value} {ps:List (List Ky)} (h:PaIn W v ps) (hb:Below W.heap.size W W'):PaIn W' v ps:=LSl.on h hb
def IsIn (W:World) (v:Value) (l:List Int):Prop:=Ints (fun q=>q < W.heap.size) W v l
theorem IsIn.on {w w':World} {v:Value} {l:List Int} (h:IsIn w v l) (hb:Below w.heap.size w w'):IsIn w' v l:=
 (Ints.agree h (Ag_b hb fun _ h=>h)).wide fun b hq=>by have:=hb.size;omega
def PtIn (W:World) (v:Value) (l:List Ky):Prop:=Pth (fun q=>q < W.heap.size) W v l
theorem PtIn.on {w w':World} {v:Value} {l:List Ky} (h:PtIn w v l) (hb:Below w.heap.size w w'):PtIn w' v l:=
 (Pth.agree h (Ag_b hb fun _ h=>h)).wide fun b hq=>by have:=hb.size;omega
def ChIn (W:World) (v:Value) (l:List Ch):Prop:=ChSl (fun q=>q < W.heap.size) W v l
theorem ChIn.on {W W':World} {v:Value} {ps:List Ch} (h:ChIn W v ps) (hb:Below W.heap.size W W'):ChIn W' v ps:=LSl.on h hb
theorem check_c (y:Fo) (a:Option Addr) (c:Nat) (W:World) (hy:In W (.slice a y.len c) y) (hb:Bd y):Calls Tryz.prog 23 #[.slice a y.len c] W fun e w'=>e = .returned (.int .i64 (chkY y))∧Below W.heap.size W w':=
 Check_any y a c _ W hy (fun _ h=>h) hb.1 hb.2.1 hb.2.2
def AllP (W w':World) (v:Value) (ps:List (List Ky)) (n:Nat) (cs:List Value):Prop:=n = ps.length∧w'.ownsRow W.heap.size 65 1 v n cs∧∃ T:Nat→Prop,LCs rdPa T w' ps cs∧∀ b,T b→W.heap.size ≤ b∧b < w'.heap.size∧v.ownBlock ≠ some b
theorem AllP.news {W w':World} {a:Option Addr} {n c:Nat} {ps:List (List Ky)} {cs:List Value} (h:AllP W w' (.slice a n c) ps n cs):cs.length = n * 1∧(a = none→n = 0∧c = 0)∧(∀ ad,a = some ad→∀ (j:Nat) (u:Value),cs[j]? = some u→w'.cell? (ad.add j) = some u)∧(∀ u ∈ cs,u.oneCell' = true):=by
 obtain ⟨_,h1,T,h2,h3⟩:=h
 have s1:=SlC.of_owns h1
 exact ⟨h1.1,fun h=>(SlC.caps s1).2.2 h,SlC.news s1 Agree.refl,LCs.one h2⟩
theorem okF_bd {y:Fo} (h:OkF 0 y) (hc:y.cnt ≤ 900):Bd y:=⟨by have:=len_cnt y;omega,okF_sm y 0 h (by omega),hc⟩
def PAt (W w':World):Prop:=Hp W.heap.size (fun q=>q < W.heap.size) w'∧w'.heap.size = W.heap.size + 1∧Below W.heap.size W w'
def ByIn (W:World) (v:Value) (l:List Int):Prop:=Byt (fun q=>q < W.heap.size) W v l
theorem ByIn.on {W W':World} {v:Value} {l:List Int} (h:ByIn W v l) (hb:Below W.heap.size W W'):ByIn W' v l:=
 (SlC.agree h (Ag_b hb fun _ h=>h)).wide fun b hq=>by have:=hb.size;omega
theorem pile_c (l:List Int) (a:Option Addr) (c:Nat) (W:World) (h:ByIn W (.slice a l.length c) l) :
 Calls Tryz.prog 38 #[.slice a l.length c] W fun e w'=>e = .returned (.pointer (some ⟨W.heap.size,0,none⟩))∧PAt W w':=
 (Pile_any a l c _ W h (fun _ h=>h)).mono fun e w' ⟨he,h1,h2,h3⟩=>⟨he,h1,h2,h3⟩
theorem okF_few {y:Fo} (h:OkF 0 y) (hc:y.cnt ≤ 60):chkY y = 0:=by rw [okF_chk h,if_pos hc]
end Go.Proofs.LF
namespace Go.Proofs.LF
def txt1:List UInt8:=[98,101,100,32,51,10,32,114,97,107,101,100,32,53,32,55,10,115,111,108,100,10]
def txt2:List UInt8:=[98,101,100,32,51,10,32,32,114,97,107,101,100,32,53,10]
def bed3:Ky:=⟨bedN,true,3⟩
def raked5:Ky:=⟨rakedN,true,5⟩
def raked6:Ky:=⟨rakedN,true,6⟩
def oneB (n:Int):Fo := .cons bedN [3] (.cons rakedN [5,n] .nil .nil) .nil
def oneS:Fo := .cons soldN [] .nil .nil
def oneM:Fo := .cons bedN [3] (.cons rakedN [5,7] .nil (.cons rakedN [6] .nil .nil)) (.cons soldN [] .nil .nil)
def difV:List Ch:=[⟨[bed3,raked5],true,true,[5,7],[5,8]⟩,⟨[⟨soldN,false,0⟩],true,false,[],[]⟩]
theorem val_chk:chkY (oneY 7) = 0:=by decide +kernel
theorem val_txt:txtL (nodesL [] (oneY 7)) = txt1:=by decide +kernel
theorem val_prs1:(prs txt1).2 = (0,0,0)∧prsY txt1 = oneY 7:=by decide +kernel
theorem val_prs2:(prs txt2).2 = (1,1,11)∧prsY txt2 = .nil:=by decide +kernel
theorem val_dif:difE (oneY 7) (oneB 8) = 0∧difL (oneY 7) (oneB 8) = difV:=by decide +kernel
theorem val_get:getE (oneY 7) [bed3,raked5] = 0∧getN (oneY 7) [bed3,raked5] = (rakedN,[5,7], .nil):=by decide +kernel
theorem val_put:putE (oneY 7) [bed3] rakedN [6] .nil = 0∧putY (oneY 7) [bed3] rakedN [6] .nil = oneM:=by decide +kernel
theorem val_join:joE (oneY 7) oneS oneM = 0∧joY (oneY 7) oneS oneM = oneS∧joP (oneY 7) oneS oneM = [[bed3,raked6]]:=by decide +kernel
end Go.Proofs.LF
namespace Go.Proofs.LF
def lnF (x:Fl):List UInt8:=List.replicate (x.p.length - 1) 32 ++ (Lib.join (wordsL (x.p.getLastD ky0).n x.l) [32] ++ [10])
theorem lnF_flD (x:NdD):lnF (flD x) = lineB x:=by
 simp only [lnF,flD,lineB,List.length_append,List.length_singleton,Nat.add_sub_cancel]
 rw [List.getLastD_concat,kyOf_n]
theorem txt_flD (xs:List NdD):txtL xs = ((xs.map flD).map lnF).flatten:=by
 rw [txtL,List.map_map]
 congr 1
 exact List.map_congr_left fun x _=>(lnF_flD x).symm
theorem step_path {ks:List Ky} {d:Nat} {k:Ky} (h:d < ks.length):(ks.set d k).take (d + 1) = ks.take d ++ [k]:=by
 rw [List.take_succ_eq_append_getElem (by simpa using h),List.take_set_of_le (nl_ _)]
 simp
theorem rd_ok {dp:Nat} {s:List UInt8} (h:¬ (rdLine dp s).2.2.2.2 = false):rdLine dp s = ((rdLine dp s).1,(rdLine dp s).2.1,(rdLine dp s).2.2.1,(rdLine dp s).2.2.2.1,true):=by
 have:(rdLine dp s).2.2.2.2 = true:=by simpa using h
 rw [← this]
theorem prs_good (t:List UInt8):∀ (f i ln dp:Nat) (ks:List Ky) (fs L:List Fl),f + ln = 62→ln ≤ 60→ks.length = 4→dp ≤ 3→prsG t f i ln dp ks fs = (L,0,0,0)→∃ xs:List NdD,L = fs ++ xs.map flD∧t.drop i = txtL xs∧∀ x ∈ xs,OkN x∧x.up.length ≤ 3
 | 0,_,_,_,_,_,_,h,h',_,_,_=>by omega
 | f + 1,i,ln,dp,ks,fs,L,hf,hl,h4,h3,h=>by
   rw [prsG] at h
   by_cases hi:i < t.length
   · rw [if_pos hi] at h
     by_cases h60:60 ≤ ln
     · rw [if_pos h60] at h;simp at h
     rw [if_neg h60] at h
     dsimp only at h
     by_cases hr:(rdLine dp (t.drop i)).2.2.2.2 = false
     · rw [if_pos hr] at h;simp at h
     rw [if_neg hr] at h
     have hok:=rd_ok hr
     obtain ⟨d,hd⟩:∃ d,(rdLine dp (t.drop i)).1 = d:=⟨_,rfl⟩
     obtain ⟨n,hn⟩:∃ n,(rdLine dp (t.drop i)).2.1 = n:=⟨_,rfl⟩
     obtain ⟨l,hl'⟩:∃ l,(rdLine dp (t.drop i)).2.2.1 = l:=⟨_,rfl⟩
     obtain ⟨c,hc⟩:∃ c,(rdLine dp (t.drop i)).2.2.2.1 = c:=⟨_,rfl⟩
     rw [hd,hn,hl',hc] at hok h
     obtain ⟨hdd,hrev⟩:=rdLine_rev hok
     obtain ⟨o1,o2,R,o3⟩:=hrev (ks.take d) .nil (by rw [List.length_take];omega)
     rw [step_path (by omega)] at h
     split at h
     · simp at h
     · obtain ⟨xs,g1,g2,g3⟩:=prs_good t f (i + c + 1) (ln + 1) (min (d + 1) 3) (ks.set d (kyOf n l)) _ L (by omega) (by omega) (by simpa using h4) (by omega) h
       refine ⟨⟨ks.take d,n,l, .nil⟩ :: xs,?_,?_,fun x hx=>?_⟩
       · rw [g1];simp [flD]
       · have e:t.drop (i + c + 1) = R:=by rw [Nat.add_assoc,← List.drop_drop,o3,← o2,List.drop_left]
         rw [o3,← e,g2];simp [txtL]
       · rcases List.mem_cons.1 hx with rfl | hx
         · exact ⟨o1,by simp only [List.length_take];omega⟩
         · exact g3 x hx
   · rw [if_neg hi] at h
     simp only [Prod.mk.injEq,and_true] at h
     exact ⟨[],by simp [h],by rw [List.drop_eq_nil_of_le (by omega)];rfl,fun x hx=>by cases hx⟩
theorem prs_err (t:List UInt8):∀ (f i ln dp:Nat) (ks:List Ky) (fs L:List Fl) (ln' col e:Nat),f + ln = 62→ln ≤ 60→ks.length = 4→dp ≤ 3→prsG t f i ln dp ks fs = (L,ln',col,e)→e ≠ 0 →
 ∃ (xs:List NdD) (dp':Nat) (R0:List UInt8),ln' = ln + xs.length∧ln' ≤ 60∧t.drop i = txtL xs ++ R0∧R0 ≠ []∧L = []∧(∀ x ∈ xs,OkN x) ∧
  ((e = 2∧ln' = 60) ∨ (ln' < 60∧e = 11∧∃ d n l,rdLine dp' R0 = (d,n,l,col,false)) ∨ (ln' < 60∧e = 4∧∃ n l c,rdLine dp' R0 = (col,n,l,c,true))) ∧
  ∀ (t' R:List UInt8),t'.drop i = txtL xs ++ R→(R = []→∃ L',prsG t' f i ln dp ks fs = (L',0,0,0))∧(R ≠ []→ln' < 60→∀ d n l c,rdLine dp' R = (d,n,l,c,false)→prsG t' f i ln dp ks fs = ([],ln',c,11))
 | 0,_,_,_,_,_,_,_,_,_,h,h',_,_,_,_=>by omega
 | f + 1,i,ln,dp,ks,fs,L,ln',col,e,hf,hl,h4,h3,h,he=>by
   have stop:∀ t' R:List UInt8,t'.drop i = txtL [] ++ R→(R = []→∃ L',prsG t' (f + 1) i ln dp ks fs = (L',0,0,0))∧(R ≠ []→ln < 60→∀ d n l c,rdLine dp R = (d,n,l,c,false)→prsG t' (f + 1) i ln dp ks fs = ([],ln,c,11)):=fun t' R hR=>by
    have hR:t'.drop i = R:=by simpa [txtL] using hR
    refine ⟨fun h0=>?_,fun h0 h60 d n l c hrd=>?_⟩
    · have hi:¬ i < t'.length:=fun hi=>by
       have:=congrArg List.length hR
       rw [h0,List.length_drop] at this
       simp at this;omega
      exact ⟨fs,by rw [prsG,if_neg hi]⟩
    · have hi:i < t'.length:=by
       have:=congrArg List.length hR
       have h1:=List.length_pos_iff.2 h0
       rw [List.length_drop] at this
       omega
      rw [prsG,if_pos hi,if_neg (by omega),hR,hrd]
      simp
   rw [prsG] at h
   by_cases hi:i < t.length
   · rw [if_pos hi] at h
     have hne:t.drop i ≠ []:=fun e0=>by
      have:=congrArg List.length e0
      rw [List.length_drop] at this
      simp at this;omega
     by_cases h60:60 ≤ ln
     · rw [if_pos h60] at h
       simp only [Prod.mk.injEq] at h
       obtain ⟨rfl,rfl,rfl,rfl⟩:=h
       exact ⟨[],dp,t.drop i,rfl,hl,by simp [txtL],hne,rfl,(fun x hx=>by cases hx), .inl ⟨rfl,by omega⟩,stop⟩
     rw [if_neg h60] at h
     dsimp only at h
     by_cases hr:(rdLine dp (t.drop i)).2.2.2.2 = false
     · rw [if_pos hr] at h
       simp only [Prod.mk.injEq] at h
       obtain ⟨rfl,rfl,rfl,rfl⟩:=h
       exact ⟨[],dp,t.drop i,rfl,hl,by simp [txtL],hne,rfl,(fun x hx=>by cases hx), .inr (.inl ⟨by omega,rfl,(rdLine dp (t.drop i)).1,(rdLine dp (t.drop i)).2.1,(rdLine dp (t.drop i)).2.2.1,by rw [← hr]⟩),stop⟩
     rw [if_neg hr] at h
     have hok:=rd_ok hr
     obtain ⟨d,hd⟩:∃ d,(rdLine dp (t.drop i)).1 = d:=⟨_,rfl⟩
     obtain ⟨n,hn⟩:∃ n,(rdLine dp (t.drop i)).2.1 = n:=⟨_,rfl⟩
     obtain ⟨l,hl'⟩:∃ l,(rdLine dp (t.drop i)).2.2.1 = l:=⟨_,rfl⟩
     obtain ⟨c,hc⟩:∃ c,(rdLine dp (t.drop i)).2.2.2.1 = c:=⟨_,rfl⟩
     rw [hd,hn,hl',hc] at hok h
     obtain ⟨hdd,hrev⟩:=rdLine_rev hok
     obtain ⟨o1,o2,R,o3⟩:=hrev (ks.take d) .nil (by rw [List.length_take];omega)
     have hul:(ks.take d).length = d:=by rw [List.length_take];omega
     by_cases hany:(fs.any fun x=>decide (0 ≤ cmpP x.p ((ks.set d (kyOf n l)).take (d + 1)))) = true
     · rw [if_pos hany] at h
       simp only [Prod.mk.injEq] at h
       obtain ⟨rfl,rfl,rfl,rfl⟩:=h
       exact ⟨[],dp,t.drop i,rfl,hl,by simp [txtL],hne,rfl,(fun x hx=>by cases hx), .inr (.inr ⟨by omega,rfl,n,l,c,hok⟩),stop⟩
     · rw [if_neg hany] at h
       obtain ⟨xs,dp',R0,g1,g2,g3,g4,g5,g6,g7,g8⟩:=prs_err t f (i + c + 1) (ln + 1) (min (d + 1) 3) (ks.set d (kyOf n l)) _ L ln' col e (by omega) (by omega) (by simpa using h4) (by omega) h he
       have e1:t.drop (i + c + 1) = R:=by rw [Nat.add_assoc,← List.drop_drop,o3,← o2,List.drop_left]
       have etx:txtL (⟨ks.take d,n,l, .nil⟩ :: xs) = lineB ⟨ks.take d,n,l, .nil⟩ ++ txtL xs:=by simp [txtL]
       refine ⟨⟨ks.take d,n,l, .nil⟩ :: xs,dp',R0,by simp only [List.length_cons];omega,g2,?_,g4,g5,fun x hx=>?_,g7,fun t' R' hR'=>?_⟩
       · rw [o3,← e1,g3,etx,List.append_assoc]
       · rcases List.mem_cons.1 hx with rfl | hx
         · exact o1
         · exact g6 x hx
       · rw [etx,List.append_assoc] at hR'
         have hi':i < t'.length:=by
          have:=congrArg List.length hR'
          rw [List.length_drop,List.length_append,o2] at this
          omega
         have hrd:rdLine dp (t'.drop i) = (d,n,l,c,true):=by
          have:=rdLine_txt o1 (dp:=dp) (by simp only [hul];exact hdd) (txtL xs ++ R')
          rw [← hR'] at this
          rw [this]
          simp only [hul,o2,Nat.add_sub_cancel]
         have hstep:prsG t' (f + 1) i ln dp ks fs = prsG t' f (i + c + 1) (ln + 1) (min (d + 1) 3) (ks.set d (kyOf n l)) (fs ++ [⟨(ks.set d (kyOf n l)).take (d + 1),l⟩]):=by
          rw [prsG,if_pos hi',if_neg h60,hrd]
          dsimp only
          rw [if_neg (by simp),if_neg hany]
         rw [hstep]
         exact g8 t' R' (by rw [Nat.add_assoc,← List.drop_drop,hR',← o2,List.drop_left])
   · rw [if_neg hi] at h
     simp only [Prod.mk.injEq] at h
     obtain ⟨_,_,_,rfl⟩:=h
     exact absurd rfl he
theorem line_form {x:NdD} (h:OkN x):∃ A,lineB x = A ++ [10]∧(10:UInt8) ∉ A:=by
 obtain ⟨h1,h2,h3⟩:=h
 refine ⟨List.replicate x.up.length 32 ++ Lib.join (wordsL x.n x.l) [32],by simp [lineB],?_⟩
 rw [join_words]
 simp only [List.mem_append,List.mem_replicate,List.mem_flatten,List.mem_map,not_or]
 refine ⟨by simp,fun hc=>?_,?_⟩
 · have:=badNm_small h1 _ hc
   simp [smallB,inB] at this
 · rintro ⟨q,⟨i,hi,rfl⟩,hq⟩
   have hi':=badNs_mem h3 i hi
   rcases List.mem_cons.1 hq with h' | h'
   · exact absurd h' (by decide)
   · unfold Lib.itoa at h'
     rw [if_neg (by omega)] at h'
     have:=(decN_dec (i.toNat + 1) i.toNat (by omega)).2 _ h'
     simp [digitB,inB] at this
theorem pcs_txt:∀ (xs:List NdD) (R:List UInt8),(∀ x ∈ xs,OkN x)→pcs (txtL xs ++ R) = xs.map lineB ++ pcs R
 | [],R,_=>by simp [txtL]
 | x :: xs,R,h=>by
   obtain ⟨A,h1,h2⟩:=line_form (h x (by simp))
   have:txtL (x :: xs) ++ R = A ++ 10 :: (txtL xs ++ R):=by
    have:txtL (x :: xs) = lineB x ++ txtL xs:=by simp [txtL]
    rw [this,h1];simp
   rw [this,pcs_line h2,pcs_txt xs R fun z hz=>h z (by simp [hz]),List.map_cons,h1]
   rfl
theorem count_txt:∀ (xs:List NdD),xs.length ≤ (txtL xs).count 10
 | []=>by simp
 | x :: xs=>by
   have h1:txtL (x :: xs) = lineB x ++ txtL xs:=by simp [txtL]
   have h2:=count_txt xs
   have h3:1 ≤ (lineB x).count 10:=List.one_le_count_iff.2 (by simp [lineB])
   rw [h1,List.count_append,List.length_cons]
   omega
theorem prs_torn (t:List UInt8) (h10:t.count 10 ≤ 59) {L:List Fl} {ln col e:Nat} (h:prs t = (L,ln,col,e)) (he:e ≠ 0) :
 L = []∧(e = 11 ∨ e = 4)∧∃ p,(pcs t)[ln]? = some p∧col ≤ p.length∧ln < (pcs t).length ∧
  ((∃ L',prs (((pcs t).take ln).flatten ++ p.take col) = (L',0,0,0))∧col = 0 ∨ prs (((pcs t).take ln).flatten ++ p.take col) = ([],ln,col,11)):=by
 obtain ⟨xs,dp',R0,g1,g2,g3,g4,g5,g6,g7,g8⟩:=prs_err t 62 0 0 0 _ [] L ln col e rfl (by omega) rfl (by omega) h he
 rw [List.drop_zero] at g3
 rw [Nat.zero_add] at g1
 subst g1
 have hlt:xs.length < 60:=by
  have h1:=count_txt xs
  have h2:(txtL xs).count 10 ≤ t.count 10:=by rw [g3,List.count_append];omega
  omega
 have hpc:=pcs_txt xs R0 g6
 rw [← g3] at hpc
 have key:(10:UInt8) ∉ R0.take col∧col ≤ R0.length∧(col ≠ 0→∃ d n l,rdLine dp' (R0.take col) = (d,n,l,col,false))∧(e = 11 ∨ e = 4):=by
  rcases g7 with ⟨_,h⟩ | ⟨_,rfl,d,n,l,hr⟩ | ⟨_,rfl,n,l,c,hr⟩
  · omega
  · obtain ⟨⟨d',n',l',k1⟩,k2,k3⟩:=rdLine_cut hr
    exact ⟨k2,k3,fun _=>⟨d',n',l',k1⟩, .inl rfl⟩
  · obtain ⟨k1,k2⟩:=rdLine_rev hr
    obtain ⟨o1,o2,R,o3⟩:=k2 (List.replicate col ky0) .nil (by simp)
    have htk:R0.take col = List.replicate col 32:=by
     rw [o3,lineB,List.append_assoc,List.length_replicate,List.take_left' (by simp)]
    refine ⟨by rw [htk];simp,?_,fun _=>?_, .inr rfl⟩
    · have:=congrArg List.length htk
      rw [List.length_take,List.length_replicate] at this
      omega
    · rw [htk];exact rdLine_blanks k1
 obtain ⟨k1,k2,k3,k4⟩:=key
 obtain ⟨p,ps,q1,q2,q3⟩:=pcs_head col R0 k1 k2
 rw [q1] at hpc
 have hget:(pcs t)[xs.length]? = some p:=by
  rw [hpc,List.getElem?_append_right (by simp)]
  simp
 have htake:((pcs t).take xs.length).flatten = txtL xs:=by
  rw [hpc,List.take_left' (by simp)];rfl
 refine ⟨g5,k4,p,hget,q2,?_,?_⟩
 · rw [hpc];simp
 rw [htake,q3]
 obtain ⟨m1,m2⟩:=g8 (txtL xs ++ R0.take col) (R0.take col) (by simp)
 by_cases hc:col = 0
 · left
   exact ⟨m1 (by rw [hc];simp),hc⟩
 · right
   obtain ⟨d,n,l,hr⟩:=k3 hc
   exact m2 (fun e0=>by
    have:=congrArg List.length e0
    rw [List.length_take,Nat.min_eq_left k2] at this
    exact hc (by simpa using this)) hlt d n l col hr
theorem prs_back (t:List UInt8) {L:List Fl} {ln col:Nat} (h:prs t = (L,ln,col,0)):chkY (treF 0 L).1 = 0∧txtL (nodesL [] (treF 0 L).1) = t∧flsL [] (treF 0 L).1 = L:=by
 have h0:prs t = (L,0,0,0):=by
  have key:∀ (f i ln0 dp:Nat) (ks:List Ky) (fs:List Fl),f + ln0 = 62→ln0 ≤ 60→prsG t f i ln0 dp ks fs = (L,ln,col,0)→ln = 0∧col = 0:=by
   intro f
   induction f with
   | zero=>intro i ln0 dp ks fs h1 h2;omega
   | succ f ih=>
     intro i ln0 dp ks fs h1 h2 h
     rw [prsG] at h
     dsimp only at h
     repeat' split at h
     · simp at h
     · simp at h
     · simp at h
     · exact ih _ _ _ _ _ (by omega) (by omega) h
     · simp only [Prod.mk.injEq] at h;exact ⟨h.2.1.symm,h.2.2.1.symm⟩
  obtain ⟨rfl,rfl⟩:=key 62 0 0 0 _ [] rfl (by omega) h
  exact h
 obtain ⟨xs,g1,g2,g3⟩:=prs_good t 62 0 0 0 _ [] L rfl (by omega) rfl (by omega) h0
 rw [List.drop_zero] at g2
 rw [List.nil_append] at g1
 have hinv:=(prs_refP t).2
 have hbd:=(prs_bd t).1
 rw [h0] at hinv hbd
 have hfl:=fls_of hinv.srt hinv.clo hinv.kok
 refine ⟨?_,?_,hfl⟩
 · have hok:OkG 0 (treF 0 L).1:=okG_fls (treF 0 L).1 [] (by rw [hfl];exact hinv.srt) fun x hx=>by
    rw [hfl,g1] at hx
    obtain ⟨z,hz,rfl⟩:=List.mem_map.1 hx
    obtain ⟨⟨a1,a2,a3⟩,a4⟩:=g3 z hz
    exact ⟨by simp [flD];omega,⟨z.up,z.n,rfl,a1⟩,a2,a3⟩
   refine okG_chk0 hok ?_
   rw [← flsL_length [] (treF 0 L).1,hfl]
   exact hbd
 · rw [txt_flD,← fls_flD,hfl,g1,← txt_flD,g2]
end Go.Proofs.LF
namespace Go.Proofs.LF
open Go.RowKit Go.Sort
set_option maxHeartbeats 4000000
set_option maxRecDepth 100000
attribute [local go_sem] bs_toList bs_size bs_get
theorem FCs.take {S:Nat→Prop} {w:World}:∀ {i:Nat} {y:Fo} {cs:List Value},FCs S w y cs→FCs S w (y.take i) (cs.take (i * 3))
 | 0,_,_,_=>by simp [Fo.take,FCs]
 | i + 1, .nil,_,h=>by rw [show _ = [] from h];simp [Fo.take,FCs]
 | i + 1, .cons _ _ _ _,_,⟨vn,vs,cs',h,h2,h3,h5⟩=>by
   rw [h,show (i + 1) * 3 = i * 3 + 1 + 1 + 1 from by omega]
   exact ⟨vn,vs,cs'.take (i * 3),rfl,h2,h3,h5.take⟩
theorem SlC.pre {S:Nat→Prop} {w:World} {k n m c:Nat} {a:Option Addr} {cs:List Value} (h:SlC S w k (.slice a n c) n cs) (hm:m ≤ n):SlC S w k (.slice a m c) m (cs.take (m * k)):=by
 obtain ⟨h1,a',c',he,h2,h3,h4,h5⟩:=h
 cases he
 refine ⟨by rw [List.length_take,h1];exact Nat.min_eq_left (Nat.mul_le_mul_right k hm),a,c,rfl,by omega,h3,h4,?_⟩
 rcases h5 with h5 | ⟨g,o,h6,h7,h8⟩
 · exact .inl (by omega)
 · refine .inr ⟨g,o,h6,h7,fun j u hj=>h8 j u ?_⟩
   rw [List.getElem?_take] at hj
   split at hj
   · exact hj
   · cases hj
theorem SlC.suf {S:Nat→Prop} {w:World} {k n m c g o:Nat} {cs:List Value} (h:SlC S w k (.slice (some ⟨g,o,none⟩) n c) n cs) (hm:m < n):SlC S w k (.slice (some ⟨g,o + m * k,none⟩) (n - m) (c - m)) (n - m) (cs.drop (m * k)):=by
 obtain ⟨h1,a',c',he,h2,h3,h4,h5⟩:=h
 cases he
 refine ⟨by rw [List.length_drop,h1,Nat.sub_mul],_,_,rfl,by omega,by omega,(fun h=>by cases h),?_⟩
 rcases h5 with h5 | ⟨g',o',h6,h7,h8⟩
 · omega
 · cases h6
   refine .inr ⟨g,o + m * k,rfl,h7,fun j u hj=>?_⟩
   rw [List.getElem?_drop] at hj
   rw [Nat.add_assoc]
   exact h8 _ u hj
theorem FSl.pre {S:Nat→Prop} {w:World} {a:Option Addr} {m c:Nat} {y:Fo} (h:FSl S w (.slice a y.len c) y) (hm:m ≤ y.len):FSl S w (.slice a m c) (y.take m):=by
 obtain ⟨ds,h1,h2⟩:=h
 exact ⟨_,by rw [Fo.len_take hm];exact h1.pre hm,h2.take⟩
theorem FSl.suf {S:Nat→Prop} {w:World} {g o m c:Nat} {y:Fo} (h:FSl S w (.slice (some ⟨g,o,none⟩) y.len c) y) (hm:m < y.len):FSl S w (.slice (some ⟨g,o + m * 3,none⟩) (y.len - m) (c - m)) (y.drop m):=by
 obtain ⟨ds,h1,h2⟩:=h
 exact ⟨_,by rw [Fo.len_drop];exact h1.suf hm,h2.drop⟩
theorem one_facts (n:Int):(oneY n).len = 2∧(oneY n).Sm∧(oneY n).cnt = 3:=⟨rfl,by simp [oneY,Fo.Sm,bedN,rakedN,soldN,Fo.len],rfl⟩
theorem print7 (a:Option Addr) (c:Nat) (S:Nat→Prop) (w:World) (hv:FSl S w (.slice a 2 c) (oneY 7)) (hS:∀ b,S b→b < w.heap.size) (ht:Pow w) :
 Calls Tryz.prog 22 #[.slice a 2 c] w fun e w'=>e = .returned (.tuple #[.string ⟨#[98,101,100,32,51,10,32,114,97,107,101,100,32,53,32,55,10,115,111,108,100,10]⟩, .int .i64 0])∧Below w.heap.size w w':=by
 have h:=Print_any (oneY 7) a c S w hv hS (by decide) (one_facts 7).2.1 (by decide) ht
 rw [val_chk,if_pos rfl,val_txt] at h
 exact h
theorem parse1 (w:World):Calls Tryz.prog 26 #[.string ⟨#[98,101,100,32,51,10,32,114,97,107,101,100,32,53,32,55,10,115,111,108,100,10]⟩] w fun e w'=>∃ a c,e = .returned (.tuple #[.slice a 2 c, .int .i64 0, .int .i64 0, .int .i64 0])∧FSl (Rg w.heap.size w'.heap.size) w' (.slice a 2 c) (oneY 7)∧Below w.heap.size w w':=by
 have h:=Parse_any txt1 w (by decide)
 rw [val_prs1.1,val_prs1.2] at h
 exact h
theorem parse2 (w:World):Calls Tryz.prog 26 #[.string ⟨#[98,101,100,32,51,10,32,32,114,97,107,101,100,32,53,10]⟩] w fun e w'=>∃ a c,e = .returned (.tuple #[.slice a 0 c, .int .i64 1, .int .i64 1, .int .i64 11])∧Below w.heap.size w w':=by
 have h:=Parse_any txt2 w (by decide)
 rw [val_prs2.1,val_prs2.2] at h
 exact h.mono fun e w' ⟨a,c,h1,_,h3⟩=>⟨a,c,h1,h3⟩
theorem alike7 (a1 a2:Option Addr) (c1 c2:Nat) (S:Nat→Prop) (w:World) (h1:FSl S w (.slice a1 2 c1) (oneY 7)) (h2:FSl S w (.slice a2 2 c2) (oneY 7)) (hS:∀ b,S b→b < w.heap.size) :
 Calls Tryz.prog 25 #[.slice a1 2 c1, .slice a2 2 c2] w fun e w'=>e = .returned (.bool true)∧Below w.heap.size w w':=by
 have h:=(alike_any 4).2 (oneY 7) (oneY 7) a1 c1 a2 c2 S w (by decide) h1 h2 hS (by decide) (by decide) (one_facts 7).2.1 (one_facts 7).2.1
 rw [decide_eq_true rfl] at h
 exact h
theorem diff78 (a1 a2:Option Addr) (c1 c2:Nat) (S:Nat→Prop) (w:World) (h1:FSl S w (.slice a1 2 c1) (oneY 7)) (h2:FSl S w (.slice a2 1 c2) (oneB 8)) (hS:∀ b,S b→b < w.heap.size) (ht:Pow w) :
 Calls Tryz.prog 41 #[.slice a1 2 c1, .slice a2 1 c2] w fun e w'=>∃ a c,e = .returned (.tuple #[.slice a 2 c, .int .i64 0])∧ChSl (Rg w.heap.size w'.heap.size) w' (.slice a 2 c) difV∧Below w.heap.size w w':=by
 have h:=Diff_any (oneY 7) (oneB 8) a1 a2 c1 c2 S w h1 h2 hS (by decide) (by decide) (one_facts 7).2.1 (by simp [oneB,Fo.Sm,bedN,rakedN,Fo.len]) (by decide) (by decide) ht
 rw [val_dif.1,val_dif.2] at h
 exact h
theorem get7 (a1 a2:Option Addr) (c1 c2:Nat) (S T:Nat→Prop) (w:World) (h1:FSl S w (.slice a1 2 c1) (oneY 7)) (hS:∀ b,S b→b < w.heap.size) (h2:Pth T w (.slice a2 2 c2) [bed3,raked5]) (hT:∀ b,T b→b < w.heap.size) :
 Calls Tryz.prog 56 #[.slice a1 2 c1, .slice a2 2 c2] w fun e w'=>∃ an cn ab cb,e = .returned (.tuple #[.agg #[.string ⟨#[114,97,107,101,100]⟩, .slice an 2 cn, .slice ab 0 cb], .int .i64 0])∧Ints (Rg w.heap.size w'.heap.size) w' (.slice an 2 cn) [5,7]∧Below w.heap.size w w':=by
 have h:=Get_any (oneY 7) [bed3,raked5] a1 a2 c1 c2 S T w h1 hS h2 hT (by decide) (one_facts 7).2.1 (by decide) (by decide)
 refine h.mono ?_
 rintro e w' ⟨n,l,s,an,cn,ab,cb,hg,he,hi,hf,hb⟩
 rw [val_get.2] at hg
 obtain ⟨rfl,rfl,rfl⟩:rakedN = n∧[5,7] = l∧Fo.nil = s:=by simpa using hg
 rw [val_get.1] at he
 exact ⟨an,cn,ab,cb,he,hi,hb⟩
theorem put7 (a1 a2 an:Option Addr) (c1 c2 cn:Nat) (S T:Nat→Prop) (w:World) (h1:FSl S w (.slice a1 2 c1) (oneY 7)) (hS:∀ b,S b→b < w.heap.size) (h2:Pth T w (.slice a2 1 c2) [bed3]) (h3:Ints T w (.slice an 1 cn) [6]) (hT:∀ b,T b→b < w.heap.size) :
 Calls Tryz.prog 49 #[.slice a1 2 c1, .slice a2 1 c2, .agg #[.string ⟨#[114,97,107,101,100]⟩, .slice an 1 cn, .slice none 0 0]] w fun e w'=>∃ a c,e = .returned (.tuple #[.slice a 2 c, .int .i64 0])∧FSl (Rg w.heap.size w'.heap.size) w' (.slice a 2 c) oneM∧Below w.heap.size w w':=by
 have h:=Put_any (oneY 7) [bed3] rakedN [6] .nil a1 a2 an none c1 c2 cn 0 S T T w h1 hS h2 hT h3 ⟨[],⟨rfl,none,0,rfl,nl_ _,by simp [maxLen],fun _=>rfl, .inl rfl⟩,rfl⟩ hT (by decide) (one_facts 7).2.1 (by decide) (by decide) (by decide) (by decide) (by decide) trivial (by decide)
 refine h.mono ?_
 rintro e w' ⟨a,c,he,hf,hb⟩
 rw [val_put.1,val_put.2] at he
 rw [val_put.2] at hf
 exact ⟨a,c,he,hf.fsl,hb⟩
theorem join7 (a1 a2 a3:Option Addr) (c1 c2 c3:Nat) (S:Nat→Prop) (w:World) (h1:FSl S w (.slice a1 2 c1) (oneY 7)) (h2:FSl S w (.slice a2 1 c2) oneS) (h3:FSl S w (.slice a3 2 c3) oneM) (hS:∀ b,S b→b < w.heap.size) (ht:Pow w) :
 Calls Tryz.prog 33 #[.slice a1 2 c1, .slice a2 1 c2, .slice a3 2 c3] w fun e w'=>∃ a c a' c',e = .returned (.tuple #[.slice a 1 c, .slice a' 1 c', .int .i64 0])∧FSl (Rg w.heap.size w'.heap.size) w' (.slice a 1 c) oneS∧PaSl (Rg w.heap.size w'.heap.size) w' (.slice a' 1 c') [[bed3,raked6]]∧Below w.heap.size w w':=by
 have h:=Join_any (oneY 7) oneS oneM a1 a2 a3 c1 c2 c3 S w h1 h2 h3 hS ⟨by decide,(one_facts 7).2.1,by decide⟩ ⟨by decide,by simp [oneS,Fo.Sm,soldN,Fo.len],by decide⟩ ⟨by decide,by simp [oneM,Fo.Sm,bedN,rakedN,soldN,Fo.len],by decide⟩ ht
 refine h.mono ?_
 rintro e w' ⟨a,c,a',c',he,hf,hp,hb⟩
 rw [val_join.1,val_join.2.1,val_join.2.2] at he
 rw [val_join.2.1] at hf
 rw [val_join.2.2] at hp
 exact ⟨a,c,a',c',he,hf,hp,hb⟩
end Go.Proofs.LF
namespace Go.Proofs.LF
open Go.RowKit Go.Sort
set_option maxHeartbeats 40000000
set_option maxRecDepth 100000
attribute [local go_sem] bs_toList bs_size bs_get
theorem AnyH_two {F:Fence} {n:Nat} {P:Program} {ops:Array Oper} {Q:Exit→Act→World→Prop} {md:Region.Mode} {S:World→Prop} {i j:Nat} {oi oj:Oper} {fuel:Nat} {listed:Array Bool} {a:Act} {w:World} (hr:Region.ready md ops listed = [i,j]) (hi:ops[i]? = some oi) (hj:ops[j]? = some oj)
 (hwi:Region.wanted oi (yielded ops a.tmps) = true) (hwj:Region.wanted oj (yielded ops a.tmps) = true)
 (h1:∀ K:Act→World→Prop,(∀ a w,S w∧AnyH F n P md ops Q S fuel (listed.setIfInBounds i true) a w→K a w)→Oper.wpIn F n P oi a w K Q)
 (h2:∀ K:Act→World→Prop,(∀ a w,S w∧AnyH F n P md ops Q S fuel (listed.setIfInBounds j true) a w→K a w)→Oper.wpIn F n P oj a w K Q):AnyH F n P md ops Q S (fuel + 1) listed a w:=
 ⟨fun h0=>(by rw [hr] at h0;cases h0),hr ▸ fun k hk=>by
   simp only [List.mem_cons,List.not_mem_nil,or_false] at hk
   rcases hk with rfl | rfl
   · unfold wpOpIn
     rw [hi]
     simp only [hwi,if_true]
     exact h1 _ fun _ _ h=>h
   · unfold wpOpIn
     rw [hj]
     simp only [hwj,if_true]
     exact h2 _ fun _ _ h=>h⟩
theorem awake_any (w:World) (ht:Pow w):Calls Tryz.prog 18 #[] w fun e w'=>e = .returned (.bool true)∧Below w.heap.size w w':=by
 have HT:=hid ht
 clear ht
 go_enter Tryz.func18,Tryz.ntmps18
 go_wp2_with fail
 refine (One_any 7 w).mono ?_
 rintro e w1 ⟨g1,rfl,hF1,hb1⟩
 have HB1:=hid hb1
 have P1:=hid (print7 _ 2 _ w1 hF1 (fun b hb=>hb.2) (HT.out.below hb1))
 clear hF1 hb1
 go_wp2_with fail
 refine P1.out.mono ?_
 rintro e w2 ⟨rfl,hb2⟩
 have HB2:=hid (HB1.out.trans (hb2.mono HB1.out.size))
 clear hb2
 go_wp2_with fail
 refine (parse1 w2).mono ?_
 rintro e w3 ⟨a3,c3,rfl,hF3,hb3⟩
 have HB3:=hid (HB2.out.trans (hb3.mono HB2.out.size))
 have HF3:=hid hF3
 clear hF3 hb3
 go_wp2_with fail
 refine (parse2 w3).mono ?_
 rintro e w4 ⟨a4,c4,rfl,hb4⟩
 have HB4:=hid (HB3.out.trans (hb4.mono HB3.out.size))
 have HF4:=hid (HF3.out.agree (Ag_b hb4 (fun b hb=>hb.2)))
 have hz4:=hb4.size
 clear hb4
 go_wp2_with fail
 refine (One_any 7 w4).mono ?_
 rintro e w5 ⟨g5,rfl,hF5,hb5⟩
 have HB5:=hid (HB4.out.trans (hb5.mono HB4.out.size))
 have A5:=hid (alike7 a3 (some ⟨g5,0,none⟩) c3 2 (fun b=>b < w5.heap.size) w5 ((HF4.out.agree (Ag_b hb5 (fun b hb=>by have:=hb.2;omega))).wide (fun b hb=>by have:=hb.2;have:=hb5.size;omega)) (hF5.wide (fun b hb=>hb.2)) (fun b hb=>hb))
 clear hF5 hb5
 go_wp2_with fail
 refine A5.out.mono ?_
 rintro e w6 ⟨rfl,hb6⟩
 have HB6:=hid (HB5.out.trans (hb6.mono HB5.out.size))
 clear hb6
 go_wp2_with fail
 refine (One_any 7 w6).mono ?_
 rintro e w7 ⟨g7,rfl,hF7,hb7⟩
 have HB7:=hid (HB6.out.trans (hb7.mono HB6.out.size))
 have HF7:=hid hF7
 clear hF7 hb7
 go_wp2_with fail
 refine (One_any 8 w7).mono ?_
 rintro e w8 ⟨g8,rfl,hF8,hb8⟩
 have HB8:=hid (HB7.out.trans (hb8.mono HB7.out.size))
 have D8:=hid (diff78 (some ⟨g7,0,none⟩) (some ⟨g8,0,none⟩) 2 2 (fun b=>b < w8.heap.size) w8 ((HF7.out.agree (Ag_b hb8 (fun b hb=>hb.2))).wide (fun b hb=>by have:=hb.2;have:=hb8.size;omega)) ((FSl.pre (m:=1) hF8 (by decide)).wide (fun b hb=>hb.2)) (fun b hb=>hb) (HT.out.below HB8.out))
 clear hF8 hb8
 go_wp2_with fail
 refine D8.out.mono ?_
 rintro e w9 ⟨a9,c9,rfl,hC9,hb9⟩
 have HB9:=hid (HB8.out.trans (hb9.mono HB8.out.size))
 have HC9:=hid hC9
 clear hC9 hb9
 go_wp2_with fail
 refine (One_any 7 w9).mono ?_
 rintro e w10 ⟨g10,rfl,hF10,hb10⟩
 have HB10:=hid (HB9.out.trans (hb10.mono HB9.out.size))
 have HF10:=hid hF10
 have HC10:=hid (LSl.agree HC9.out (Ag_b hb10 (fun b hb=>hb.2)))
 have hz10:=hb10.size
 clear hF10 hb10 HF7 HF4 HF3 HC9 P1 A5 D8
 go_wp2_with fail
 have hba:Below w10.heap.size w10 (w10.alloc (.cells #[.int .i64 3] 3)):=(Below.refl _ _).alloc (nl_ _) _
 refine (K_any _ 3 w10.heap.size 1 _ (cg_ (heap_alloc_new w10 _) (k:=0) rfl) (by simp) (nl_ _)).mono ?_
 rintro e w11 ⟨rfl,hb11⟩
 have hb11':=hba.trans (hb11.mono (by simp))
 have HB11:=hid (HB10.out.trans (hb11'.mono HB10.out.size))
 have HL11:=hid hb11'
 clear hb11 hba hb11'
 go_wp2_with fail
 have hba:Below w11.heap.size w11 (w11.alloc (.cells #[.int .i64 5] 3)):=(Below.refl _ _).alloc (nl_ _) _
 refine (K_any _ 5 w11.heap.size 1 _ (cg_ (heap_alloc_new w11 _) (k:=0) rfl) (by simp) (nl_ _)).mono ?_
 rintro e w12 ⟨rfl,hb12⟩
 have hb12':=hba.trans (hb12.mono (by simp))
 have HB12:=hid (HB11.out.trans (hb12'.mono HB11.out.size))
 have HL12:=hid (HL11.out.trans (hb12'.mono HL11.out.size))
 clear hb12 hba hb12'
 go_wp2_with fail
 have hk12:=heap_alloc_new w12 (.cells #[.string ⟨#[98,101,100]⟩, .bool true, .int .i64 3, .string ⟨#[114,97,107,101,100]⟩, .bool true, .int .i64 5] 71)
 have hbk:Below w12.heap.size w12 (w12.alloc (.cells #[.string ⟨#[98,101,100]⟩, .bool true, .int .i64 3, .string ⟨#[114,97,107,101,100]⟩, .bool true, .int .i64 5] 71)):=(Below.refl _ _).alloc (nl_ _) _
 have hl12:=HL12.out.trans (hbk.mono HL12.out.size)
 have hP12:Pth (fun b=>b < w12.heap.size + 1) (w12.alloc (.cells #[.string ⟨#[98,101,100]⟩, .bool true, .int .i64 3, .string ⟨#[114,97,107,101,100]⟩, .bool true, .int .i64 5] 71)) (.slice (some ⟨w12.heap.size,0,none⟩) 2 2) [bed3,raked5]:=slc_block (k:=3) (n:=2) hk12 (by omega) rfl (by simp [maxLen])
 have G12:=hid (get7 (some ⟨g10,0,none⟩) (some ⟨w12.heap.size,0,none⟩) 2 2 _ _ _ (HF10.out.agree (Ag_b hl12 (fun b hb=>hb.2))) (fun b hb=>by have:=hb.2;have:=hl12.size;omega) hP12 (fun b hb=>by simpa using hb))
 have HL12b:=hid hl12
 clear hk12 hbk hP12 hl12
 refine G12.out.mono ?_
 rintro e w13 ⟨an,cn,ab,cb,rfl,hI13,hb13⟩
 have hb13':=HL12b.out.trans (hb13.mono HL12b.out.size)
 have HL13:=hid hb13'
 have HB13:=hid (HB10.out.trans (hb13'.mono HB10.out.size))
 have HI13:=hid hI13
 have hz13:=hb13'.size
 have hz13b:w12.heap.size + 1 ≤ w13.heap.size:=by have:=hb13.size;simpa using this
 clear hI13 hb13 hb13' G12 HF10 HL12 HL12b HL11
 go_wp2_with fail
 have HN13:=hid (heap_alloc_new w13 (.cells #[.string ⟨#[114,97,107,101,100]⟩, .slice an 2 cn, .slice ab 0 cb] 85))
 have hbx:Below w13.heap.size w13 (w13.alloc (.cells #[.string ⟨#[114,97,107,101,100]⟩, .slice an 2 cn, .slice ab 0 cb] 85)):=(Below.refl _ _).alloc (nl_ _) _
 refine (One_any 7 _).mono ?_
 rintro e w14 ⟨g14,rfl,hF14,hb14⟩
 have hz14:=hb14.size
 simp only [World.size_alloc] at hz14
 have hb14':=hbx.trans (hb14.mono (by simp))
 have HL14:=hid hb14'
 have HB14:=hid (HB13.out.trans (hb14'.mono HB13.out.size))
 have HN14:=hid ((hb14.block w13.heap.size (by simp)).trans HN13.out)
 have HF14:=hid (hF14.wide (S':=fun b=>b < w14.heap.size) (fun b hb=>hb.2))
 clear hF14 hb14 hb14' hbx
 go_wp2_with fail
 have hba:Below w14.heap.size w14 (w14.alloc (.cells #[.int .i64 3] 3)):=(Below.refl _ _).alloc (nl_ _) _
 refine (K_any _ 3 w14.heap.size 1 _ (cg_ (heap_alloc_new w14 _) (k:=0) rfl) (by simp) (nl_ _)).mono ?_
 rintro e w15 ⟨rfl,hb15⟩
 have hb15':=hba.trans (hb15.mono (by simp))
 have HL15:=hid hb15'
 have hz15:=hb15'.size
 clear hb15 hba hb15'
 go_wp2_with fail
 have hk15:=heap_alloc_new w15 (.cells #[.string ⟨#[98,101,100]⟩, .bool true, .int .i64 3] 71)
 have hk15b:((w15.alloc (.cells #[.string ⟨#[98,101,100]⟩, .bool true, .int .i64 3] 71)).alloc (.cells #[.int .i64 6] 3)).heap[w15.heap.size]? = _:=(heap_alloc_old _ _ (by simp)).trans hk15
 have hk6:=heap_alloc_new (w15.alloc (.cells #[.string ⟨#[98,101,100]⟩, .bool true, .int .i64 3] 71)) (.cells #[.int .i64 6] 3)
 simp only [World.size_alloc] at hk6
 have hbk:Below w15.heap.size w15 ((w15.alloc (.cells #[.string ⟨#[98,101,100]⟩, .bool true, .int .i64 3] 71)).alloc (.cells #[.int .i64 6] 3)):=((Below.refl _ _).alloc (nl_ _) _).alloc (by simp) _
 have hl15:=HL15.out.trans (hbk.mono hz15)
 have hP15:Pth (fun b=>b < w15.heap.size + 2) ((w15.alloc (.cells #[.string ⟨#[98,101,100]⟩, .bool true, .int .i64 3] 71)).alloc (.cells #[.int .i64 6] 3)) (.slice (some ⟨w15.heap.size,0,none⟩) 1 1) [bed3]:=slc_block (k:=3) (n:=1) hk15b (by omega) rfl (by simp [maxLen])
 have hI15:Ints (fun b=>b < w15.heap.size + 2) ((w15.alloc (.cells #[.string ⟨#[98,101,100]⟩, .bool true, .int .i64 3] 71)).alloc (.cells #[.int .i64 6] 3)) (.slice (some ⟨w15.heap.size + 1,0,none⟩) 1 1) [6]:=slc_block (k:=1) (n:=1) hk6 (by omega) rfl (by simp [maxLen])
 have G15:=hid (put7 (some ⟨g14,0,none⟩) (some ⟨w15.heap.size,0,none⟩) (some ⟨w15.heap.size + 1,0,none⟩) 2 1 1 _ _ _ (HF14.out.agree (Ag_b hl15 (fun b hb=>hb))) (fun b hb=>by have:=hl15.size;omega) hP15 hI15 (fun b hb=>by simpa using hb))
 have HL15b:=hid hl15
 clear hk15 hk15b hk6 hbk hP15 hI15 hl15
 refine G15.out.mono ?_
 rintro e w16 ⟨a16,c16,rfl,hF16,hb16⟩
 have hb16':=HL15b.out.trans (hb16.mono HL15b.out.size)
 have HL16:=hid hb16'
 have HB16:=hid (HB14.out.trans (hb16'.mono HB14.out.size))
 have HF16:=hid (hF16.wide (S':=fun b=>b < w16.heap.size) (fun b hb=>hb.2))
 have HN16:=hid ((hb16'.block w13.heap.size (by omega)).trans HN14.out)
 have hz16:=hb16'.size
 clear hF16 hb16 hb16' G15 HF14 HL15 HL15b
 go_wp2_with fail
 refine (One_any 7 w16).mono ?_
 rintro e w17 ⟨g17,rfl,hF17,hb17⟩
 have HL17:=hid hb17
 have hz17:=hb17.size
 have HF17:=hid (hF17.wide (S':=fun b=>b < w17.heap.size) (fun b hb=>hb.2))
 clear hF17 hb17
 go_wp2_with fail
 refine (One_any 7 w17).mono ?_
 rintro e w18 ⟨g18,rfl,hF18,hb18⟩
 have hz18:=hb18.size
 have hl18:=HL17.out.trans (hb18.mono hz17)
 have HB18:=hid (HB16.out.trans (hl18.mono HB16.out.size))
 have hsuf:=FSl.suf (m:=1) hF18 (by decide)
 have J18:=hid (join7 (some ⟨g17,0,none⟩) (some ⟨g18,0 + 1 * 3,none⟩) a16 2 1 c16 (fun b=>b < w18.heap.size) w18 ((HF17.out.agree (Ag_b hb18 (fun b hb=>hb))).wide (fun b hb=>by omega)) (hsuf.wide (fun b hb=>hb.2)) ((HF16.out.agree (Ag_b hl18 (fun b hb=>hb))).wide (fun b hb=>by omega)) (fun b hb=>hb) (HT.out.below HB18.out))
 have HL18:=hid hl18
 clear hF18 hb18 hl18 hsuf HF17 HF16 HL17
 go_wp2_with fail
 refine J18.out.mono ?_
 rintro e w19 ⟨aj,cj,aq,cq,rfl,hFj,hPj,hb19⟩
 have hl19:=HL18.out.trans (hb19.mono (by omega))
 have hz19:w16.heap.size ≤ w19.heap.size:=by have:=hl19.size;omega
 have HB19:=hid (HB16.out.trans (hl19.mono HB16.out.size))
 have hl16:=HL16.out.trans (hl19.mono hz16)
 have hl14:=HL14.out.trans (hl16.mono (by omega))
 have hl13:=HL13.out.trans (hl14.mono hz13)
 have hw14:=hl14.size
 have hC19:ChSl (fun b=>b < w19.heap.size) w19 (.slice a9 2 c9) difV:=LSl.wide (LSl.agree HC10.out (Ag_b hl13 (fun b hb=>by have:=hb.2;omega))) (fun b hb=>by have:=hb.2;omega)
 have hI19:Ints (fun b=>b < w19.heap.size) w19 (.slice an 2 cn) [5,7]:=(HI13.out.agree (Ag_b hl14 (fun b hb=>hb.2))).wide (fun b hb=>by have:=hb.2;omega)
 have hN19:=(hl19.block w13.heap.size (by omega)).trans HN16.out
 have n1:w19.cell? ⟨w13.heap.size,1,none⟩ = some (.slice an 2 cn):=cg_ hN19 (k:=1) rfl
 obtain ⟨aX,cX,heX,hc9,hc9m,hatC⟩:=hC19.at
 obtain ⟨rfl,rfl⟩:a9 = aX∧c9 = cX:=by cases heX;exact ⟨rfl,rfl⟩
 obtain ⟨gl,ol,cs0,rfl,hgl,⟨ap,cp,ao,co,ax,cx,rfl,hp0,ho0,hx0⟩,hcell0⟩:=hatC 0 (by decide)
 obtain ⟨gl',ol',cs1,he1,_,⟨ap1,cp1,ao1,co1,ax1,cx1,rfl,_,_,_⟩,hcell1⟩:=hatC 1 (by decide)
 obtain ⟨rfl,rfl⟩:gl = gl'∧ol = ol':=by cases he1;exact ⟨rfl,rfl⟩
 have l0:w19.cell? ⟨gl,ol,none⟩ = some (.slice ap 2 cp):=hcell0 0 _ rfl
 have l4:w19.cell? ⟨gl,ol + 4,none⟩ = some (.slice ax 2 cx):=hcell0 4 _ rfl
 have l7:w19.cell? ⟨gl,ol + 5 + 2,none⟩ = some (.bool false):=hcell1 2 _ rfl
 obtain ⟨aY,cY,heY,hcq,hcqm,hatP⟩:=hPj.at
 obtain ⟨rfl,rfl⟩:aq = aY∧cq = cY:=by cases heY;exact ⟨rfl,rfl⟩
 obtain ⟨gq,oq,cs2,rfl,hgq,⟨ar,cr,rfl,hpq⟩,hcellq⟩:=hatP 0 (by decide)
 have p0:w19.cell? ⟨gq,oq,none⟩ = some (.slice ar 2 cr):=hcellq 0 _ rfl
 have hX19:Ints (fun b=>b < w19.heap.size) w19 (.slice ax 2 cx) [5,8]:=hx0
 have hP19:Pth (fun b=>b < w19.heap.size) w19 (.slice ar 2 cr) [bed3,raked6]:=hpq.wide (fun b hb=>hb.2)
 have hJ19:FSl (fun b=>b < w19.heap.size) w19 (.slice aj 1 cj) oneS:=hFj.wide (fun b hb=>hb.2)
 have hgl':gl < w19.heap.size:=hgl
 have hgq':gq < w19.heap.size:=hgq.2
 have hn':w13.heap.size < w19.heap.size:=by omega
 have ALL:∀ W,Below w19.heap.size w19 W→(W.cell? ⟨w13.heap.size,1,none⟩ = some (.slice an 2 cn)∧W.cell? ⟨gl,ol,none⟩ = some (.slice ap 2 cp)∧W.cell? ⟨gl,ol + 4,none⟩ = some (.slice ax 2 cx)∧W.cell? ⟨gl,ol + 5 + 2,none⟩ = some (.bool false)∧W.cell? ⟨gq,oq,none⟩ = some (.slice ar 2 cr)) ∧
  Ints (fun b=>b < w19.heap.size) W (.slice an 2 cn) [5,7]∧Ints (fun b=>b < w19.heap.size) W (.slice ax 2 cx) [5,8]∧Pth (fun b=>b < w19.heap.size) W (.slice ar 2 cr) [bed3,raked6]∧FSl (fun b=>b < w19.heap.size) W (.slice aj 1 cj) oneS:=fun W hW=>
  ⟨⟨bc_ hW hn' n1,bc_ hW hgl' l0,bc_ hW hgl' l4,bc_ hW hgl' l7,bc_ hW hgq' p0⟩,hI19.agree (Ag_b hW (fun b hb=>hb)),hX19.agree (Ag_b hW (fun b hb=>hb)),hP19.agree (Ag_b hW (fun b hb=>hb)),hJ19.agree (Ag_b hW (fun b hb=>hb))⟩
 have HALL:=hid ALL
 unfold maxLen at hc9m hcqm
 clear ALL hJ19 hP19 hX19 p0 l0 l4 l7 n1 hcellq hcell0 hcell1 hatC hatP hpq hgq hgl he1 heX heY hp0 ho0 hx0 hC19 hI19 hN19 hl13 hl14 hl16 hl19 hb19 hFj hPj J18 HL18 HN16 HN14 HN13 HL16 HL14 HL13 HC10 HI13
 clear HB1 HB2 HB3 HB4 HB5 HB6 HB7 HB8 HB9 HB10 HB11 HB12 HB13 HB14 HB16 HB18
 go_wp2_with fail
 simp only [List.append_eq,List.cons_append,List.nil_append]
 refine (wpIn_wide (n:=9)).1 ?_
 refine region_held (fun w'=>w'.cell? ⟨w13.heap.size,1,none⟩ = some (.slice an 2 cn)∧w'.cell? ⟨gl,ol,none⟩ = some (.slice ap 2 cp)∧w'.cell? ⟨gl,ol + 4,none⟩ = some (.slice ax 2 cx)∧w'.cell? ⟨gl,ol + 5 + 2,none⟩ = some (.bool false)∧w'.cell? ⟨gq,oq,none⟩ = some (.slice ar 2 cr)) (by kernel_rfl) ?_
 have hS0:=(HALL.out w19.drew (Below.refl _ _).drew).1
 refine tkY 0 98 (.int .i64 0) rfl rfl hS0 (fun w' hs=>?_) ?_
 · go_simp
 refine tkY 1 99 (.bool true) rfl rfl hS0 (fun w' hs=>?_) ?_
 · go_simp
 refine tkY 2 100 (.bool true) rfl rfl hS0 (fun w' hs=>?_) ?_
 · go_simp
 refine tkY 3 101 (.int .i64 0) rfl rfl hS0 (fun w' hs=>?_) ?_
 · go_simp
 refine tkY 4 102 (.bool true) rfl rfl hS0 (fun w' hs=>?_) ?_
 · go_simp
 refine tkY 5 103 (.bool true) rfl rfl hS0 (fun w' hs=>?_) ?_
 · go_simp
 refine tkY 6 104 (.bool true) rfl rfl hS0 (fun w' hs=>?_) ?_
 · go_simp
 refine tkY 7 105 (.int .i64 0) rfl rfl hS0 (fun w' hs=>?_) ?_
 · go_simp
 refine tkY 8 106 (.bool true) rfl rfl hS0 (fun w' hs=>?_) ?_
 · go_simp
 refine tkY 9 107 (.bool true) rfl rfl hS0 (fun w' hs=>?_) ?_
 · go_simp
 refine tkY 10 108 (.bool true) rfl rfl hS0 (fun w' hs=>?_) ?_
 · go_simp
 refine tkY 11 109 (.int .i64 0) rfl rfl hS0 (fun w' hs=>?_) ?_
 · go_simp
 refine tkY 12 110 (.bool true) rfl rfl hS0 (fun w' hs=>?_) ?_
 · go_simp
 refine tkY 13 111 (.bool true) rfl rfl hS0 (fun w' hs=>?_) ?_
 · go_simp
 refine tkY 14 112 (.bool true) rfl rfl hS0 (fun w' hs=>?_) ?_
 · go_simp
 refine tkY 15 113 (.slice (some ⟨gl,ol,none⟩) 2 c9) rfl rfl hS0 (fun w' hs=>?_) ?_
 · go_simp
 refine tkY 16 114 (.int .i64 2) rfl rfl hS0 (fun w' hs=>?_) ?_
 · go_simp
 refine tkY 17 115 (.bool true) rfl rfl hS0 (fun w' hs=>?_) ?_
 · go_simp
 refine tkY 18 116 (.bool true) rfl rfl hS0 (fun w' hs=>?_) ?_
 · go_simp
 refine tkY 19 117 (.bool true) rfl rfl hS0 (fun w' hs=>?_) ?_
 · go_simp
 refine tkY 20 118 (.slice (some ⟨gl,ol,none⟩) 2 c9) rfl rfl hS0 (fun w' hs=>?_) ?_
 · go_simp
 refine tkY 21 119 (.pointer (some ⟨gl,ol,none⟩)) rfl rfl hS0 (fun w' hs=>?_) ?_
 · go_simp
 refine tkY 22 120 (.pointer (some ⟨gl,ol,none⟩)) rfl rfl hS0 (fun w' hs=>?_) ?_
 · go_simp
 refine tkY 23 121 (.slice ap 2 cp) rfl rfl hS0 (fun w' hs=>?_) ?_
 · obtain ⟨q0,q1,q2,q3,q4⟩:=hs
   go_simp
 refine tkY 24 122 (.int .i64 2) rfl rfl hS0 (fun w' hs=>?_) ?_
 · go_simp
 refine tkY 25 123 (.bool true) rfl rfl hS0 (fun w' hs=>?_) ?_
 · go_simp
 refine tkY 26 124 (.bool true) rfl rfl hS0 (fun w' hs=>?_) ?_
 · go_simp
 refine tkY 27 125 (.bool true) rfl rfl hS0 (fun w' hs=>?_) ?_
 · go_simp
 refine tkY 28 126 (.slice (some ⟨gl,ol,none⟩) 2 c9) rfl rfl hS0 (fun w' hs=>?_) ?_
 · go_simp
 refine tkY 29 127 (.pointer (some ⟨gl,ol,none⟩)) rfl rfl hS0 (fun w' hs=>?_) ?_
 · go_simp
 refine tkY 30 128 (.pointer (some ⟨gl,ol + 4,none⟩)) rfl rfl hS0 (fun w' hs=>?_) ?_
 · go_simp
 refine tkY 31 129 (.slice ax 2 cx) rfl rfl hS0 (fun w' hs=>?_) ?_
 · obtain ⟨q0,q1,q2,q3,q4⟩:=hs
   go_simp
 refine AnyH_one (i:=32) (by kernel_rfl) rfl (by kernel_rfl) (fun K hK=>?_)
 go_simp
 have hbA:Below w19.heap.size w19 (w19.drew.alloc (.cells #[.int .i64 5, .int .i64 8] 3)):=(Below.refl _ _).drew.alloc (nl_ _) _
 have hA:=HALL.out _ hbA
 have hkA:=heap_alloc_new w19.drew (.cells #[.int .i64 5, .int .i64 8] 3)
 have iA:Ints (fun b=>b < w19.heap.size + 1) (w19.drew.alloc (.cells #[.int .i64 5, .int .i64 8] 3)) (.slice (some ⟨w19.heap.size,0,none⟩) 2 2) [5,8]:=slc_block (k:=1) (n:=2) hkA (by simp) rfl (by simp [maxLen])
 have EA:=hid (eqInts_any [5,8] [5,8] ax (some ⟨w19.heap.size,0,none⟩) cx 2 (fun b=>b < w19.heap.size + 1) _ (hA.2.2.1.wide (fun b hb=>by omega)) iA (by decide) (by decide))
 rw [decide_eq_true rfl] at EA
 have HBA:=hid hbA
 refine hK _ _ ⟨hA.1,?_⟩
 clear hK hA hkA iA hbA
 refine AnyH_one (i:=33) (by kernel_rfl) rfl (by kernel_rfl) (fun K hK=>?_)
 go_simp
 refine ⟨trivial,(callsIn_wide.2 EA.out).mono ?_⟩
 rintro e w20 ⟨rfl,hb20⟩
 have hl20:=HBA.out.trans (hb20.mono (by simp))
 have hS20:=(HALL.out _ hl20).1
 have hz20:=hl20.size
 have HL20:=hid hl20
 refine hK _ _ ⟨hS20,?_⟩
 clear hK hb20 hl20 EA HBA
 refine tkY 34 132 (.bool true) rfl rfl hS20 (fun w' hs=>?_) ?_
 · go_simp
 refine tkY 35 133 (.bool true) rfl rfl hS20 (fun w' hs=>?_) ?_
 · go_simp
 refine tkY 36 134 (.slice (some ⟨gl,ol,none⟩) 2 c9) rfl rfl hS20 (fun w' hs=>?_) ?_
 · go_simp
 refine tkY 37 135 (.pointer (some ⟨gl,ol + 5,none⟩)) rfl rfl hS20 (fun w' hs=>?_) ?_
 · go_simp
 refine tkY 38 136 (.pointer (some ⟨gl,ol + 5 + 2,none⟩)) rfl rfl hS20 (fun w' hs=>?_) ?_
 · go_simp
 refine tkY 39 137 (.bool false) rfl rfl hS20 (fun w' hs=>?_) ?_
 · obtain ⟨q0,q1,q2,q3,q4⟩:=hs
   go_simp
 refine tkY 40 138 (.bool true) rfl rfl hS20 (fun w' hs=>?_) ?_
 · go_simp
 refine tkY 41 139 (.bool true) rfl rfl hS20 (fun w' hs=>?_) ?_
 · go_simp
 refine tkY 42 140 (.bool true) rfl rfl hS20 (fun w' hs=>?_) ?_
 · go_simp
 refine tkY 43 141 (.pointer (some ⟨w13.heap.size,1,none⟩)) rfl rfl hS20 (fun w' hs=>?_) ?_
 · go_simp
 refine tkY 44 142 (.slice an 2 cn) rfl rfl hS20 (fun w' hs=>?_) ?_
 · obtain ⟨q0,q1,q2,q3,q4⟩:=hs
   go_simp
 refine AnyH_one (i:=45) (by kernel_rfl) rfl (by kernel_rfl) (fun K hK=>?_)
 go_simp
 have hbA:Below w20.heap.size w20 (w20.alloc (.cells #[.int .i64 5, .int .i64 7] 3)):=(Below.refl _ _).alloc (nl_ _) _
 have hlA:=HL20.out.trans (hbA.mono hz20)
 have hA:=HALL.out _ hlA
 have hkA:=heap_alloc_new w20 (.cells #[.int .i64 5, .int .i64 7] 3)
 have iA:Ints (fun b=>b < w20.heap.size + 1) (w20.alloc (.cells #[.int .i64 5, .int .i64 7] 3)) (.slice (some ⟨w20.heap.size,0,none⟩) 2 2) [5,7]:=slc_block (k:=1) (n:=2) hkA (by simp) rfl (by simp [maxLen])
 have EA:=hid (eqInts_any [5,7] [5,7] an (some ⟨w20.heap.size,0,none⟩) cn 2 (fun b=>b < w20.heap.size + 1) _ (hA.2.1.wide (fun b hb=>by omega)) iA (by decide) (by decide))
 rw [decide_eq_true rfl] at EA
 have HLA:=hid hlA
 refine hK _ _ ⟨hA.1,?_⟩
 clear hK hA hkA iA hbA hlA
 refine AnyH_one (i:=46) (by kernel_rfl) rfl (by kernel_rfl) (fun K hK=>?_)
 go_simp
 refine ⟨trivial,(callsIn_wide.2 EA.out).mono ?_⟩
 rintro e w21 ⟨rfl,hb21⟩
 have hl21:=HLA.out.trans (hb21.mono (by simp;omega))
 have hS21:=(HALL.out _ hl21).1
 have hz21:=hl21.size
 have HL21:=hid hl21
 refine hK _ _ ⟨hS21,?_⟩
 clear hK hb21 hl21 EA HLA
 refine tkY 47 145 (.bool true) rfl rfl hS21 (fun w' hs=>?_) ?_
 · go_simp
 refine tkY 48 146 (.bool true) rfl rfl hS21 (fun w' hs=>?_) ?_
 · go_simp
 refine tkY 49 147 (.slice aj 1 cj) rfl rfl hS21 (fun w' hs=>?_) ?_
 · go_simp
 refine AnyH_one (i:=50) (by kernel_rfl) rfl (by kernel_rfl) (fun K hK=>?_)
 go_simp
 refine ⟨trivial,(callsIn_wide.2 (One_any 7 w21)).mono ?_⟩
 rintro e w22 ⟨g22,rfl,hF22,hb22⟩
 have hl22:=HL21.out.trans (hb22.mono hz21)
 have h22:=HALL.out _ hl22
 have hS22:=h22.1
 have hz22:=hl22.size
 have HL22:=hid hl22
 have hsuf:=FSl.suf (m:=1) hF22 (by decide)
 have E22:=hid ((alike_any 4).2 oneS oneS aj cj (some ⟨g22,0 + 1 * 3,none⟩) (2 - 1) (fun b=>b < w22.heap.size) w22 (by decide) (h22.2.2.2.2.wide (fun b hb=>by omega)) (hsuf.wide (fun b hb=>hb.2)) (fun b hb=>hb) (by decide) (by decide) (by simp [oneS,Fo.Sm,soldN,Fo.len]) (by simp [oneS,Fo.Sm,soldN,Fo.len]))
 rw [decide_eq_true rfl] at E22
 refine hK _ _ ⟨hS22,?_⟩
 clear hK hb22 hl22 hF22 hsuf h22
 refine tkY 51 149 (.slice (some ⟨g22,3,none⟩) 1 1) rfl rfl hS22 (fun w' hs=>?_) ?_
 · go_simp
 refine AnyH_one (i:=52) (by kernel_rfl) rfl (by kernel_rfl) (fun K hK=>?_)
 go_simp
 refine ⟨trivial,(callsIn_wide.2 E22.out).mono ?_⟩
 rintro e w23 ⟨rfl,hb23⟩
 have hl23:=HL22.out.trans (hb23.mono hz22)
 have h23:=HALL.out _ hl23
 have hS23:=h23.1
 have hz23:=hl23.size
 have HL23:=hid hl23
 have HP23:=hid h23.2.2.2.1
 refine hK _ _ ⟨hS23,?_⟩
 clear hK hb23 hl23 E22 h23
 refine tkY 53 151 (.bool true) rfl rfl hS23 (fun w' hs=>?_) ?_
 · go_simp
 refine tkY 54 152 (.bool true) rfl rfl hS23 (fun w' hs=>?_) ?_
 · go_simp
 refine tkY 55 153 (.slice (some ⟨gq,oq,none⟩) 1 cq) rfl rfl hS23 (fun w' hs=>?_) ?_
 · go_simp
 refine tkY 56 154 (.int .i64 1) rfl rfl hS23 (fun w' hs=>?_) ?_
 · go_simp
 refine tkY 57 155 (.bool true) rfl rfl hS23 (fun w' hs=>?_) ?_
 · go_simp
 refine tkY 58 156 (.bool true) rfl rfl hS23 (fun w' hs=>?_) ?_
 · go_simp
 refine tkY 59 157 (.bool true) rfl rfl hS23 (fun w' hs=>?_) ?_
 · go_simp
 refine tkY 60 158 (.slice (some ⟨gq,oq,none⟩) 1 cq) rfl rfl hS23 (fun w' hs=>?_) ?_
 · go_simp
 refine tkY 61 159 (.pointer (some ⟨gq,oq,none⟩)) rfl rfl hS23 (fun w' hs=>?_) ?_
 · go_simp
 refine tkY 62 160 (.slice ar 2 cr) rfl rfl hS23 (fun w' hs=>?_) ?_
 · obtain ⟨q0,q1,q2,q3,q4⟩:=hs
   go_simp
 have hSW:∀ W,Below w23.heap.size w23 W→(W.cell? ⟨w13.heap.size,1,none⟩ = some (.slice an 2 cn)∧W.cell? ⟨gl,ol,none⟩ = some (.slice ap 2 cp)∧W.cell? ⟨gl,ol + 4,none⟩ = some (.slice ax 2 cx)∧W.cell? ⟨gl,ol + 5 + 2,none⟩ = some (.bool false)∧W.cell? ⟨gq,oq,none⟩ = some (.slice ar 2 cr)):=fun W hW=>(HALL.out W (HL23.out.trans (hW.mono hz23))).1
 have HSW:=hid hSW
 clear hSW
 have hb0:Below w23.heap.size w23 w23:=Below.refl _ _
 refine AnyH_two (i:=63) (j:=65) (by kernel_rfl) rfl rfl (by kernel_rfl) (by kernel_rfl) (fun K hK=>?_) (fun K hK=>?_)
 · go_simp
   obtain ⟨w1,hw1⟩:∃ w1,w23.alloc (.cells #[.int .i64 3] 3) = w1:=⟨_,rfl⟩
   have hl1:Below w23.heap.size w23 w1:=by rw [← hw1];exact hb0.alloc (nl_ _) _
   have k1:w1.cell? ⟨w23.heap.size,0,none⟩ = some (.int .i64 3):=by rw [← hw1];exact cg_ (heap_alloc_new w23 _) (k:=0) rfl
   have z1:w1.heap.size = w23.heap.size + 1:=by rw [← hw1];simp
   have Z1:=hid z1
   have HL1:=hid hl1
   have K1:=hid k1
   rw [hw1]
   refine hK _ _ ⟨HSW.out _ hl1,?_⟩
   clear hK hw1 hl1 k1 z1
   refine AnyH_two (i:=64) (j:=65) (by kernel_rfl) rfl rfl (by kernel_rfl) (by kernel_rfl) (fun K hK=>?_) (fun K hK=>?_)
   · go_simp
     refine ⟨trivial,(callsIn_wide.2 (K_any _ 3 w23.heap.size 1 w1 K1.out (by have:=Z1.out;omega) (nl_ _))).mono ?_⟩
     rintro e w24 ⟨rfl,hb24⟩
     have hl24:=HL1.out.trans (hb24.mono HL1.out.size)
     have HL24:=hid hl24
     refine hK _ _ ⟨HSW.out _ hl24,?_⟩
     clear hK hb24 hl24
     refine AnyH_one (i:=65) (by kernel_rfl) rfl (by kernel_rfl) (fun K hK=>?_)
     go_simp
     have hlx:=HL24.out.alloc HL24.out.size (.cells #[.int .i64 6] 3)
     have HLX:=hid hlx
     have KX:=hid (cg_ (heap_alloc_new w24 (.cells #[.int .i64 6] 3)) (k:=0) (v := .int .i64 6) rfl)
     refine hK _ _ ⟨HSW.out _ hlx,?_⟩
     clear hK hlx
     refine AnyH_one (i:=66) (by kernel_rfl) rfl (by kernel_rfl) (fun K hK=>?_)
     go_simp
     refine ⟨trivial,(callsIn_wide.2 (K_any _ 6 w24.heap.size 1 _ KX.out (by simp) (nl_ _))).mono ?_⟩
     rintro e w25 ⟨rfl,hb25⟩
     have hl25:=HLX.out.trans (hb25.mono HLX.out.size)
     have HL25:=hid hl25
     refine hK _ _ ⟨HSW.out _ hl25,?_⟩
     clear hK hb25 hl25
     refine AnyH_one (i:=67) (by kernel_rfl) rfl (by kernel_rfl) (fun K hK=>?_)
     go_simp
     have hbK:Below w25.heap.size w25 (w25.alloc (.cells #[.string ⟨#[98,101,100]⟩, .bool true, .int .i64 3, .string ⟨#[114,97,107,101,100]⟩, .bool true, .int .i64 6] 71)):=(Below.refl _ _).alloc (nl_ _) _
     have hkK:=heap_alloc_new w25 (.cells #[.string ⟨#[98,101,100]⟩, .bool true, .int .i64 3, .string ⟨#[114,97,107,101,100]⟩, .bool true, .int .i64 6] 71)
     have hl26:=HL25.out.trans (hbK.mono HL25.out.size)
     have hz25:=HL25.out.size
     have pK:Pth (fun b=>b < w25.heap.size + 1) (w25.alloc (.cells #[.string ⟨#[98,101,100]⟩, .bool true, .int .i64 3, .string ⟨#[114,97,107,101,100]⟩, .bool true, .int .i64 6] 71)) (.slice (some ⟨w25.heap.size,0,none⟩) 2 2) [bed3,raked6]:=slc_block (k:=3) (n:=2) hkK (by simp) rfl (by simp [maxLen])
     have EK:=hid (eqKeys_any [bed3,raked6] [bed3,raked6] ar (some ⟨w25.heap.size,0,none⟩) cr 2 (fun b=>b < w25.heap.size + 1) _ ((HP23.out.agree (Ag_b hl26 (fun b hb=>by omega))).wide (fun b hb=>by omega)) pK (by decide) (by decide))
     rw [decide_eq_true rfl] at EK
     have HL26:=hid hl26
     refine hK _ _ ⟨HSW.out _ hl26,?_⟩
     clear hK hkK pK hbK hl26
     refine AnyH_one (i:=68) (by kernel_rfl) rfl (by kernel_rfl) (fun K hK=>?_)
     go_simp
     refine ⟨trivial,(callsIn_wide.2 EK.out).mono ?_⟩
     rintro e w27 ⟨rfl,hb27⟩
     have hl27:=HL26.out.trans (hb27.mono HL26.out.size)
     have hS27:=HSW.out _ hl27
     have HL27:=hid hl27
     refine hK _ _ ⟨hS27,?_⟩
     clear hK hb27 hl27 EK
     refine tkY 69 167 (.bool true) rfl rfl hS27 (fun w' hs=>?_) ?_
     · go_simp
     refine tkY 70 0 (.bool true) rfl rfl hS27 (fun w' hs=>?_) ?_
     · go_simp
     refine AnyH_done (by kernel_rfl) ?_
     go_simp
     clear hS27
     go_wp2_with fail
     go_ret
     have e1:=HB19.out.size
     exact ⟨rfl,HB19.out.trans ((HL23.out.trans (HL27.out.mono hz23)).mono e1)⟩
   · go_simp
     obtain ⟨w2,hw2⟩:∃ w2,w1.alloc (.cells #[.int .i64 6] 3) = w2:=⟨_,rfl⟩
     have hl2:Below w23.heap.size w23 w2:=by rw [← hw2];exact HL1.out.alloc HL1.out.size _
     have k2:w2.cell? ⟨w1.heap.size,0,none⟩ = some (.int .i64 6):=by rw [← hw2];exact cg_ (heap_alloc_new w1 _) (k:=0) rfl
     have z2:w2.heap.size = w1.heap.size + 1:=by rw [← hw2];simp
     have k3:w2.cell? ⟨w23.heap.size,0,none⟩ = some (.int .i64 3):=by rw [← hw2];exact bc_ ((Below.refl w1.heap.size _).alloc (nl_ _) _) (by have:=Z1.out;omega) K1.out
     have Z2:=hid z2
     have HL2:=hid hl2
     have K2:=hid k2
     have K3:=hid k3
     rw [hw2]
     refine hK _ _ ⟨HSW.out _ hl2,?_⟩
     clear hK hw2 hl2 k2 k3 z2
     refine AnyH_one (i:=64) (by kernel_rfl) rfl (by kernel_rfl) (fun K hK=>?_)
     go_simp
     refine ⟨trivial,(callsIn_wide.2 (K_any _ 3 w23.heap.size 1 w2 K3.out (by have:=Z1.out;have:=Z2.out;omega) (nl_ _))).mono ?_⟩
     rintro e w24 ⟨rfl,hb24⟩
     have hl24:=HL2.out.trans (hb24.mono HL2.out.size)
     have HL24:=hid hl24
     have z24:w1.heap.size < w24.heap.size:=by have:=Z2.out;have:=hb24.size;omega
     have KX:=hid (bc_ hb24 (by have:=Z2.out;omega) K2.out)
     refine hK _ _ ⟨HSW.out _ hl24,?_⟩
     clear hK hb24 hl24
     refine AnyH_one (i:=66) (by kernel_rfl) rfl (by kernel_rfl) (fun K hK=>?_)
     go_simp
     refine ⟨trivial,(callsIn_wide.2 (K_any _ 6 w1.heap.size 1 w24 KX.out z24 (nl_ _))).mono ?_⟩
     rintro e w25 ⟨rfl,hb25⟩
     have hl25:=HL24.out.trans (hb25.mono HL24.out.size)
     have HL25:=hid hl25
     refine hK _ _ ⟨HSW.out _ hl25,?_⟩
     clear hK hb25 hl25 z24
     refine AnyH_one (i:=67) (by kernel_rfl) rfl (by kernel_rfl) (fun K hK=>?_)
     go_simp
     have hbK:Below w25.heap.size w25 (w25.alloc (.cells #[.string ⟨#[98,101,100]⟩, .bool true, .int .i64 3, .string ⟨#[114,97,107,101,100]⟩, .bool true, .int .i64 6] 71)):=(Below.refl _ _).alloc (nl_ _) _
     have hkK:=heap_alloc_new w25 (.cells #[.string ⟨#[98,101,100]⟩, .bool true, .int .i64 3, .string ⟨#[114,97,107,101,100]⟩, .bool true, .int .i64 6] 71)
     have hl26:=HL25.out.trans (hbK.mono HL25.out.size)
     have hz25:=HL25.out.size
     have pK:Pth (fun b=>b < w25.heap.size + 1) (w25.alloc (.cells #[.string ⟨#[98,101,100]⟩, .bool true, .int .i64 3, .string ⟨#[114,97,107,101,100]⟩, .bool true, .int .i64 6] 71)) (.slice (some ⟨w25.heap.size,0,none⟩) 2 2) [bed3,raked6]:=slc_block (k:=3) (n:=2) hkK (by simp) rfl (by simp [maxLen])
     have EK:=hid (eqKeys_any [bed3,raked6] [bed3,raked6] ar (some ⟨w25.heap.size,0,none⟩) cr 2 (fun b=>b < w25.heap.size + 1) _ ((HP23.out.agree (Ag_b hl26 (fun b hb=>by omega))).wide (fun b hb=>by omega)) pK (by decide) (by decide))
     rw [decide_eq_true rfl] at EK
     have HL26:=hid hl26
     refine hK _ _ ⟨HSW.out _ hl26,?_⟩
     clear hK hkK pK hbK hl26
     refine AnyH_one (i:=68) (by kernel_rfl) rfl (by kernel_rfl) (fun K hK=>?_)
     go_simp
     refine ⟨trivial,(callsIn_wide.2 EK.out).mono ?_⟩
     rintro e w27 ⟨rfl,hb27⟩
     have hl27:=HL26.out.trans (hb27.mono HL26.out.size)
     have hS27:=HSW.out _ hl27
     have HL27:=hid hl27
     refine hK _ _ ⟨hS27,?_⟩
     clear hK hb27 hl27 EK
     refine tkY 69 167 (.bool true) rfl rfl hS27 (fun w' hs=>?_) ?_
     · go_simp
     refine tkY 70 0 (.bool true) rfl rfl hS27 (fun w' hs=>?_) ?_
     · go_simp
     refine AnyH_done (by kernel_rfl) ?_
     go_simp
     clear hS27
     go_wp2_with fail
     go_ret
     have e1:=HB19.out.size
     exact ⟨rfl,HB19.out.trans ((HL23.out.trans (HL27.out.mono hz23)).mono e1)⟩
 · go_simp
   obtain ⟨w1,hw1⟩:∃ w1,w23.alloc (.cells #[.int .i64 6] 3) = w1:=⟨_,rfl⟩
   have hl1:Below w23.heap.size w23 w1:=by rw [← hw1];exact hb0.alloc (nl_ _) _
   have k1:w1.cell? ⟨w23.heap.size,0,none⟩ = some (.int .i64 6):=by rw [← hw1];exact cg_ (heap_alloc_new w23 _) (k:=0) rfl
   have z1:w1.heap.size = w23.heap.size + 1:=by rw [← hw1];simp
   have Z1:=hid z1
   have HL1:=hid hl1
   have K1:=hid k1
   rw [hw1]
   refine hK _ _ ⟨HSW.out _ hl1,?_⟩
   clear hK hw1 hl1 k1 z1
   refine AnyH_one (i:=63) (by kernel_rfl) rfl (by kernel_rfl) (fun K hK=>?_)
   go_simp
   obtain ⟨w2,hw2⟩:∃ w2,w1.alloc (.cells #[.int .i64 3] 3) = w2:=⟨_,rfl⟩
   have hl2:Below w23.heap.size w23 w2:=by rw [← hw2];exact HL1.out.alloc HL1.out.size _
   have k2:w2.cell? ⟨w1.heap.size,0,none⟩ = some (.int .i64 3):=by rw [← hw2];exact cg_ (heap_alloc_new w1 _) (k:=0) rfl
   have z2:w2.heap.size = w1.heap.size + 1:=by rw [← hw2];simp
   have k3:w2.cell? ⟨w23.heap.size,0,none⟩ = some (.int .i64 6):=by rw [← hw2];exact bc_ ((Below.refl w1.heap.size _).alloc (nl_ _) _) (by have:=Z1.out;omega) K1.out
   have Z2:=hid z2
   have HL2:=hid hl2
   have K2:=hid k2
   have K3:=hid k3
   rw [hw2]
   refine hK _ _ ⟨HSW.out _ hl2,?_⟩
   clear hK hw2 hl2 k2 k3 z2
   refine AnyH_one (i:=64) (by kernel_rfl) rfl (by kernel_rfl) (fun K hK=>?_)
   go_simp
   refine ⟨trivial,(callsIn_wide.2 (K_any _ 3 w1.heap.size 1 w2 K2.out (by have:=Z2.out;omega) (nl_ _))).mono ?_⟩
   rintro e w24 ⟨rfl,hb24⟩
   have hl24:=HL2.out.trans (hb24.mono HL2.out.size)
   have HL24:=hid hl24
   have z24:w23.heap.size < w24.heap.size:=by have:=Z1.out;have:=Z2.out;have:=hb24.size;omega
   have KX:=hid (bc_ hb24 (by have:=Z1.out;have:=Z2.out;omega) K3.out)
   refine hK _ _ ⟨HSW.out _ hl24,?_⟩
   clear hK hb24 hl24
   refine AnyH_one (i:=66) (by kernel_rfl) rfl (by kernel_rfl) (fun K hK=>?_)
   go_simp
   refine ⟨trivial,(callsIn_wide.2 (K_any _ 6 w23.heap.size 1 w24 KX.out z24 (nl_ _))).mono ?_⟩
   rintro e w25 ⟨rfl,hb25⟩
   have hl25:=HL24.out.trans (hb25.mono HL24.out.size)
   have HL25:=hid hl25
   refine hK _ _ ⟨HSW.out _ hl25,?_⟩
   clear hK hb25 hl25 z24
   refine AnyH_one (i:=67) (by kernel_rfl) rfl (by kernel_rfl) (fun K hK=>?_)
   go_simp
   have hbK:Below w25.heap.size w25 (w25.alloc (.cells #[.string ⟨#[98,101,100]⟩, .bool true, .int .i64 3, .string ⟨#[114,97,107,101,100]⟩, .bool true, .int .i64 6] 71)):=(Below.refl _ _).alloc (nl_ _) _
   have hkK:=heap_alloc_new w25 (.cells #[.string ⟨#[98,101,100]⟩, .bool true, .int .i64 3, .string ⟨#[114,97,107,101,100]⟩, .bool true, .int .i64 6] 71)
   have hl26:=HL25.out.trans (hbK.mono HL25.out.size)
   have hz25:=HL25.out.size
   have pK:Pth (fun b=>b < w25.heap.size + 1) (w25.alloc (.cells #[.string ⟨#[98,101,100]⟩, .bool true, .int .i64 3, .string ⟨#[114,97,107,101,100]⟩, .bool true, .int .i64 6] 71)) (.slice (some ⟨w25.heap.size,0,none⟩) 2 2) [bed3,raked6]:=slc_block (k:=3) (n:=2) hkK (by simp) rfl (by simp [maxLen])
   have EK:=hid (eqKeys_any [bed3,raked6] [bed3,raked6] ar (some ⟨w25.heap.size,0,none⟩) cr 2 (fun b=>b < w25.heap.size + 1) _ ((HP23.out.agree (Ag_b hl26 (fun b hb=>by omega))).wide (fun b hb=>by omega)) pK (by decide) (by decide))
   rw [decide_eq_true rfl] at EK
   have HL26:=hid hl26
   refine hK _ _ ⟨HSW.out _ hl26,?_⟩
   clear hK hkK pK hbK hl26
   refine AnyH_one (i:=68) (by kernel_rfl) rfl (by kernel_rfl) (fun K hK=>?_)
   go_simp
   refine ⟨trivial,(callsIn_wide.2 EK.out).mono ?_⟩
   rintro e w27 ⟨rfl,hb27⟩
   have hl27:=HL26.out.trans (hb27.mono HL26.out.size)
   have hS27:=HSW.out _ hl27
   have HL27:=hid hl27
   refine hK _ _ ⟨hS27,?_⟩
   clear hK hb27 hl27 EK
   refine tkY 69 167 (.bool true) rfl rfl hS27 (fun w' hs=>?_) ?_
   · go_simp
   refine tkY 70 0 (.bool true) rfl rfl hS27 (fun w' hs=>?_) ?_
   · go_simp
   refine AnyH_done (by kernel_rfl) ?_
   go_simp
   clear hS27
   go_wp2_with fail
   go_ret
   have e1:=HB19.out.size
   exact ⟨rfl,HB19.out.trans ((HL23.out.trans (HL27.out.mono hz23)).mono e1)⟩
end Go.Proofs.LF
