/- Parts of the proof of a law of layer 11 (file): LfW48, LfJp, LfW88, LfW75, LfVal, LfW76, LfW49, LfW110, LfW109. The conditions stand in each theorem. -/
import Derived.Test.YtadkpjgpefcphaaGreatDoorProg
import Derived.Test.YtadkpjgpefcphaaGreatDoorNoaa
import Derived.Test.YtadkpjgpefcphaaGreatDoorNoab
import Derived.Test.YtadkpjgpefcphaaGreatDoorNoac
import Derived.Test.YtadkpjgpefcphaaGreatDoorNoad
import Derived.Test.YtadkpjgpefcphaaGreatDoorNoae
import Derived.Test.YtadkpjgpefcphaaGreatDoorNoah
import Derived.Test.YtadkpjgpefcphaaGreatDoorNoak
import Derived.Test.YtadkpjgpefcphaaGreatDoorNoam
import Derived.Test.YtadkpjgpefcphaaGreatDoorNoan
import Derived.Test.YtadkpjgpefcphaaGreatDoorNoap
import Derived.Test.YtadkpjgpefcphaaGreatDoorNoaq
import Derived.Test.YtadkpjgpefcphaaGreatDoorNoar
import Derived.Test.YtadkpjgpefcphaaGreatDoorNoat
import Derived.Test.YtadkpjgpefcphaaGreatDoorNoau
set_option linter.all false
set_option linter.unusedVariables false
set_option linter.unusedSimpArgs false
namespace Go.Proofs.LF
open Go.RowKit Go.Sort
set_option maxHeartbeats 4000000
set_option maxRecDepth 100000
attribute [local go_sem] bs_toList bs_size bs_get
def bedN:List UInt8:=[98,101,100]
def rakedN:List UInt8:=[114,97,107,101,100]
def soldN:List UInt8:=[115,111,108,100]
def oneY (n:Int):Fo := .cons bedN [3] (.cons rakedN [5,n] .nil .nil) (.cons soldN [] .nil .nil)
theorem FCs.alloc {S:Nat→Prop} {w:World} {y:Fo} {cs:List Value} (h:FCs S w y cs) (hS:∀ b,S b→b < w.heap.size) (o:Obj):FCs S (w.alloc o) y cs:=h.agree (fun b hb=>heap_alloc_old _ _ (hS b hb))
theorem slc_block {S:Nat→Prop} {w:World} {b k n:Nat} {vs:Array Value} {t:TypeId} {fr:Nat × Nat} (hb:w.heap[b]? = some (.cells vs t fr)) (hS:S b) (hl:vs.size = n * k) (hn:n ≤ maxLen):SlC S w k (.slice (some ⟨b,0,none⟩) n n) n vs.toList:=by
 refine ⟨by simpa using hl,_,n,rfl,nl_ _,hn,(fun h=>by cases h), .inr ⟨b,0,rfl,hS,fun j u hj=>?_⟩⟩
 simp only [World.cell?,hb,Nat.zero_add]
 simpa using hj
theorem One_any (n:Int) (w:World) :
 Calls Tryz.prog 80 #[.int .i64 n] w fun e w'=>∃ g,e = .returned (.slice (some ⟨g,0,none⟩) 2 2)∧FSl (Rg w.heap.size w'.heap.size) w' (.slice (some ⟨g,0,none⟩) 2 2) (oneY n)∧Below w.heap.size w w':=by
 go_enter Tryz.func80,Tryz.ntmps80
 go_wp2_with fail
 refine bodyPost_ret (v := .slice (some ⟨w.heap.size + 1 + 1 + 1,0,none⟩) 2 2) (by simp [results,Tryz.results80,go_sem]) rfl ?_
 refine ⟨w.heap.size + 1 + 1 + 1,rfl,?_,?_⟩
 · have key:∀ (N:Nat) (W:World) (A B C D:Obj),A = .cells #[.int .i64 3] 3→B = .cells #[.int .i64 5, .int .i64 n] 3→C = .cells #[.string ⟨#[114,97,107,101,100]⟩, .slice (some ⟨N + 1,0,none⟩) 2 2, .slice none 0 0] 85 →
    D = .cells #[.string ⟨#[98,101,100]⟩, .slice (some ⟨N,0,none⟩) 1 1, .slice (some ⟨N + 1 + 1,0,none⟩) 1 1, .string ⟨#[115,111,108,100]⟩, .slice none 0 0, .slice none 0 0] 85→N = w.heap.size→W = (((w.alloc A).alloc B).alloc C).alloc D→FSl (Rg w.heap.size W.heap.size) W (.slice (some ⟨N + 1 + 1 + 1,0,none⟩) 2 2) (oneY n):=by
    rintro N W A B C D hA hB hC hD hN hW
    have hz:W.heap.size = N + 4:=by rw [hW,hN];simp
    have a0:W.heap[N]? = some A:=by
     rw [hW,hN]
     exact (heap_alloc_old _ _ (by simp;omega)).trans ((heap_alloc_old _ _ (by simp;omega)).trans ((heap_alloc_old _ _ (by simp)).trans (heap_alloc_new w A)))
    have a1:W.heap[N + 1]? = some B:=by
     have h:=heap_alloc_new (w.alloc A) B
     simp only [World.size_alloc] at h
     rw [hW,hN]
     exact (heap_alloc_old _ _ (by simp)).trans ((heap_alloc_old _ _ (by simp)).trans h)
    have a2:W.heap[N + 1 + 1]? = some C:=by
     have h:=heap_alloc_new ((w.alloc A).alloc B) C
     simp only [World.size_alloc] at h
     rw [hW,hN]
     exact (heap_alloc_old _ _ (by simp)).trans h
    have a3:W.heap[N + 1 + 1 + 1]? = some D:=by
     have h:=heap_alloc_new (((w.alloc A).alloc B).alloc C) D
     simp only [World.size_alloc] at h
     rw [hW,hN]
     exact h
    have hS:∀ k,k < 4→Rg w.heap.size W.heap.size (N + k):=fun k hk=>⟨by omega,by omega⟩
    rw [hA] at a0
    rw [hB] at a1
    rw [hC] at a2
    rw [hD] at a3
    have i0:Ints (Rg w.heap.size W.heap.size) W (.slice (some ⟨N,0,none⟩) 1 1) [3]:=slc_block (vs:=#[.int .i64 3]) a0 (hS 0 (by omega)) rfl (by simp [maxLen])
    have i1:Ints (Rg w.heap.size W.heap.size) W (.slice (some ⟨N + 1,0,none⟩) 2 2) [5,n]:=slc_block (vs:=#[.int .i64 5, .int .i64 n]) a1 (hS 1 (by omega)) rfl (by simp [maxLen])
    have nilI:∀ S,Ints S W (.slice none 0 0) []:=fun S=>⟨rfl,none,0,rfl,nl_ _,by simp [maxLen],fun _=>rfl, .inl rfl⟩
    have nilF:∀ S,∃ ds,SlC S W 3 (.slice none 0 0) Fo.nil.len ds∧FCs S W .nil ds:=fun S=>⟨[],⟨rfl,none,0,rfl,nl_ _,by simp [maxLen],fun _=>rfl, .inl rfl⟩,rfl⟩
    have s2:=slc_block (k:=3) (n:=1) (S:=Rg w.heap.size W.heap.size) a2 (hS 2 (by omega)) rfl (by simp [maxLen])
    have s3:=slc_block (k:=3) (n:=2) (S:=Rg w.heap.size W.heap.size) a3 (hS 3 (by omega)) rfl (by simp [maxLen])
    exact ⟨_,s3,_,_,_,rfl,i0,⟨_,s2,_,_,_,rfl,i1,nilF _,rfl⟩,_,_,_,rfl,nilI _,nilF _,rfl⟩
   exact key w.heap.size _ _ _ _ _ rfl rfl rfl rfl rfl rfl
 · exact ((((Below.refl _ _).alloc (nl_ _) _).alloc (by simp) _).alloc (by simp;omega) _).alloc (by simp;omega) _
theorem K_any (s:ByteArray) (x:Int) (g c:Nat) (w:World) (hx:w.cell? ⟨g,0,none⟩ = some (.int .i64 x)) (hg:g < w.heap.size) (hc:1 ≤ c) :
 Calls Tryz.prog 51 #[.string s, .slice (some ⟨g,0,none⟩) 1 c] w fun e w'=>e = .returned (.agg #[.string s, .bool true, .int .i64 x])∧Below w.heap.size w w':=by
 have hx':(w.alloc (.cells #[.string ByteArray.empty, .bool false, .int .i64 0] 71)).cell? ⟨g,0,none⟩ = some (.int .i64 x):=bc_ ((Below.refl w.heap.size _).alloc (nl_ _) _) hg hx
 go_enter Tryz.func51,Tryz.ntmps51
 go_wp2_with fail
 exact bodyPost_ret (v := .agg #[.string s, .bool true, .int .i64 x]) (by simp [results,Tryz.results51,go_sem]) rfl ⟨rfl,((Below.refl _ _).alloc (nl_ _) _)⟩
theorem ky_beq (a b:Ky):decide (a = b) = (a.n == b.n && (a.h == b.h && a.x == b.x)):=by
 obtain ⟨an,ah,ax⟩:=a
 obtain ⟨bn,bh,bx⟩:=b
 by_cases h1:an = bn <;> by_cases h2:ah = bh <;> by_cases h3:ax = bx <;> simp [h1,h2,h3]
theorem eqKeys_any (p q:List Ky) (ap aq:Option Addr) (cp cq:Nat) (S:Nat→Prop) (w:World) (hp:Pth S w (.slice ap p.length cp) p) (hq:Pth S w (.slice aq q.length cq) q) (lp:p.length ≤ 100000) (lq:q.length ≤ 100000) :
 Calls Tryz.prog 42 #[.slice ap p.length cp, .slice aq q.length cq] w fun e w'=>e = .returned (.bool (decide (p = q)))∧Below w.heap.size w w':=by
 by_cases hne:p.length = q.length
 · have hne':((p.length:Int) != (q.length:Int)) = false:=by simp;omega
   have HN:=hid hne
   clear hne
   go_enter Tryz.func42,Tryz.ntmps42
   go_wp2_with fail
   go_loopw [13] (fun i wr=>∃ (k d:Nat),k ≤ p.length∧i = .int .i64 k∧wr = w.drewN d∧Hid (p.take k = q.take k)) (fun i _=>p.length - (intOf i).toNat)
   case atStart=>exact ⟨0,0,by omega,rfl,rfl,by simp [Hid]⟩
   case round=>
    obtain ⟨k,d,hk,rfl,rfl,H2⟩:=hrel
    by_cases hlt:k < p.length
    · obtain ⟨g,o,rfl,_,_,_,hcell⟩:=SlC.cells hp (by omega)
      obtain ⟨g',o',rfl,_,_,_,hcell'⟩:=SlC.cells hq (by have:=HN.out;omega)
      have hlt':k < q.length:=by have:=HN.out;omega
      obtain ⟨k0,k1,k2⟩:=key_cells hlt
      obtain ⟨k0',k1',k2'⟩:=key_cells hlt'
      have c0:=hcell _ _ k0
      have c1:=hcell _ _ k1
      have c2:=hcell _ _ k2
      have d0:=hcell' _ _ k0'
      have d1:=hcell' _ _ k1'
      have d2:=hcell' _ _ k2'
      rw [← Nat.add_assoc] at c1 c2 d1 d2
      have htp:p.take (k + 1) = p.take k ++ [p[k]]:=List.take_succ_eq_append_getElem hlt
      have htq:q.take (k + 1) = q.take k ++ [q[k]]:=List.take_succ_eq_append_getElem hlt'
      obtain ⟨a,ha⟩:∃ a,p[k] = a:=⟨_,rfl⟩
      obtain ⟨b,hb⟩:∃ b,q[k] = b:=⟨_,rfl⟩
      have HA:=hid ha
      have HB:=hid hb
      rw [ha] at c0 c1 c2 htp
      rw [hb] at d0 d1 d2 htq
      have HTP:=hid htp
      have HTQ:=hid htq
      clear hcell hcell' k0 k1 k2 k0' k1' k2' htp htq ha hb
      have i1:(0:Int) ≤ (k:Int):=by omega
      have i2:(k:Int) < (p.length:Int):=by omega
      have i3:(k:Int) < (q.length:Int):=by omega
      by_cases he:a = b
      · subst he
        go_wp2_with fail
        go_quiet (fail)
        go_wp2_with fail
        go_roundw
        case rel=>exact ⟨k + 1,_,by omega,by go_num,rfl,by rw [Hid,HTP.out,HTQ.out,H2.out]⟩
        case measure=>simp [intOf];omega
      · have hdec:(a.n == b.n && (a.h == b.h && a.x == b.x)) = false:=by rw [← ky_beq];simp [he]
        have HE:=hid he
        have HDEC:=hid hdec
        clear he hdec
        cases hn:(a.n == b.n) <;> cases hh:(a.h == b.h) <;> cases hx:(a.x == b.x)
        all_goals first
         | (exfalso;have:=HDEC.out;rw [hn,hh,hx] at this;cases this;done)
         | (go_wp2_with fail
            go_quiet (fail)
            go_wp2_with fail
            go_ret
            refine ⟨ret_bool ?_,below_drewN (below_drewN (Below.refl _ _) _) _⟩
            symm
            rw [decide_eq_false_iff_not]
            rintro rfl
            exact HE.out (HA.out.symm.trans HB.out))
    · go_wp2_with fail
      go_ret
      obtain rfl:k = p.length:=by omega
      refine ⟨ret_bool ?_,below_drewN (Below.refl _ _) _⟩
      symm
      have:=H2.out
      rw [List.take_length,HN.out,List.take_length] at this
      exact decide_eq_true this
 · have hne':((p.length:Int) != (q.length:Int)) = true:=by simp;omega
   have HN:=hid hne
   clear hne
   go_enter Tryz.func42,Tryz.ntmps42
   go_wp2_with fail
   go_ret
   refine ⟨ret_bool ?_,Below.refl _ _⟩
   symm
   rw [decide_eq_false_iff_not]
   rintro rfl
   exact HN.out rfl
end Go.Proofs.LF
namespace Go.Proofs.LF
theorem treF_smc:∀ (m d:Nat) (l:List Fl),l.length ≤ m→l.length ≤ 1000→(∀ x ∈ l,(∀ k ∈ x.p,k.n.length ≤ 1000)∧x.l.length ≤ 1000)→(treF d l).1.Sm∧(treF d l).1.len ≤ l.length
 | _,d,[],_,_,_=>by rw [treF_nil];exact ⟨trivial,Nat.zero_le _⟩
 | 0,_,_ :: _,h,_,_=>by simp at h
 | m + 1,d,x :: l,h,h2,h3=>by
   by_cases hx:x.p.length = d + 1
   · rw [treF_yes hx]
     simp only [List.length_cons] at h h2
     obtain ⟨a1,a2⟩:=treF_smc m (d + 1) l (by omega) (by omega) fun y hy=>h3 y (by simp [hy])
     obtain ⟨b1,b2⟩:=treF_smc m d (l.drop (treF (d + 1) l).2) (by rw [List.length_drop];omega) (by rw [List.length_drop];omega) fun y hy=>h3 y (by simp [List.mem_of_mem_drop hy])
     have h4:=h3 x (by simp)
     rw [List.length_drop] at b2
     refine ⟨⟨h4.1 _ (List.getElem_mem _),h4.2,by omega,a1,b1⟩,?_⟩
     simp only [Fo.len,List.length_cons]
     omega
   · rw [treF_no hx];exact ⟨trivial,Nat.zero_le _⟩
end Go.Proofs.LF
namespace Go.Proofs.LF
open Go.RowKit Go.Sort
set_option maxHeartbeats 4000000
set_option maxRecDepth 100000
attribute [local go_sem] bs_toList bs_size bs_get
def lastN (p:List Ky):List UInt8:=(p.getLastD ⟨[],false,0⟩).n
def nmF (nm:List UInt8) (ps:List (List Ky)):List (List Ky):=ps.filter fun p=>decide (lastN p = nm)
theorem nmF_snoc (nm:List UInt8) (ps:List (List Ky)) (p:List Ky):nmF nm (ps ++ [p]) = if lastN p = nm then nmF nm ps ++ [p] else nmF nm ps:=by
 unfold nmF
 rw [List.filter_append,List.filter_cons]
 split
 · rename_i h;rw [if_pos (by simpa using h)];simp
 · rename_i h;rw [if_neg (by simpa using h)];simp
def findE (y:Fo):Int:=chkY y
def findL (y:Fo) (nm:List UInt8):List (List Ky):=if chkY y = 0 then nmF nm ((flsL [] y).map Fl.p) else []
def FindR (y:Fo) (nm:List UInt8) (w:World) (e:Ending) (w':World):Prop:=
 ∃ a c,e = .returned (.tuple #[.slice a (findL y nm).length c, .int .i64 (findE y)])∧PaSl (Rg w.heap.size w'.heap.size) w' (.slice a (findL y nm).length c) (findL y nm)∧Below w.heap.size w w'
theorem FindR.bad {y:Fo} {nm:List UInt8} {w w':World} {x:Int} (hx:chkY y = x) (h0:x ≠ 0) (hb:Below w.heap.size w w'):FindR y nm w (.returned (.tuple #[.slice none 0 0, .int .i64 x])) w':=by
 subst hx
 have h1:findL y nm = []:=by rw [findL,if_neg h0]
 unfold FindR
 rw [h1]
 exact ⟨none,0,rfl,⟨[],⟨rfl,_,0,rfl,nl_ _,by simp [maxLen],fun _=>rfl, .inl rfl⟩,rfl⟩,hb⟩
theorem Tryz.info65p:(Tryz.prog.info? 65).map (fun i=>(i.zero,i.size,i.bytes)) = some (some (.slice none 0 0),1,24):=by kernel_rfl
theorem Find60_any (y:Fo) (nm:List UInt8) (ay:Option Addr) (cy:Nat) (S:Nat→Prop) (w:World) (hv:FSl S w (.slice ay y.len cy) y) (hS:∀ b,S b→b < w.heap.size) (hlen:y.len ≤ 1000) (hsm:y.Sm) (hcnt:y.cnt ≤ 900) :
 Calls Tryz.prog 60 #[.slice ay y.len cy, .string (bs nm)] w (FindR y nm w):=by
 obtain ⟨i0,hi0,hz0,hz1,hz2⟩:=info_parts Tryz.info65p
 have HC:=hid (Check_any y ay cy S w hv hS hlen hsm hcnt)
 have HV:=hid hv
 have HS:=hid hS
 have HSM:=hid hsm
 clear hv hS hsm
 by_cases hc:chkY y = 0
 · have HCK:=hid hc
   go_enter Tryz.func60,Tryz.ntmps60
   go_wp2_with fail
   refine HC.out.mono ?_
   rintro e w1 ⟨rfl,hb1⟩
   have hz1':=hb1.size
   have HFL:=hid (flats_any y ay cy S w1 (HV.out.agree (Ag_b hb1 HS.out)) (fun b hb=>by have:=HS.out b hb;omega) hlen HSM.out hcnt)
   rw [hc]
   have HB1:=hid hb1
   clear hb1 hc HC
   go_wp2_with fail
   refine HFL.out.mono ?_
   rintro e w2 ⟨af,cf,rfl,hls,hb2⟩
   have hz2':=hb2.size
   have HB2:=hid (HB1.out.trans (hb2.mono hz1'))
   have okf:=fls_ok HCK.out
   have HNE:=hid (fun (x:Fl) (hx:x ∈ flsL [] y)=>show 1 ≤ x.p.length∧x.p.length ≤ 1000 from ⟨by
    have:=flsL_ne x hx
    rcases Nat.eq_zero_or_pos x.p.length with h | h
    · exact absurd (List.eq_nil_of_length_eq_zero h) this
    · exact h,(okf.2.1 x hx).1⟩)
   have hll:=okf.2.2
   obtain ⟨fs,hfs⟩:∃ fs,flsL [] y = fs:=⟨_,rfl⟩
   have HFS:=hid hfs
   rw [hfs] at hls HNE hll ⊢
   obtain ⟨af',cf',ee,_,hcm,hat⟩:=LSl.at hls
   obtain ⟨rfl,rfl⟩:af = af'∧cf = cf':=by cases ee;exact ⟨rfl,rfl⟩
   have HAT:=hid hat
   unfold maxLen at hcm
   clear hb2 hls okf HFL hat ee hfs
   go_wp2_with fail
   go_loopw [7,18] (fun vo vi wr=>∃ k:Nat,k ≤ fs.length∧vi = .int .i64 k∧Hid (RowS rdPa 65 (Rg w1.heap.size w2.heap.size) w2.heap.size wr vo (nmF nm ((fs.take k).map Fl.p)))∧Hid (Below w2.heap.size w2 wr)) (fun _ vi _=>fs.length - (intOf vi).toNat)
   case atStart=>exact ⟨0,by omega,rfl,RowS.nil w2,Below.refl _ _⟩
   case round=>
    obtain ⟨k,hk,rfl,HR,HB⟩:=hrel
    have hzr:=HB.out.size
    by_cases hlt:k < fs.length
    · have hlt':(k:Int) < (fs.length:Int):=by omega
      obtain ⟨g,o,cs,rfl,hg,⟨ap,cp,an,cn,rfl,hP,_⟩,hcl⟩:=HAT.out k hlt
      have hag:=Ag_b (S:=Rg w1.heap.size w2.heap.size) HB.out (fun _ h=>h.2)
      have c0:=hag.cell hg (hcl 0 _ rfl)
      have c1:=hag.cell hg (hcl 1 _ rfl)
      rw [Nat.add_zero] at c0
      simp only [← Nat.add_assoc] at c1
      have htk:(fs.take (k + 1)).map Fl.p = (fs.take k).map Fl.p ++ [fs[k].p]:=by
       rw [List.take_succ_eq_append_getElem hlt,List.map_append];rfl
      have hne:=HNE.out fs[k] (List.getElem_mem hlt)
      obtain ⟨x,hx⟩:∃ x,fs[k] = x:=⟨_,rfl⟩
      rw [hx] at c0 c1 htk hP hne
      have hsn:=nmF_snoc nm ((fs.take k).map Fl.p) x.p
      rw [← htk] at hsn
      have HSN:=hid hsn
      obtain ⟨h1,h2⟩:=hne
      obtain ⟨g',o',rfl,hg',_,_,hpc⟩:=SlC.cells hP (by omega)
      obtain ⟨m,hm⟩:∃ m,x.p.length = m + 1:=⟨x.p.length - 1,by omega⟩
      obtain ⟨k0,k1',k2'⟩:=key_cells (p:=x.p) (k:=m) (by omega)
      have e0:=hag.cell hg' (hpc _ _ k0)
      have hln:lastN x.p = x.p[m].n:=by
       unfold lastN
       rw [List.getLastD_eq_getLast?,List.getLast?_eq_getElem?,show x.p.length - 1 = m by omega,List.getElem?_eq_getElem (by omega)];rfl
      obtain ⟨nn,hnn⟩:∃ nn,x.p[m].n = nn:=⟨_,rfl⟩
      rw [hnn] at e0 hln
      have HLN:=hid hln
      have hPw:=hP.agree hag
      have HPW:=hid hPw
      have hgl:g' < wr.heap.size:=by have:=hg'.2;omega
      have hsub:((x.p.length:Int) - 1) = (m:Int):=by omega
      have hmx:(m:Int) < (x.p.length:Int):=by omega
      have NB:=hid (heap_alloc_new wr (.cells #[.slice (some ⟨g',o',none⟩) x.p.length cp, .slice an x.l.length cn] 171))
      have BA:=hid ((Below.refl wr.heap.size wr).alloc (nl_ _) (.cells #[.slice (some ⟨g',o',none⟩) x.p.length cp, .slice an x.l.length cn] 171))
      have hxl:x.p.length ≤ 9223372036854775807:=by omega
      have HMM:=hid hm
      clear hcl hpc k0 k1' k2' hP hPw hx htk hsn hln hnn hm
      go_upto_region 8 with fail
      obtain ⟨wa,hwa⟩:∃ wa,wr.alloc (.cells #[.slice (some ⟨g',o',none⟩) x.p.length cp, .slice an x.l.length cn] 171) = wa:=⟨_,rfl⟩
      have hza:wr.heap.size < wa.heap.size:=by rw [← hwa];simp
      rw [hwa] at NB BA ⊢
      have n0:=cg_ NB.out (k:=0) (v := .slice (some ⟨g',o',none⟩) x.p.length cp) rfl
      have e0':=bc_ BA.out hgl e0
      have HWA:=hid hwa
      clear hwa c0 c1 e0
      by_cases heq:nn = nm
      · have hsn:=HSN.out
        rw [if_pos (by rw [HLN.out,heq])] at hsn
        have HS2:=hid hsn
        clear hsn
        have hrow:=HR.out.below (fun b hb=>by have:=hb.2;omega) BA.out
        have HROW:=hid hrow
        have NB2:=hid (heap_alloc_new wa (.cells #[.slice (some ⟨g',o',none⟩) x.p.length cp] 65))
        have hlr:((fs.take k).map Fl.p).length ≤ 60:=by simp;omega
        have hnl:(nmF nm ((fs.take k).map Fl.p)).length ≤ 60:=Nat.le_trans (List.length_filter_le _ _) hlr
        have hb2':=hid ((Below.refl wa.heap.size wa).alloc (nl_ _) (.cells #[.slice (some ⟨g',o',none⟩) x.p.length cp] 65))
        clear hrow hlr
        go_wp2_with (at_builtin;(refine wpList_push (r:=rdPa) (e:=65) (S:=Rg w1.heap.size w2.heap.size) (lo:=w2.heap.size) rfl _ _ _ rfl i0 _ 24 Tryz.underlying49 hi0 hz0 hz1 hz2 rfl (by omega) rfl (HROW.out.below (fun b hb=>by have:=hb.2;omega) hb2'.out) (fun b hb=>hb.2) (by simp;omega) x.p [.slice (some ⟨g',o',none⟩) x.p.length cp] wa.heap.size rfl NB2.out ⟨_,_,rfl,Pth.agree HPW.out (Ag_b (BA.out.trans (hb2'.out.mono (by omega))) (fun b hb=>by have:=hb.2;omega))⟩ (by unfold maxLen;omega) (by omega) ?_;intro v9 w9 hr9 hg9 hat9 hbl9))
        have hB9:=hbl9 w2 (HB.out.trans ((BA.out.trans (hb2'.out.mono (by omega))).mono hzr))
        have HR9:=hid hr9
        have HB9:=hid hB9
        clear hr9 hg9 hat9 hbl9 hB9
        go_roundw
        case rel=>exact ⟨k + 1,by omega,by go_num,by rw [Hid,HS2.out];exact HR9.out,HB9⟩
        case measure=>simp [intOf];omega
      · have hsn:=HSN.out
        rw [if_neg (by rw [HLN.out];exact heq)] at hsn
        have HS2:=hid hsn
        have hrow:=HR.out.below (fun b hb=>by have:=hb.2;omega) BA.out
        have HROW:=hid hrow
        have hB9:=HB.out.trans (BA.out.mono hzr)
        have HB9:=hid hB9
        have hb2:(nn == nm) = false:=by simp [heq]
        clear hsn hrow hB9
        go_wp2_with fail
        go_roundw
        case rel=>exact ⟨k + 1,by omega,by go_num,by rw [Hid,HS2.out];exact HROW.out,HB9⟩
        case measure=>simp [intOf];omega
    · obtain rfl:k = fs.length:=by omega
      have hlt':¬ (fs.length:Int) < (fs.length:Int):=by omega
      obtain ⟨a9,c9,rfl,_,_⟩:=HR.out.shape
      have HL:=hid (HR.out.lsl)
      have hz2:=HB2.out.size
      have hB9:=HB2.out.trans (HB.out.mono hz2)
      have HB9:=hid hB9
      clear HR hB9
      go_wp2_with fail
      have e1:findL y nm = nmF nm (fs.map Fl.p):=by rw [findL,if_pos HCK.out,HFS.out]
      have e2:findE y = 0:=HCK.out
      have hL:=HL.out
      rw [List.take_length] at hL
      refine bodyPost_ret (v := .tuple #[.slice a9 (nmF nm (fs.map Fl.p)).length c9, .int .i64 0]) (by simp [results,Tryz.results60,go_sem]) rfl ?_
      unfold FindR
      rw [e1,e2]
      exact ⟨a9,c9,rfl,hL.wide fun b hb=>by
       rcases hb with hb | hb
       · exact ⟨by have:=hb.1;omega,by have:=hb.2;omega⟩
       · exact ⟨by have:=hb.1;omega,hb.2⟩,HB9.out⟩
 · obtain ⟨x,hx⟩:∃ x,chkY y = x:=⟨_,rfl⟩
   rw [hx] at hc HC
   have hc':¬ x = 0:=hc
   have HX:=hid hx
   clear hx hc
   go_enter Tryz.func60,Tryz.ntmps60
   go_wp2_with fail
   refine HC.out.mono ?_
   rintro e w1 ⟨rfl,hb1⟩
   have HB1:=hid hb1
   clear hb1
   go_wp2_with fail
   exact bodyPost_ret (v := .tuple #[.slice none 0 0, .int .i64 x]) (by simp [results,Tryz.results60,go_sem]) rfl (FindR.bad HX.out hc' HB1.out)
end Go.Proofs.LF
namespace Go.Proofs.LF
open Go.RowKit Go.Sort
set_option maxHeartbeats 4000000
set_option maxRecDepth 100000
attribute [local go_sem] bs_toList bs_size bs_get
theorem dupK_own (l:List Ky) (an:Option Addr) (cn:Nat) (S:Nat→Prop) (w:World) (hl:Pth S w (.slice an l.length cn) l) (hS:∀ b,S b→b < w.heap.size) (hlen:l.length ≤ 1000) :
 Calls Tryz.prog 50 #[.slice an l.length cn] w fun e w'=>∃ a c,e = .returned (.slice a l.length c)∧w'.ownsRow w.heap.size 71 3 (.slice a l.length c) l.length (l.flatMap Ky.cells)∧Below w.heap.size w w':=by
 obtain ⟨i0,hi0,hz0,hz1,hz2⟩:=info_parts Tryz.info71'
 have hcap:=SlC.caps hl
 have hl0:=len_keys l
 go_enter Tryz.func50,Tryz.ntmps50
 go_wp2_with (first | (at_make;refine wpList_make_own _ rfl _ _ 65 rfl w.heap.size 71 i0 _ 3 Tryz.underlying65 hi0 hz0 hz1 .i64 .i64 l.length l.length rfl rfl rfl (by rw [hz2];omega) (by unfold maxLen;omega) (nl_ _) ?_;intro w1 hown1 hgrow1) | (at_builtin;refine wpList_append_fits_any _ rfl _ _ 65 rfl w.heap.size 71 i0 3 Tryz.underlying65 hi0 hz1 w.heap.size 0 l.length [] rfl hown1 an l.length cn (l.flatMap Ky.cells) rfl hl0 hcap.2.2 (SlC.news hl (Agree.grown hgrow1 fun b hb=>⟨hS b hb,by simp⟩)) (one_keys l) (by omega) ?_;intro w2 hown2 hgrow2))
 go_ret
 have h2:=hown2
 simp only [Nat.zero_add,List.nil_append] at h2
 exact ⟨_,_,rfl,h2,((Below.refl _ _).grown hgrow1 (nl_ _) (by simp)).grown hgrow2 hgrow1.size (fun k hk=>by cases hk;exact nl_ _)⟩
end Go.Proofs.LF
namespace Go.Proofs.LF
def txt1:List UInt8:=[98,101,100,32,51,10,32,114,97,107,101,100,32,53,32,55,10,115,111,108,100,10]
def txt2:List UInt8:=[98,101,100,32,51,10,32,32,114,97,107,101,100,32,53,10]
def bed3:Ky:=⟨bedN,true,3⟩
def raked5:Ky:=⟨rakedN,true,5⟩
def raked6:Ky:=⟨rakedN,true,6⟩
def oneB (n:Int):Fo := .cons bedN [3] (.cons rakedN [5,n] .nil .nil) .nil
def oneS:Fo := .cons soldN [] .nil .nil
def oneM:Fo := .cons bedN [3] (.cons rakedN [5,7] .nil (.cons rakedN [6] .nil .nil)) (.cons soldN [] .nil .nil)
def difV:List Ch:=[⟨[bed3,raked5],true,true,[5,7],[5,8]⟩,⟨[⟨soldN,false,0⟩],true,false,[],[]⟩]
theorem val_chk:chkY (oneY 7) = 0:=by decide +kernel
theorem val_txt:txtL (nodesL [] (oneY 7)) = txt1:=by decide +kernel
theorem val_prs1:(prs txt1).2 = (0,0,0)∧prsY txt1 = oneY 7:=by decide +kernel
theorem val_prs2:(prs txt2).2 = (1,1,11)∧prsY txt2 = .nil:=by decide +kernel
theorem val_dif:difE (oneY 7) (oneB 8) = 0∧difL (oneY 7) (oneB 8) = difV:=by decide +kernel
theorem val_get:getE (oneY 7) [bed3,raked5] = 0∧getN (oneY 7) [bed3,raked5] = (rakedN,[5,7], .nil):=by decide +kernel
theorem val_put:putE (oneY 7) [bed3] rakedN [6] .nil = 0∧putY (oneY 7) [bed3] rakedN [6] .nil = oneM:=by decide +kernel
theorem val_join:joE (oneY 7) oneS oneM = 0∧joY (oneY 7) oneS oneM = oneS∧joP (oneY 7) oneS oneM = [[bed3,raked6]]:=by decide +kernel
end Go.Proofs.LF
namespace Go.Proofs.LF
open Go.RowKit Go.Sort
set_option maxHeartbeats 4000000
set_option maxRecDepth 100000
attribute [local go_sem] bs_toList bs_size bs_get
def evP (up:List Ky) (y:Fo):List (List Ky):=(flsL up y).map Fl.p
end Go.Proofs.LF
namespace Go.Proofs.LF
open Go.RowKit Go.Sort
set_option maxHeartbeats 4000000
set_option maxRecDepth 100000
attribute [local go_sem] bs_toList bs_size bs_get
theorem FCs.take {S:Nat→Prop} {w:World}:∀ {i:Nat} {y:Fo} {cs:List Value},FCs S w y cs→FCs S w (y.take i) (cs.take (i * 3))
 | 0,_,_,_=>by simp [Fo.take,FCs]
 | i + 1, .nil,_,h=>by rw [show _ = [] from h];simp [Fo.take,FCs]
 | i + 1, .cons _ _ _ _,_,⟨vn,vs,cs',h,h2,h3,h5⟩=>by
   rw [h,show (i + 1) * 3 = i * 3 + 1 + 1 + 1 from by omega]
   exact ⟨vn,vs,cs'.take (i * 3),rfl,h2,h3,h5.take⟩
theorem SlC.pre {S:Nat→Prop} {w:World} {k n m c:Nat} {a:Option Addr} {cs:List Value} (h:SlC S w k (.slice a n c) n cs) (hm:m ≤ n):SlC S w k (.slice a m c) m (cs.take (m * k)):=by
 obtain ⟨h1,a',c',he,h2,h3,h4,h5⟩:=h
 cases he
 refine ⟨by rw [List.length_take,h1];exact Nat.min_eq_left (Nat.mul_le_mul_right k hm),a,c,rfl,by omega,h3,h4,?_⟩
 rcases h5 with h5 | ⟨g,o,h6,h7,h8⟩
 · exact .inl (by omega)
 · refine .inr ⟨g,o,h6,h7,fun j u hj=>h8 j u ?_⟩
   rw [List.getElem?_take] at hj
   split at hj
   · exact hj
   · cases hj
theorem SlC.suf {S:Nat→Prop} {w:World} {k n m c g o:Nat} {cs:List Value} (h:SlC S w k (.slice (some ⟨g,o,none⟩) n c) n cs) (hm:m < n):SlC S w k (.slice (some ⟨g,o + m * k,none⟩) (n - m) (c - m)) (n - m) (cs.drop (m * k)):=by
 obtain ⟨h1,a',c',he,h2,h3,h4,h5⟩:=h
 cases he
 refine ⟨by rw [List.length_drop,h1,Nat.sub_mul],_,_,rfl,by omega,by omega,(fun h=>by cases h),?_⟩
 rcases h5 with h5 | ⟨g',o',h6,h7,h8⟩
 · omega
 · cases h6
   refine .inr ⟨g,o + m * k,rfl,h7,fun j u hj=>?_⟩
   rw [List.getElem?_drop] at hj
   rw [Nat.add_assoc]
   exact h8 _ u hj
theorem FSl.pre {S:Nat→Prop} {w:World} {a:Option Addr} {m c:Nat} {y:Fo} (h:FSl S w (.slice a y.len c) y) (hm:m ≤ y.len):FSl S w (.slice a m c) (y.take m):=by
 obtain ⟨ds,h1,h2⟩:=h
 exact ⟨_,by rw [Fo.len_take hm];exact h1.pre hm,h2.take⟩
theorem FSl.suf {S:Nat→Prop} {w:World} {g o m c:Nat} {y:Fo} (h:FSl S w (.slice (some ⟨g,o,none⟩) y.len c) y) (hm:m < y.len):FSl S w (.slice (some ⟨g,o + m * 3,none⟩) (y.len - m) (c - m)) (y.drop m):=by
 obtain ⟨ds,h1,h2⟩:=h
 exact ⟨_,by rw [Fo.len_drop];exact h1.suf hm,h2.drop⟩
theorem one_facts (n:Int):(oneY n).len = 2∧(oneY n).Sm∧(oneY n).cnt = 3:=⟨rfl,by simp [oneY,Fo.Sm,bedN,rakedN,soldN,Fo.len],rfl⟩
theorem print7 (a:Option Addr) (c:Nat) (S:Nat→Prop) (w:World) (hv:FSl S w (.slice a 2 c) (oneY 7)) (hS:∀ b,S b→b < w.heap.size) (ht:Pow w) :
 Calls Tryz.prog 22 #[.slice a 2 c] w fun e w'=>e = .returned (.tuple #[.string ⟨#[98,101,100,32,51,10,32,114,97,107,101,100,32,53,32,55,10,115,111,108,100,10]⟩, .int .i64 0])∧Below w.heap.size w w':=by
 have h:=Print_any (oneY 7) a c S w hv hS (by decide) (one_facts 7).2.1 (by decide) ht
 rw [val_chk,if_pos rfl,val_txt] at h
 exact h
theorem parse1 (w:World):Calls Tryz.prog 26 #[.string ⟨#[98,101,100,32,51,10,32,114,97,107,101,100,32,53,32,55,10,115,111,108,100,10]⟩] w fun e w'=>∃ a c,e = .returned (.tuple #[.slice a 2 c, .int .i64 0, .int .i64 0, .int .i64 0])∧FSl (Rg w.heap.size w'.heap.size) w' (.slice a 2 c) (oneY 7)∧Below w.heap.size w w':=by
 have h:=Parse_any txt1 w (by decide)
 rw [val_prs1.1,val_prs1.2] at h
 exact h
theorem parse2 (w:World):Calls Tryz.prog 26 #[.string ⟨#[98,101,100,32,51,10,32,32,114,97,107,101,100,32,53,10]⟩] w fun e w'=>∃ a c,e = .returned (.tuple #[.slice a 0 c, .int .i64 1, .int .i64 1, .int .i64 11])∧Below w.heap.size w w':=by
 have h:=Parse_any txt2 w (by decide)
 rw [val_prs2.1,val_prs2.2] at h
 exact h.mono fun e w' ⟨a,c,h1,_,h3⟩=>⟨a,c,h1,h3⟩
theorem alike7 (a1 a2:Option Addr) (c1 c2:Nat) (S:Nat→Prop) (w:World) (h1:FSl S w (.slice a1 2 c1) (oneY 7)) (h2:FSl S w (.slice a2 2 c2) (oneY 7)) (hS:∀ b,S b→b < w.heap.size) :
 Calls Tryz.prog 25 #[.slice a1 2 c1, .slice a2 2 c2] w fun e w'=>e = .returned (.bool true)∧Below w.heap.size w w':=by
 have h:=(alike_any 4).2 (oneY 7) (oneY 7) a1 c1 a2 c2 S w (by decide) h1 h2 hS (by decide) (by decide) (one_facts 7).2.1 (one_facts 7).2.1
 rw [decide_eq_true rfl] at h
 exact h
theorem diff78 (a1 a2:Option Addr) (c1 c2:Nat) (S:Nat→Prop) (w:World) (h1:FSl S w (.slice a1 2 c1) (oneY 7)) (h2:FSl S w (.slice a2 1 c2) (oneB 8)) (hS:∀ b,S b→b < w.heap.size) (ht:Pow w) :
 Calls Tryz.prog 41 #[.slice a1 2 c1, .slice a2 1 c2] w fun e w'=>∃ a c,e = .returned (.tuple #[.slice a 2 c, .int .i64 0])∧ChSl (Rg w.heap.size w'.heap.size) w' (.slice a 2 c) difV∧Below w.heap.size w w':=by
 have h:=Diff_any (oneY 7) (oneB 8) a1 a2 c1 c2 S w h1 h2 hS (by decide) (by decide) (one_facts 7).2.1 (by simp [oneB,Fo.Sm,bedN,rakedN,Fo.len]) (by decide) (by decide) ht
 rw [val_dif.1,val_dif.2] at h
 exact h
theorem get7 (a1 a2:Option Addr) (c1 c2:Nat) (S T:Nat→Prop) (w:World) (h1:FSl S w (.slice a1 2 c1) (oneY 7)) (hS:∀ b,S b→b < w.heap.size) (h2:Pth T w (.slice a2 2 c2) [bed3,raked5]) (hT:∀ b,T b→b < w.heap.size) :
 Calls Tryz.prog 56 #[.slice a1 2 c1, .slice a2 2 c2] w fun e w'=>∃ an cn ab cb,e = .returned (.tuple #[.agg #[.string ⟨#[114,97,107,101,100]⟩, .slice an 2 cn, .slice ab 0 cb], .int .i64 0])∧Ints (Rg w.heap.size w'.heap.size) w' (.slice an 2 cn) [5,7]∧Below w.heap.size w w':=by
 have h:=Get_any (oneY 7) [bed3,raked5] a1 a2 c1 c2 S T w h1 hS h2 hT (by decide) (one_facts 7).2.1 (by decide) (by decide)
 refine h.mono ?_
 rintro e w' ⟨n,l,s,an,cn,ab,cb,hg,he,hi,hf,hb⟩
 rw [val_get.2] at hg
 obtain ⟨rfl,rfl,rfl⟩:rakedN = n∧[5,7] = l∧Fo.nil = s:=by simpa using hg
 rw [val_get.1] at he
 exact ⟨an,cn,ab,cb,he,hi,hb⟩
theorem put7 (a1 a2 an:Option Addr) (c1 c2 cn:Nat) (S T:Nat→Prop) (w:World) (h1:FSl S w (.slice a1 2 c1) (oneY 7)) (hS:∀ b,S b→b < w.heap.size) (h2:Pth T w (.slice a2 1 c2) [bed3]) (h3:Ints T w (.slice an 1 cn) [6]) (hT:∀ b,T b→b < w.heap.size) :
 Calls Tryz.prog 49 #[.slice a1 2 c1, .slice a2 1 c2, .agg #[.string ⟨#[114,97,107,101,100]⟩, .slice an 1 cn, .slice none 0 0]] w fun e w'=>∃ a c,e = .returned (.tuple #[.slice a 2 c, .int .i64 0])∧FSl (Rg w.heap.size w'.heap.size) w' (.slice a 2 c) oneM∧Below w.heap.size w w':=by
 have h:=Put_any (oneY 7) [bed3] rakedN [6] .nil a1 a2 an none c1 c2 cn 0 S T T w h1 hS h2 hT h3 ⟨[],⟨rfl,none,0,rfl,nl_ _,by simp [maxLen],fun _=>rfl, .inl rfl⟩,rfl⟩ hT (by decide) (one_facts 7).2.1 (by decide) (by decide) (by decide) (by decide) (by decide) trivial (by decide)
 refine h.mono ?_
 rintro e w' ⟨a,c,he,hf,hb⟩
 rw [val_put.1,val_put.2] at he
 rw [val_put.2] at hf
 exact ⟨a,c,he,hf.fsl,hb⟩
theorem join7 (a1 a2 a3:Option Addr) (c1 c2 c3:Nat) (S:Nat→Prop) (w:World) (h1:FSl S w (.slice a1 2 c1) (oneY 7)) (h2:FSl S w (.slice a2 1 c2) oneS) (h3:FSl S w (.slice a3 2 c3) oneM) (hS:∀ b,S b→b < w.heap.size) (ht:Pow w) :
 Calls Tryz.prog 33 #[.slice a1 2 c1, .slice a2 1 c2, .slice a3 2 c3] w fun e w'=>∃ a c a' c',e = .returned (.tuple #[.slice a 1 c, .slice a' 1 c', .int .i64 0])∧FSl (Rg w.heap.size w'.heap.size) w' (.slice a 1 c) oneS∧PaSl (Rg w.heap.size w'.heap.size) w' (.slice a' 1 c') [[bed3,raked6]]∧Below w.heap.size w w':=by
 have h:=Join_any (oneY 7) oneS oneM a1 a2 a3 c1 c2 c3 S w h1 h2 h3 hS ⟨by decide,(one_facts 7).2.1,by decide⟩ ⟨by decide,by simp [oneS,Fo.Sm,soldN,Fo.len],by decide⟩ ⟨by decide,by simp [oneM,Fo.Sm,bedN,rakedN,soldN,Fo.len],by decide⟩ ht
 refine h.mono ?_
 rintro e w' ⟨a,c,a',c',he,hf,hp,hb⟩
 rw [val_join.1,val_join.2.1,val_join.2.2] at he
 rw [val_join.2.1] at hf
 rw [val_join.2.2] at hp
 exact ⟨a,c,a',c',he,hf,hp,hb⟩
end Go.Proofs.LF
namespace Go.Proofs.LF
open Go.RowKit Go.Sort
set_option maxHeartbeats 4000000
set_option maxRecDepth 100000
attribute [local go_sem] bs_toList bs_size bs_get
theorem enters54:Enters 54:=by intro args W;simp [go_sem]
def wideK (k:Ky):Bool:=decide (20 < k.n.length)
theorem wide54 (k:Ky) (W:World):Calls Tryz.prog 54 #[.agg #[.string (bs k.n), .bool k.h, .int .i64 k.x]] W fun e w'=>e = .returned (.bool (wideK k))∧Below W.heap.size W w':=by
 have hA:=(Below.refl W.heap.size W).alloc (nl_ _) (.cells #[.string (bs k.n), .bool k.h, .int .i64 k.x] 71)
 have HA:=hid hA
 clear hA
 by_cases h:20 < k.n.length
 · have h':(20:Int) < (k.n.length:Int):=by omega
   go_enter Tryz.func54,Tryz.ntmps54
   go_wp2_with fail
   go_ret
   exact ⟨by simp [wideK,h],HA.out⟩
 · have h':¬ (20:Int) < (k.n.length:Int):=by omega
   go_enter Tryz.func54,Tryz.ntmps54
   go_wp2_with fail
   go_ret
   exact ⟨by simp [wideK,h],HA.out⟩
theorem wideP {g:Nat} (hE:Enters g) (hg:∀ (k:Ky) (W:World),Calls Tryz.prog g #[.agg #[.string (bs k.n), .bool k.h, .int .i64 k.x]] W fun e w'=>e = .returned (.bool (wideK k))∧Below W.heap.size W w')
 (p:List Ky) (a:Option Addr) (c:Nat) (S:Nat→Prop) (w:World) (hp:Pth S w (.slice a p.length c) p) (hS:∀ b,S b→b < w.heap.size) (hl:p.length ≤ 100000) :
 Calls Tryz.prog 53 #[.slice a p.length c, .func (.func g) #[] #[]] w fun e w'=>e = .returned (.bool (p.any wideK))∧Below w.heap.size w w':=by
 have h:=cont_key g hE (fun i=>wideK (p.getD i ⟨[],false,0⟩)) [] p.length a c _ S w hp hS hl (fun i hi W hW=>by
  rw [key_elemV hi]
  have hg':p.getD i ⟨[],false,0⟩ = p[i]:=by simp [List.getD_eq_getElem?_getD,hi]
  rw [hg']
  exact hg p[i] W)
 refine h.mono ?_
 rintro e w' ⟨rfl,hb⟩
 exact ⟨by rw [anyN_list wideK _ p (fun i hi=>by simp [List.getD_eq_getElem?_getD,hi])],hb⟩
end Go.Proofs.LF
namespace Go.Proofs.LF
open Go.RowKit Go.Sort
set_option maxHeartbeats 4000000
set_option maxRecDepth 100000
attribute [local go_sem] bs_toList bs_size bs_get
theorem dupK_c (l:List Ky) (an:Option Addr) (cn:Nat) (S:Nat→Prop) (w:World) (hl:Pth S w (.slice an l.length cn) l) (hS:∀ b,S b→b < w.heap.size) (hlen:l.length ≤ 1000) :
 Calls Tryz.prog 50 #[.slice an l.length cn] w fun e w'=>∃ a c,e = .returned (.slice a l.length c)∧Pth (Rg w.heap.size w'.heap.size) w' (.slice a l.length c) l∧Below w.heap.size w w':=
 (dupK_own l an cn S w hl hS hlen).mono fun _ _ ⟨a,c,he,h1,hb⟩=>⟨a,c,he,SlC.of_owns h1,hb⟩
end Go.Proofs.LF
