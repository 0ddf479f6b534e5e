/- Parts of the proof of a law of layer 11 (file): LfW48, LfMk, LfJp, LfW75, LfVal, LfAf, LfW94, LfW49, LfJo, LfGwA, LfW78. The conditions stand in each theorem. -/
import Derived.Test.YtadkpjgpefcphaaGreatDoorProg
import Derived.Test.YtadkpjgpefcphaaGreatDoorChab
import Derived.Test.YtadkpjgpefcphaaGreatDoorChac
import Derived.Test.YtadkpjgpefcphaaGreatDoorChad
import Derived.Test.YtadkpjgpefcphaaGreatDoorChaf
import Derived.Test.YtadkpjgpefcphaaGreatDoorCham
import Derived.Test.YtadkpjgpefcphaaGreatDoorChaq
import Derived.Test.YtadkpjgpefcphaaGreatDoorChat
import Derived.Test.YtadkpjgpefcphaaGreatDoorChau
import Derived.Test.YtadkpjgpefcphaaGreatDoorChay
import Derived.Test.YtadkpjgpefcphaaGreatDoorChaz
import Derived.Test.YtadkpjgpefcphaaGreatDoorChba
set_option linter.all false
set_option linter.unusedVariables false
set_option linter.unusedSimpArgs false
namespace Go.Proofs.LF
open Go.RowKit Go.Sort
set_option maxHeartbeats 4000000
set_option maxRecDepth 100000
attribute [local go_sem] bs_toList bs_size bs_get
def bedN:List UInt8:=[98,101,100]
def rakedN:List UInt8:=[114,97,107,101,100]
def soldN:List UInt8:=[115,111,108,100]
def oneY (n:Int):Fo := .cons bedN [3] (.cons rakedN [5,n] .nil .nil) (.cons soldN [] .nil .nil)
theorem FCs.alloc {S:Nat→Prop} {w:World} {y:Fo} {cs:List Value} (h:FCs S w y cs) (hS:∀ b,S b→b < w.heap.size) (o:Obj):FCs S (w.alloc o) y cs:=h.agree (fun b hb=>heap_alloc_old _ _ (hS b hb))
theorem slc_block {S:Nat→Prop} {w:World} {b k n:Nat} {vs:Array Value} {t:TypeId} {fr:Nat × Nat} (hb:w.heap[b]? = some (.cells vs t fr)) (hS:S b) (hl:vs.size = n * k) (hn:n ≤ maxLen):SlC S w k (.slice (some ⟨b,0,none⟩) n n) n vs.toList:=by
 refine ⟨by simpa using hl,_,n,rfl,nl_ _,hn,(fun h=>by cases h), .inr ⟨b,0,rfl,hS,fun j u hj=>?_⟩⟩
 simp only [World.cell?,hb,Nat.zero_add]
 simpa using hj
theorem One_any (n:Int) (w:World) :
 Calls Tryz.prog 80 #[.int .i64 n] w fun e w'=>∃ g,e = .returned (.slice (some ⟨g,0,none⟩) 2 2)∧FSl (Rg w.heap.size w'.heap.size) w' (.slice (some ⟨g,0,none⟩) 2 2) (oneY n)∧Below w.heap.size w w':=by
 go_enter Tryz.func80,Tryz.ntmps80
 go_wp2_with fail
 refine bodyPost_ret (v := .slice (some ⟨w.heap.size + 1 + 1 + 1,0,none⟩) 2 2) (by simp [results,Tryz.results80,go_sem]) rfl ?_
 refine ⟨w.heap.size + 1 + 1 + 1,rfl,?_,?_⟩
 · have key:∀ (N:Nat) (W:World) (A B C D:Obj),A = .cells #[.int .i64 3] 3→B = .cells #[.int .i64 5, .int .i64 n] 3→C = .cells #[.string ⟨#[114,97,107,101,100]⟩, .slice (some ⟨N + 1,0,none⟩) 2 2, .slice none 0 0] 85 →
    D = .cells #[.string ⟨#[98,101,100]⟩, .slice (some ⟨N,0,none⟩) 1 1, .slice (some ⟨N + 1 + 1,0,none⟩) 1 1, .string ⟨#[115,111,108,100]⟩, .slice none 0 0, .slice none 0 0] 85→N = w.heap.size→W = (((w.alloc A).alloc B).alloc C).alloc D→FSl (Rg w.heap.size W.heap.size) W (.slice (some ⟨N + 1 + 1 + 1,0,none⟩) 2 2) (oneY n):=by
    rintro N W A B C D hA hB hC hD hN hW
    have hz:W.heap.size = N + 4:=by rw [hW,hN];simp
    have a0:W.heap[N]? = some A:=by
     rw [hW,hN]
     exact (heap_alloc_old _ _ (by simp;omega)).trans ((heap_alloc_old _ _ (by simp;omega)).trans ((heap_alloc_old _ _ (by simp)).trans (heap_alloc_new w A)))
    have a1:W.heap[N + 1]? = some B:=by
     have h:=heap_alloc_new (w.alloc A) B
     simp only [World.size_alloc] at h
     rw [hW,hN]
     exact (heap_alloc_old _ _ (by simp)).trans ((heap_alloc_old _ _ (by simp)).trans h)
    have a2:W.heap[N + 1 + 1]? = some C:=by
     have h:=heap_alloc_new ((w.alloc A).alloc B) C
     simp only [World.size_alloc] at h
     rw [hW,hN]
     exact (heap_alloc_old _ _ (by simp)).trans h
    have a3:W.heap[N + 1 + 1 + 1]? = some D:=by
     have h:=heap_alloc_new (((w.alloc A).alloc B).alloc C) D
     simp only [World.size_alloc] at h
     rw [hW,hN]
     exact h
    have hS:∀ k,k < 4→Rg w.heap.size W.heap.size (N + k):=fun k hk=>⟨by omega,by omega⟩
    rw [hA] at a0
    rw [hB] at a1
    rw [hC] at a2
    rw [hD] at a3
    have i0:Ints (Rg w.heap.size W.heap.size) W (.slice (some ⟨N,0,none⟩) 1 1) [3]:=slc_block (vs:=#[.int .i64 3]) a0 (hS 0 (by omega)) rfl (by simp [maxLen])
    have i1:Ints (Rg w.heap.size W.heap.size) W (.slice (some ⟨N + 1,0,none⟩) 2 2) [5,n]:=slc_block (vs:=#[.int .i64 5, .int .i64 n]) a1 (hS 1 (by omega)) rfl (by simp [maxLen])
    have nilI:∀ S,Ints S W (.slice none 0 0) []:=fun S=>⟨rfl,none,0,rfl,nl_ _,by simp [maxLen],fun _=>rfl, .inl rfl⟩
    have nilF:∀ S,∃ ds,SlC S W 3 (.slice none 0 0) Fo.nil.len ds∧FCs S W .nil ds:=fun S=>⟨[],⟨rfl,none,0,rfl,nl_ _,by simp [maxLen],fun _=>rfl, .inl rfl⟩,rfl⟩
    have s2:=slc_block (k:=3) (n:=1) (S:=Rg w.heap.size W.heap.size) a2 (hS 2 (by omega)) rfl (by simp [maxLen])
    have s3:=slc_block (k:=3) (n:=2) (S:=Rg w.heap.size W.heap.size) a3 (hS 3 (by omega)) rfl (by simp [maxLen])
    exact ⟨_,s3,_,_,_,rfl,i0,⟨_,s2,_,_,_,rfl,i1,nilF _,rfl⟩,_,_,_,rfl,nilI _,nilF _,rfl⟩
   exact key w.heap.size _ _ _ _ _ rfl rfl rfl rfl rfl rfl
 · exact ((((Below.refl _ _).alloc (nl_ _) _).alloc (by simp) _).alloc (by simp;omega) _).alloc (by simp;omega) _
theorem K_any (s:ByteArray) (x:Int) (g c:Nat) (w:World) (hx:w.cell? ⟨g,0,none⟩ = some (.int .i64 x)) (hg:g < w.heap.size) (hc:1 ≤ c) :
 Calls Tryz.prog 51 #[.string s, .slice (some ⟨g,0,none⟩) 1 c] w fun e w'=>e = .returned (.agg #[.string s, .bool true, .int .i64 x])∧Below w.heap.size w w':=by
 have hx':(w.alloc (.cells #[.string ByteArray.empty, .bool false, .int .i64 0] 71)).cell? ⟨g,0,none⟩ = some (.int .i64 x):=bc_ ((Below.refl w.heap.size _).alloc (nl_ _) _) hg hx
 go_enter Tryz.func51,Tryz.ntmps51
 go_wp2_with fail
 exact bodyPost_ret (v := .agg #[.string s, .bool true, .int .i64 x]) (by simp [results,Tryz.results51,go_sem]) rfl ⟨rfl,((Below.refl _ _).alloc (nl_ _) _)⟩
theorem ky_beq (a b:Ky):decide (a = b) = (a.n == b.n && (a.h == b.h && a.x == b.x)):=by
 obtain ⟨an,ah,ax⟩:=a
 obtain ⟨bn,bh,bx⟩:=b
 by_cases h1:an = bn <;> by_cases h2:ah = bh <;> by_cases h3:ax = bx <;> simp [h1,h2,h3]
theorem eqKeys_any (p q:List Ky) (ap aq:Option Addr) (cp cq:Nat) (S:Nat→Prop) (w:World) (hp:Pth S w (.slice ap p.length cp) p) (hq:Pth S w (.slice aq q.length cq) q) (lp:p.length ≤ 100000) (lq:q.length ≤ 100000) :
 Calls Tryz.prog 42 #[.slice ap p.length cp, .slice aq q.length cq] w fun e w'=>e = .returned (.bool (decide (p = q)))∧Below w.heap.size w w':=by
 by_cases hne:p.length = q.length
 · have hne':((p.length:Int) != (q.length:Int)) = false:=by simp;omega
   have HN:=hid hne
   clear hne
   go_enter Tryz.func42,Tryz.ntmps42
   go_wp2_with fail
   go_loopw [13] (fun i wr=>∃ (k d:Nat),k ≤ p.length∧i = .int .i64 k∧wr = w.drewN d∧Hid (p.take k = q.take k)) (fun i _=>p.length - (intOf i).toNat)
   case atStart=>exact ⟨0,0,by omega,rfl,rfl,by simp [Hid]⟩
   case round=>
    obtain ⟨k,d,hk,rfl,rfl,H2⟩:=hrel
    by_cases hlt:k < p.length
    · obtain ⟨g,o,rfl,_,_,_,hcell⟩:=SlC.cells hp (by omega)
      obtain ⟨g',o',rfl,_,_,_,hcell'⟩:=SlC.cells hq (by have:=HN.out;omega)
      have hlt':k < q.length:=by have:=HN.out;omega
      obtain ⟨k0,k1,k2⟩:=key_cells hlt
      obtain ⟨k0',k1',k2'⟩:=key_cells hlt'
      have c0:=hcell _ _ k0
      have c1:=hcell _ _ k1
      have c2:=hcell _ _ k2
      have d0:=hcell' _ _ k0'
      have d1:=hcell' _ _ k1'
      have d2:=hcell' _ _ k2'
      rw [← Nat.add_assoc] at c1 c2 d1 d2
      have htp:p.take (k + 1) = p.take k ++ [p[k]]:=List.take_succ_eq_append_getElem hlt
      have htq:q.take (k + 1) = q.take k ++ [q[k]]:=List.take_succ_eq_append_getElem hlt'
      obtain ⟨a,ha⟩:∃ a,p[k] = a:=⟨_,rfl⟩
      obtain ⟨b,hb⟩:∃ b,q[k] = b:=⟨_,rfl⟩
      have HA:=hid ha
      have HB:=hid hb
      rw [ha] at c0 c1 c2 htp
      rw [hb] at d0 d1 d2 htq
      have HTP:=hid htp
      have HTQ:=hid htq
      clear hcell hcell' k0 k1 k2 k0' k1' k2' htp htq ha hb
      have i1:(0:Int) ≤ (k:Int):=by omega
      have i2:(k:Int) < (p.length:Int):=by omega
      have i3:(k:Int) < (q.length:Int):=by omega
      by_cases he:a = b
      · subst he
        go_wp2_with fail
        go_quiet (fail)
        go_wp2_with fail
        go_roundw
        case rel=>exact ⟨k + 1,_,by omega,by go_num,rfl,by rw [Hid,HTP.out,HTQ.out,H2.out]⟩
        case measure=>simp [intOf];omega
      · have hdec:(a.n == b.n && (a.h == b.h && a.x == b.x)) = false:=by rw [← ky_beq];simp [he]
        have HE:=hid he
        have HDEC:=hid hdec
        clear he hdec
        cases hn:(a.n == b.n) <;> cases hh:(a.h == b.h) <;> cases hx:(a.x == b.x)
        all_goals first
         | (exfalso;have:=HDEC.out;rw [hn,hh,hx] at this;cases this;done)
         | (go_wp2_with fail
            go_quiet (fail)
            go_wp2_with fail
            go_ret
            refine ⟨ret_bool ?_,below_drewN (below_drewN (Below.refl _ _) _) _⟩
            symm
            rw [decide_eq_false_iff_not]
            rintro rfl
            exact HE.out (HA.out.symm.trans HB.out))
    · go_wp2_with fail
      go_ret
      obtain rfl:k = p.length:=by omega
      refine ⟨ret_bool ?_,below_drewN (Below.refl _ _) _⟩
      symm
      have:=H2.out
      rw [List.take_length,HN.out,List.take_length] at this
      exact decide_eq_true this
 · have hne':((p.length:Int) != (q.length:Int)) = true:=by simp;omega
   have HN:=hid hne
   clear hne
   go_enter Tryz.func42,Tryz.ntmps42
   go_wp2_with fail
   go_ret
   refine ⟨ret_bool ?_,Below.refl _ _⟩
   symm
   rw [decide_eq_false_iff_not]
   rintro rfl
   exact HN.out rfl
end Go.Proofs.LF
namespace Go.Proofs.LF
def fitC (now:List Fl) (c:Ch):Bool:=((fnd now c.p).isSome == c.had) && decide (((fnd now c.p).getD fl0).l = c.old)
def keptF (now:List Fl) (l:List Ch):List Fl:=now.filter fun f=>!(l.any fun c=>decide (cmpP c.p f.p = 0))
def newC (c:Ch):Option Fl:=if c.has then some ⟨c.p,c.new⟩ else none
def newsF (l:List Ch):List Fl:=l.filterMap newC
def srtFl:List Fl→List Fl
 | []=>[]
 | x :: r=>putR x (srtFl r)
def mkO (y:Fo) (l:List Ch):List Fl:=srtFl (keptF (flsL [] y) l ++ newsF l)
def mkE (y:Fo) (l:List Ch):Int:=
 if chkY y ≠ 0 then chkY y else if ckC l ≠ 0 then ckC l else if (l.all (fitC (flsL [] y))) = false then 7
 else if 0 < (lsF [] [] (mkO y l)).2.length then 1 else if 60 < (mkO y l).length then 2 else 0
def mkY (y:Fo) (l:List Ch):Fo:=if mkE y l = 0 then (treF 0 (mkO y l)).1 else .nil
theorem ckOne_zero {q:Option (List Ky)} {c:Ch} (h:ckOne q c = 0):(1 ≤ c.p.length∧c.p.length ≤ 4)∧okNm c.p = true∧(c.old.length ≤ 4∧c.new.length ≤ 4)∧okNu c.p = true∧badNs c.old = false∧badNs c.new = false∧rtC c (lstK c.p) = true∧behB q c.p = false:=by
 unfold ckOne at h
 split at h
 · cases h
 rename_i h1
 split at h
 · cases h
 rename_i h2
 split at h
 · cases h
 rename_i h3
 split at h
 · cases h
 rename_i h4
 split at h
 · cases h
 rename_i h5
 split at h
 · cases h
 rename_i h6
 simp [inB] at h1
 simp at h3 h4
 exact ⟨by omega,by simpa using h2,by omega,h4.1.1,by simpa using h4.1.2,by simpa using h4.2,by simpa using h5,by simpa using h6⟩
theorem ckL_zero:∀ (l:List Ch) (q:Option (List Ky)),ckL q l = 0→(∀ c ∈ l,ckOne none c = 0)∧l.Pairwise (fun a b=>cmpP a.p b.p < 0)∧∀ r,q = some r→∀ c ∈ l,cmpP r c.p < 0
 | [],_,_=>⟨by simp,List.Pairwise.nil,by simp⟩
 | c :: l,q,h=>by
   simp only [ckL] at h
   split at h
   · rename_i h1
     obtain ⟨e1,e2,e3⟩:=ckL_zero l (some c.p) h
     have h2:=ckOne_zero h1
     have hr:∀ r,q = some r→cmpP r c.p < 0:=by
      rintro r rfl
      have:=h2.2.2.2.2.2.2.2
      simp [behB] at this
      omega
     have h0:ckOne none c = 0:=by
      unfold ckOne at h1 ⊢
      rw [show behB none c.p = false from rfl]
      have h9:=h2.2.2.2.2.2.2.2
      rw [h9] at h1
      simpa using h1
     refine ⟨fun x hx=>?_,List.pairwise_cons.2 ⟨fun x hx=>e3 _ rfl x hx,e2⟩,fun r hq x hx=>?_⟩
     · rcases List.mem_cons.1 hx with rfl | hx
       · exact h0
       · exact e1 x hx
     · rcases List.mem_cons.1 hx with rfl | hx
       · exact hr r hq
       · exact cmpP_ord.trans (hr r hq) (e3 _ rfl x hx)
   · rename_i h1;exact absurd h h1
theorem ckC_zero {l:List Ch} (h:ckC l = 0):l.length ≤ 120∧(∀ c ∈ l,ckOne none c = 0)∧l.Pairwise (fun a b=>cmpP a.p b.p < 0):=by
 unfold ckC at h
 split at h
 · cases h
 · have:=ckL_zero l none h
   exact ⟨by omega,this.1,this.2.1⟩
theorem srtFl_mem {x:Fl}:∀ {l:List Fl},x ∈ srtFl l ↔ x ∈ l
 | []=>by simp [srtFl]
 | y :: r=>by simp [srtFl,putR_mem,srtFl_mem (l:=r)]
theorem srtFl_srt:∀ {l:List Fl},(l.map Fl.p).Nodup→Srt (srtFl l)
 | [],_=>List.Pairwise.nil
 | x :: r,h=>by
   rw [List.map_cons,List.nodup_cons] at h
   refine putR_srt (srtFl_srt h.2) fun hm=>h.1 ?_
   obtain ⟨z,hz,e⟩:=List.mem_map.1 hm
   exact List.mem_map.2 ⟨z,srtFl_mem.1 hz,e⟩
theorem srt_of_perm {ls ls':List Fl} (hn:(ls.map Fl.p).Nodup) (hp:ls'.Perm ls) (hs:ls'.Pairwise (fun a b=>cmpP a.p b.p ≤ 0)):ls' = srtFl ls:=by
 have hn':(ls'.map Fl.p).Nodup:=(hp.map Fl.p).nodup_iff.2 hn
 have h1:Srt ls':=by
  have h2:ls'.Pairwise (fun a b=>a.p ≠ b.p):=List.pairwise_map.1 hn'
  refine (hs.and h2).imp ?_
  rintro a b ⟨h3,h4⟩
  rcases Int.lt_or_eq_of_le h3 with h | h
  · exact h
  · exact absurd (cmpP_ord.eq h) h4
 exact srt_ext h1 (srtFl_srt hn) fun x=>by rw [srtFl_mem];exact hp.mem_iff
theorem newsF_mem {l:List Ch} {x:Fl}:x ∈ newsF l ↔ ∃ c ∈ l,c.has = true∧x = ⟨c.p,c.new⟩:=by
 simp only [newsF,List.mem_filterMap,newC]
 constructor
 · rintro ⟨c,hc,h⟩
   split at h
   · rename_i hh;cases h;exact ⟨c,hc,hh,rfl⟩
   · cases h
 · rintro ⟨c,hc,hh,rfl⟩;exact ⟨c,hc,by rw [if_pos hh]⟩
theorem keptF_mem {now:List Fl} {l:List Ch} {x:Fl}:x ∈ keptF now l ↔ x ∈ now∧∀ c ∈ l,c.p ≠ x.p:=by
 simp only [keptF,List.mem_filter,Bool.not_eq_true',List.any_eq_false,decide_eq_true_eq]
 constructor
 · rintro ⟨h1,h2⟩;exact ⟨h1,fun c hc e=>h2 c hc (by rw [e,cmpP_ord.refl])⟩
 · rintro ⟨h1,h2⟩;exact ⟨h1,fun c hc e=>h2 c hc (cmpP_ord.eq e)⟩
theorem newsF_srt {l:List Ch} (h:l.Pairwise (fun a b=>cmpP a.p b.p < 0)):Srt (newsF l):=by
 induction l with
 | nil=>exact List.Pairwise.nil
 | cons c l ih=>
   obtain ⟨h1,h2⟩:=List.pairwise_cons.1 h
   have h3:=ih h2
   have hm:∀ x ∈ newsF l,cmpP c.p x.p < 0:=fun x hx=>by
    obtain ⟨d,hd,_,rfl⟩:=newsF_mem.1 hx
    exact h1 d hd
   by_cases hc:c.has = true
   · have:newsF (c :: l) = ⟨c.p,c.new⟩ :: newsF l:=by simp [newsF,newC,hc]
     rw [this]
     exact List.pairwise_cons.2 ⟨hm,h3⟩
   · have:newsF (c :: l) = newsF l:=by simp [newsF,newC,hc]
     rw [this];exact h3
theorem mk_nodup {now:List Fl} {l:List Ch} (hy:Srt now) (hl:l.Pairwise (fun a b=>cmpP a.p b.p < 0)):((keptF now l ++ newsF l).map Fl.p).Nodup:=by
 have h1:Srt (keptF now l):=List.Pairwise.sublist List.filter_sublist hy
 rw [List.map_append,List.nodup_append]
 refine ⟨h1.nodup,(newsF_srt hl).nodup,?_⟩
 intro p hp q hq e
 subst e
 obtain ⟨x,hx,rfl⟩:=List.mem_map.1 hp
 obtain ⟨z,hz,e⟩:=List.mem_map.1 hq
 obtain ⟨c,hc,_,rfl⟩:=newsF_mem.1 hz
 exact (keptF_mem.1 hx).2 c hc e
theorem mkO_srt {now:List Fl} {l:List Ch} (hy:Srt now) (hl:l.Pairwise (fun a b=>cmpP a.p b.p < 0)):Srt (srtFl (keptF now l ++ newsF l)):=srtFl_srt (mk_nodup hy hl)
theorem mk_perm {y:Fo} {l:List Ch} {ls':List Fl} (hy:chkY y = 0) (hl:ckC l = 0) (hp:ls'.Perm (keptF (flsL [] y) l ++ newsF l)) (hs:ls'.Pairwise (fun a b=>cmpP a.p b.p ≤ 0)):ls' = mkO y l:=
 srt_of_perm (mk_nodup (fls_srt hy) (ckC_zero hl).2.2) hp hs
theorem mk_bd {y:Fo} {l:List Ch} (hy:chkY y = 0) (hl:ckC l = 0) (hsm:SmCh l):(keptF (flsL [] y) l).length ≤ 60∧(newsF l).length ≤ 120∧SmF (keptF (flsL [] y) l ++ newsF l)∧∀ x ∈ keptF (flsL [] y) l ++ newsF l,x.p ≠ []:=by
 have f:=fls_ok hy
 have c:=ckC_zero hl
 refine ⟨Nat.le_trans (List.length_filter_le _ _) f.2.2,Nat.le_trans (List.length_filterMap_le _ _) c.1,fun x hx=>?_,fun x hx=>?_⟩
 · rcases List.mem_append.1 hx with h | h
   · exact f.1 x (keptF_mem.1 h).1
   · obtain ⟨d,hd,_,rfl⟩:=newsF_mem.1 h
     have:=hsm d hd
     exact ⟨this.1,this.2.2.2,this.2.1⟩
 · rcases List.mem_append.1 hx with h | h
   · have:=(keptF_mem.1 h).1
     obtain ⟨k,t,e⟩:=flsL_pre y [] x this
     rw [e];simp
   · obtain ⟨d,hd,_,rfl⟩:=newsF_mem.1 h
     have:=(ckOne_zero (c.2.1 d hd)).1
     intro e
     simp only at e
     rw [e] at this
     simp at this
end Go.Proofs.LF
namespace Go.Proofs.LF
theorem treF_smc:∀ (m d:Nat) (l:List Fl),l.length ≤ m→l.length ≤ 1000→(∀ x ∈ l,(∀ k ∈ x.p,k.n.length ≤ 1000)∧x.l.length ≤ 1000)→(treF d l).1.Sm∧(treF d l).1.len ≤ l.length
 | _,d,[],_,_,_=>by rw [treF_nil];exact ⟨trivial,Nat.zero_le _⟩
 | 0,_,_ :: _,h,_,_=>by simp at h
 | m + 1,d,x :: l,h,h2,h3=>by
   by_cases hx:x.p.length = d + 1
   · rw [treF_yes hx]
     simp only [List.length_cons] at h h2
     obtain ⟨a1,a2⟩:=treF_smc m (d + 1) l (by omega) (by omega) fun y hy=>h3 y (by simp [hy])
     obtain ⟨b1,b2⟩:=treF_smc m d (l.drop (treF (d + 1) l).2) (by rw [List.length_drop];omega) (by rw [List.length_drop];omega) fun y hy=>h3 y (by simp [List.mem_of_mem_drop hy])
     have h4:=h3 x (by simp)
     rw [List.length_drop] at b2
     refine ⟨⟨h4.1 _ (List.getElem_mem _),h4.2,by omega,a1,b1⟩,?_⟩
     simp only [Fo.len,List.length_cons]
     omega
   · rw [treF_no hx];exact ⟨trivial,Nat.zero_le _⟩
end Go.Proofs.LF
namespace Go.Proofs.LF
open Go.RowKit Go.Sort
set_option maxHeartbeats 4000000
set_option maxRecDepth 100000
attribute [local go_sem] bs_toList bs_size bs_get
theorem dupK_own (l:List Ky) (an:Option Addr) (cn:Nat) (S:Nat→Prop) (w:World) (hl:Pth S w (.slice an l.length cn) l) (hS:∀ b,S b→b < w.heap.size) (hlen:l.length ≤ 1000) :
 Calls Tryz.prog 50 #[.slice an l.length cn] w fun e w'=>∃ a c,e = .returned (.slice a l.length c)∧w'.ownsRow w.heap.size 71 3 (.slice a l.length c) l.length (l.flatMap Ky.cells)∧Below w.heap.size w w':=by
 obtain ⟨i0,hi0,hz0,hz1,hz2⟩:=info_parts Tryz.info71'
 have hcap:=SlC.caps hl
 have hl0:=len_keys l
 go_enter Tryz.func50,Tryz.ntmps50
 go_wp2_with (first | (at_make;refine wpList_make_own _ rfl _ _ 65 rfl w.heap.size 71 i0 _ 3 Tryz.underlying65 hi0 hz0 hz1 .i64 .i64 l.length l.length rfl rfl rfl (by rw [hz2];omega) (by unfold maxLen;omega) (nl_ _) ?_;intro w1 hown1 hgrow1) | (at_builtin;refine wpList_append_fits_any _ rfl _ _ 65 rfl w.heap.size 71 i0 3 Tryz.underlying65 hi0 hz1 w.heap.size 0 l.length [] rfl hown1 an l.length cn (l.flatMap Ky.cells) rfl hl0 hcap.2.2 (SlC.news hl (Agree.grown hgrow1 fun b hb=>⟨hS b hb,by simp⟩)) (one_keys l) (by omega) ?_;intro w2 hown2 hgrow2))
 go_ret
 have h2:=hown2
 simp only [Nat.zero_add,List.nil_append] at h2
 exact ⟨_,_,rfl,h2,((Below.refl _ _).grown hgrow1 (nl_ _) (by simp)).grown hgrow2 hgrow1.size (fun k hk=>by cases hk;exact nl_ _)⟩
end Go.Proofs.LF
namespace Go.Proofs.LF
def txt1:List UInt8:=[98,101,100,32,51,10,32,114,97,107,101,100,32,53,32,55,10,115,111,108,100,10]
def txt2:List UInt8:=[98,101,100,32,51,10,32,32,114,97,107,101,100,32,53,10]
def bed3:Ky:=⟨bedN,true,3⟩
def raked5:Ky:=⟨rakedN,true,5⟩
def raked6:Ky:=⟨rakedN,true,6⟩
def oneB (n:Int):Fo := .cons bedN [3] (.cons rakedN [5,n] .nil .nil) .nil
def oneS:Fo := .cons soldN [] .nil .nil
def oneM:Fo := .cons bedN [3] (.cons rakedN [5,7] .nil (.cons rakedN [6] .nil .nil)) (.cons soldN [] .nil .nil)
def difV:List Ch:=[⟨[bed3,raked5],true,true,[5,7],[5,8]⟩,⟨[⟨soldN,false,0⟩],true,false,[],[]⟩]
theorem val_chk:chkY (oneY 7) = 0:=by decide +kernel
theorem val_txt:txtL (nodesL [] (oneY 7)) = txt1:=by decide +kernel
theorem val_prs1:(prs txt1).2 = (0,0,0)∧prsY txt1 = oneY 7:=by decide +kernel
theorem val_prs2:(prs txt2).2 = (1,1,11)∧prsY txt2 = .nil:=by decide +kernel
theorem val_dif:difE (oneY 7) (oneB 8) = 0∧difL (oneY 7) (oneB 8) = difV:=by decide +kernel
theorem val_get:getE (oneY 7) [bed3,raked5] = 0∧getN (oneY 7) [bed3,raked5] = (rakedN,[5,7], .nil):=by decide +kernel
theorem val_put:putE (oneY 7) [bed3] rakedN [6] .nil = 0∧putY (oneY 7) [bed3] rakedN [6] .nil = oneM:=by decide +kernel
theorem val_join:joE (oneY 7) oneS oneM = 0∧joY (oneY 7) oneS oneM = oneS∧joP (oneY 7) oneS oneM = [[bed3,raked6]]:=by decide +kernel
end Go.Proofs.LF
namespace Go.Proofs.LF
def fdC (l:List Ch) (p:List Ky):Option Ch:=l.find? fun c=>decide (c.p = p)
def mrgC (m:List Ch) (a:Ch):Ch:=match fdC m a.p with | none=>a | some b=>⟨a.p,a.had,b.has,a.old,b.new⟩
def claC (m:List Ch) (a:Ch):Bool:=match fdC m a.p with | none=>false | some b=>!((a.has == b.had) && decide (a.new = b.old))
def remC (l m:List Ch):List Ch:=m.filter fun c=>!(l.any fun a=>decide (a.p = c.p))
def nopC (c:Ch):Bool:=(c.had == c.has) && decide (c.old = c.new)
def aftO (l m:List Ch):List Ch:=(l.map (mrgC m) ++ remC l m).filter fun c=>!nopC c
def insCh (c:Ch):List Ch→List Ch
 | []=>[c]
 | d :: r=>if cmpP c.p d.p < 0 then c :: d :: r else d :: insCh c r
def srtCh:List Ch→List Ch
 | []=>[]
 | c :: r=>insCh c (srtCh r)
def aftE (l m:List Ch):Int:=if ckC l ≠ 0 then ckC l else if ckC m ≠ 0 then ckC m else if l.any (claC m) then 7 else if 120 < (aftO l m).length then 2 else 0
def aftL (l m:List Ch):List Ch:=if aftE l m = 0 then srtCh (aftO l m) else []
abbrev SrtC (l:List Ch):Prop:=l.Pairwise (fun a b=>cmpP a.p b.p < 0)
theorem SrtC.inj {l:List Ch} (h:SrtC l) {a b:Ch} (ha:a ∈ l) (hb:b ∈ l) (e:a.p = b.p):a = b:=by
 induction l with
 | nil=>cases ha
 | cons x l ih=>
   obtain ⟨h1,h2⟩:=List.pairwise_cons.1 h
   rcases List.mem_cons.1 ha with rfl | ha' <;> rcases List.mem_cons.1 hb with rfl | hb'
   · rfl
   · have:=h1 b hb';rw [e,cmpP_ord.refl] at this;omega
   · have:=h1 a ha';rw [e,cmpP_ord.refl] at this;omega
   · exact ih h2 ha' hb'
theorem SrtC.nodup {l:List Ch} (h:SrtC l):(l.map Ch.p).Nodup:=by
 unfold List.Nodup
 rw [List.pairwise_map]
 exact h.imp fun {a b} hab e=>by rw [e,cmpP_ord.refl] at hab;omega
end Go.Proofs.LF
namespace Go.Proofs.LF
open Go.RowKit Go.Sort
set_option maxHeartbeats 4000000
set_option maxRecDepth 100000
attribute [local go_sem] bs_toList bs_size bs_get
theorem chg_elem {S:Nat→Prop} {w:World} {ls:List Ch} {ds:List Value} (h:LCs rdCh S w ls ds) {i:Nat} (hi:i < ls.length):∃ ap cp ao co an cn,elemV 5 ds i = .agg #[.slice ap ls[i].p.length cp, .bool ls[i].had, .bool ls[i].has, .slice ao ls[i].old.length co, .slice an ls[i].new.length cn]∧Pth S w (.slice ap ls[i].p.length cp) ls[i].p∧Ints S w (.slice ao ls[i].old.length co) ls[i].old∧Ints S w (.slice an ls[i].new.length cn) ls[i].new:=by
 have h':=h.drop (i:=i)
 rw [List.drop_eq_getElem_cons hi] at h'
 obtain ⟨cs,es,he,⟨ap,cp,ao,co,an,cn,rfl,hp,ho,hn⟩,_⟩:=h'
 refine ⟨ap,cp,ao,co,an,cn,?_,hp,ho,hn⟩
 have e0:=congrArg (fun l=>l[0]?) he
 have e1:=congrArg (fun l=>l[1]?) he
 have e2:=congrArg (fun l=>l[2]?) he
 have e3:=congrArg (fun l=>l[3]?) he
 have e4:=congrArg (fun l=>l[4]?) he
 simp only [List.getElem?_drop] at e0 e1 e2 e3 e4
 simp [elemV,List.getD_eq_getElem?_getD,List.range,List.range.loop] at e0 e1 e2 e3 e4 ⊢
 simp [e0,e1,e2,e3,e4]
theorem enters163:Enters 163:=by intro args W;simp [go_sem]
theorem eq163 (x:Ch) (q:List Ky) (ap ao an aq:Option Addr) (cp co cn cq F:Nat) (S:Nat→Prop) (w:World) (hp:Pth S w (.slice ap x.p.length cp) x.p) (hq:Pth S w (.slice aq q.length cq) q) (hS:∀ b,S b→b < w.heap.size) (lp:x.p.length ≤ 1000) (lq:q.length ≤ 1000) (hF:F < w.heap.size) (hc:w.cell? ⟨F,0,none⟩ = some (.slice aq q.length cq)) :
 Calls Tryz.prog 163 #[.agg #[.slice ap x.p.length cp, .bool x.had, .bool x.has, .slice ao x.old.length co, .slice an x.new.length cn], .pointer (some ⟨F,0,none⟩)] w fun e w'=>e = .returned (.bool (decide (cmpP x.p q = 0)))∧Below w.heap.size w w':=by
 obtain ⟨W,hW⟩:∃ W,w.alloc (.cells #[.slice ap x.p.length cp, .bool x.had, .bool x.has, .slice ao x.old.length co, .slice an x.new.length cn] 68) = W:=⟨_,rfl⟩
 have hb:Below w.heap.size w W:=by rw [← hW];exact (Below.refl _ _).alloc (nl_ _) _
 have hnew:W.heap[w.heap.size]? = some (.cells #[.slice ap x.p.length cp, .bool x.had, .bool x.has, .slice ao x.old.length co, .slice an x.new.length cn] 68 (0,0)):=by rw [← hW];exact heap_alloc_new _ _
 have c0:W.cell? ⟨w.heap.size,0,none⟩ = some (.slice ap x.p.length cp):=cg_ hnew (k:=0) rfl
 have d0:W.cell? ⟨F,0,none⟩ = some (.slice aq q.length cq):=bc_ hb hF hc
 have HB:=hid hb
 have HC:=hid (byPath_any x.p q ap aq cp cq S W (hp.agree (Ag_b hb hS)) (hq.agree (Ag_b hb hS)) (fun b hb'=>Nat.lt_of_lt_of_le (hS b hb') hb.size) lp lq)
 have HW:=hid hW
 clear hp hq hc hb hnew hW
 go_enter Tryz.func163,Tryz.ntmps163
 go_wp2_with (rw [HW.out])
 refine HC.out.mono ?_
 rintro e w1 ⟨rfl,hb1⟩
 go_wp2_with fail
 go_ret
 exact ⟨rfl,HB.out.trans (hb1.mono HB.out.size)⟩
theorem contC_any (ls:List Ch) (q:List Ky) (al aq:Option Addr) (cl cq F:Nat) (S T:Nat→Prop) (w:World) (hv:ChSl S w (.slice al ls.length cl) ls) (hS:∀ b,S b→b < w.heap.size) (hq:Pth T w (.slice aq q.length cq) q) (hT:∀ b,T b→b < w.heap.size)
 (hF:F < w.heap.size) (hc:w.cell? ⟨F,0,none⟩ = some (.slice aq q.length cq)) (hl:ls.length ≤ 1000) (hps:∀ x ∈ ls,x.p.length ≤ 1000) (lq:q.length ≤ 1000) :
 Calls Tryz.prog 142 #[.slice al ls.length cl, .func (.func 163) #[] #[.pointer (some ⟨F,0,none⟩)]] w fun e w'=>e = .returned (.bool (ls.any fun x=>decide (cmpP x.p q = 0)))∧Below w.heap.size w w':=by
 obtain ⟨ds,h1,h2⟩:=hv
 have key:=cont_chg 163 enters163 (fun i=>decide (cmpP ((ls.map (·.p)).getD i []) q = 0)) [.pointer (some ⟨F,0,none⟩)] ls.length al cl ds S w h1 hS (by omega) (fun i hi W hW=>by
  obtain ⟨ap,cp,ao,co,an,cn,he,hp,_,_⟩:=chg_elem h2 hi
  have hg:(ls.map (·.p)).getD i [] = ls[i].p:=by simp [List.getD_eq_getElem?_getD,hi]
  rw [he,hg]
  exact eq163 ls[i] q ap ao an aq cp co cn cq F (fun b=>S b ∨ T b) W ((hp.agree (Ag_b hW hS)).wide fun b hb => .inl hb) ((hq.agree (Ag_b hW hT)).wide fun b hb => .inr hb) (fun b hb=>by have:=hW.size;rcases hb with h | h;exact Nat.lt_of_lt_of_le (hS b h) this;exact Nat.lt_of_lt_of_le (hT b h) this) (hps _ (List.getElem_mem hi)) lq (Nat.lt_of_lt_of_le hF hW.size) (bc_ hW hF hc))
 rw [anyN_list (fun x:Ch=>decide (cmpP x.p q = 0)) _ ls (fun i hi=>by simp [List.getD_eq_getElem?_getD,hi])] at key
 exact key
end Go.Proofs.LF
namespace Go.Proofs.LF
open Go.RowKit Go.Sort
set_option maxHeartbeats 4000000
set_option maxRecDepth 100000
attribute [local go_sem] bs_toList bs_size bs_get
theorem FCs.take {S:Nat→Prop} {w:World}:∀ {i:Nat} {y:Fo} {cs:List Value},FCs S w y cs→FCs S w (y.take i) (cs.take (i * 3))
 | 0,_,_,_=>by simp [Fo.take,FCs]
 | i + 1, .nil,_,h=>by rw [show _ = [] from h];simp [Fo.take,FCs]
 | i + 1, .cons _ _ _ _,_,⟨vn,vs,cs',h,h2,h3,h5⟩=>by
   rw [h,show (i + 1) * 3 = i * 3 + 1 + 1 + 1 from by omega]
   exact ⟨vn,vs,cs'.take (i * 3),rfl,h2,h3,h5.take⟩
theorem SlC.pre {S:Nat→Prop} {w:World} {k n m c:Nat} {a:Option Addr} {cs:List Value} (h:SlC S w k (.slice a n c) n cs) (hm:m ≤ n):SlC S w k (.slice a m c) m (cs.take (m * k)):=by
 obtain ⟨h1,a',c',he,h2,h3,h4,h5⟩:=h
 cases he
 refine ⟨by rw [List.length_take,h1];exact Nat.min_eq_left (Nat.mul_le_mul_right k hm),a,c,rfl,by omega,h3,h4,?_⟩
 rcases h5 with h5 | ⟨g,o,h6,h7,h8⟩
 · exact .inl (by omega)
 · refine .inr ⟨g,o,h6,h7,fun j u hj=>h8 j u ?_⟩
   rw [List.getElem?_take] at hj
   split at hj
   · exact hj
   · cases hj
theorem SlC.suf {S:Nat→Prop} {w:World} {k n m c g o:Nat} {cs:List Value} (h:SlC S w k (.slice (some ⟨g,o,none⟩) n c) n cs) (hm:m < n):SlC S w k (.slice (some ⟨g,o + m * k,none⟩) (n - m) (c - m)) (n - m) (cs.drop (m * k)):=by
 obtain ⟨h1,a',c',he,h2,h3,h4,h5⟩:=h
 cases he
 refine ⟨by rw [List.length_drop,h1,Nat.sub_mul],_,_,rfl,by omega,by omega,(fun h=>by cases h),?_⟩
 rcases h5 with h5 | ⟨g',o',h6,h7,h8⟩
 · omega
 · cases h6
   refine .inr ⟨g,o + m * k,rfl,h7,fun j u hj=>?_⟩
   rw [List.getElem?_drop] at hj
   rw [Nat.add_assoc]
   exact h8 _ u hj
theorem FSl.pre {S:Nat→Prop} {w:World} {a:Option Addr} {m c:Nat} {y:Fo} (h:FSl S w (.slice a y.len c) y) (hm:m ≤ y.len):FSl S w (.slice a m c) (y.take m):=by
 obtain ⟨ds,h1,h2⟩:=h
 exact ⟨_,by rw [Fo.len_take hm];exact h1.pre hm,h2.take⟩
theorem FSl.suf {S:Nat→Prop} {w:World} {g o m c:Nat} {y:Fo} (h:FSl S w (.slice (some ⟨g,o,none⟩) y.len c) y) (hm:m < y.len):FSl S w (.slice (some ⟨g,o + m * 3,none⟩) (y.len - m) (c - m)) (y.drop m):=by
 obtain ⟨ds,h1,h2⟩:=h
 exact ⟨_,by rw [Fo.len_drop];exact h1.suf hm,h2.drop⟩
theorem one_facts (n:Int):(oneY n).len = 2∧(oneY n).Sm∧(oneY n).cnt = 3:=⟨rfl,by simp [oneY,Fo.Sm,bedN,rakedN,soldN,Fo.len],rfl⟩
theorem print7 (a:Option Addr) (c:Nat) (S:Nat→Prop) (w:World) (hv:FSl S w (.slice a 2 c) (oneY 7)) (hS:∀ b,S b→b < w.heap.size) (ht:Pow w) :
 Calls Tryz.prog 22 #[.slice a 2 c] w fun e w'=>e = .returned (.tuple #[.string ⟨#[98,101,100,32,51,10,32,114,97,107,101,100,32,53,32,55,10,115,111,108,100,10]⟩, .int .i64 0])∧Below w.heap.size w w':=by
 have h:=Print_any (oneY 7) a c S w hv hS (by decide) (one_facts 7).2.1 (by decide) ht
 rw [val_chk,if_pos rfl,val_txt] at h
 exact h
theorem parse1 (w:World):Calls Tryz.prog 26 #[.string ⟨#[98,101,100,32,51,10,32,114,97,107,101,100,32,53,32,55,10,115,111,108,100,10]⟩] w fun e w'=>∃ a c,e = .returned (.tuple #[.slice a 2 c, .int .i64 0, .int .i64 0, .int .i64 0])∧FSl (Rg w.heap.size w'.heap.size) w' (.slice a 2 c) (oneY 7)∧Below w.heap.size w w':=by
 have h:=Parse_any txt1 w (by decide)
 rw [val_prs1.1,val_prs1.2] at h
 exact h
theorem parse2 (w:World):Calls Tryz.prog 26 #[.string ⟨#[98,101,100,32,51,10,32,32,114,97,107,101,100,32,53,10]⟩] w fun e w'=>∃ a c,e = .returned (.tuple #[.slice a 0 c, .int .i64 1, .int .i64 1, .int .i64 11])∧Below w.heap.size w w':=by
 have h:=Parse_any txt2 w (by decide)
 rw [val_prs2.1,val_prs2.2] at h
 exact h.mono fun e w' ⟨a,c,h1,_,h3⟩=>⟨a,c,h1,h3⟩
theorem alike7 (a1 a2:Option Addr) (c1 c2:Nat) (S:Nat→Prop) (w:World) (h1:FSl S w (.slice a1 2 c1) (oneY 7)) (h2:FSl S w (.slice a2 2 c2) (oneY 7)) (hS:∀ b,S b→b < w.heap.size) :
 Calls Tryz.prog 25 #[.slice a1 2 c1, .slice a2 2 c2] w fun e w'=>e = .returned (.bool true)∧Below w.heap.size w w':=by
 have h:=(alike_any 4).2 (oneY 7) (oneY 7) a1 c1 a2 c2 S w (by decide) h1 h2 hS (by decide) (by decide) (one_facts 7).2.1 (one_facts 7).2.1
 rw [decide_eq_true rfl] at h
 exact h
theorem diff78 (a1 a2:Option Addr) (c1 c2:Nat) (S:Nat→Prop) (w:World) (h1:FSl S w (.slice a1 2 c1) (oneY 7)) (h2:FSl S w (.slice a2 1 c2) (oneB 8)) (hS:∀ b,S b→b < w.heap.size) (ht:Pow w) :
 Calls Tryz.prog 41 #[.slice a1 2 c1, .slice a2 1 c2] w fun e w'=>∃ a c,e = .returned (.tuple #[.slice a 2 c, .int .i64 0])∧ChSl (Rg w.heap.size w'.heap.size) w' (.slice a 2 c) difV∧Below w.heap.size w w':=by
 have h:=Diff_any (oneY 7) (oneB 8) a1 a2 c1 c2 S w h1 h2 hS (by decide) (by decide) (one_facts 7).2.1 (by simp [oneB,Fo.Sm,bedN,rakedN,Fo.len]) (by decide) (by decide) ht
 rw [val_dif.1,val_dif.2] at h
 exact h
theorem get7 (a1 a2:Option Addr) (c1 c2:Nat) (S T:Nat→Prop) (w:World) (h1:FSl S w (.slice a1 2 c1) (oneY 7)) (hS:∀ b,S b→b < w.heap.size) (h2:Pth T w (.slice a2 2 c2) [bed3,raked5]) (hT:∀ b,T b→b < w.heap.size) :
 Calls Tryz.prog 56 #[.slice a1 2 c1, .slice a2 2 c2] w fun e w'=>∃ an cn ab cb,e = .returned (.tuple #[.agg #[.string ⟨#[114,97,107,101,100]⟩, .slice an 2 cn, .slice ab 0 cb], .int .i64 0])∧Ints (Rg w.heap.size w'.heap.size) w' (.slice an 2 cn) [5,7]∧Below w.heap.size w w':=by
 have h:=Get_any (oneY 7) [bed3,raked5] a1 a2 c1 c2 S T w h1 hS h2 hT (by decide) (one_facts 7).2.1 (by decide) (by decide)
 refine h.mono ?_
 rintro e w' ⟨n,l,s,an,cn,ab,cb,hg,he,hi,hf,hb⟩
 rw [val_get.2] at hg
 obtain ⟨rfl,rfl,rfl⟩:rakedN = n∧[5,7] = l∧Fo.nil = s:=by simpa using hg
 rw [val_get.1] at he
 exact ⟨an,cn,ab,cb,he,hi,hb⟩
theorem put7 (a1 a2 an:Option Addr) (c1 c2 cn:Nat) (S T:Nat→Prop) (w:World) (h1:FSl S w (.slice a1 2 c1) (oneY 7)) (hS:∀ b,S b→b < w.heap.size) (h2:Pth T w (.slice a2 1 c2) [bed3]) (h3:Ints T w (.slice an 1 cn) [6]) (hT:∀ b,T b→b < w.heap.size) :
 Calls Tryz.prog 49 #[.slice a1 2 c1, .slice a2 1 c2, .agg #[.string ⟨#[114,97,107,101,100]⟩, .slice an 1 cn, .slice none 0 0]] w fun e w'=>∃ a c,e = .returned (.tuple #[.slice a 2 c, .int .i64 0])∧FSl (Rg w.heap.size w'.heap.size) w' (.slice a 2 c) oneM∧Below w.heap.size w w':=by
 have h:=Put_any (oneY 7) [bed3] rakedN [6] .nil a1 a2 an none c1 c2 cn 0 S T T w h1 hS h2 hT h3 ⟨[],⟨rfl,none,0,rfl,nl_ _,by simp [maxLen],fun _=>rfl, .inl rfl⟩,rfl⟩ hT (by decide) (one_facts 7).2.1 (by decide) (by decide) (by decide) (by decide) (by decide) trivial (by decide)
 refine h.mono ?_
 rintro e w' ⟨a,c,he,hf,hb⟩
 rw [val_put.1,val_put.2] at he
 rw [val_put.2] at hf
 exact ⟨a,c,he,hf.fsl,hb⟩
theorem join7 (a1 a2 a3:Option Addr) (c1 c2 c3:Nat) (S:Nat→Prop) (w:World) (h1:FSl S w (.slice a1 2 c1) (oneY 7)) (h2:FSl S w (.slice a2 1 c2) oneS) (h3:FSl S w (.slice a3 2 c3) oneM) (hS:∀ b,S b→b < w.heap.size) (ht:Pow w) :
 Calls Tryz.prog 33 #[.slice a1 2 c1, .slice a2 1 c2, .slice a3 2 c3] w fun e w'=>∃ a c a' c',e = .returned (.tuple #[.slice a 1 c, .slice a' 1 c', .int .i64 0])∧FSl (Rg w.heap.size w'.heap.size) w' (.slice a 1 c) oneS∧PaSl (Rg w.heap.size w'.heap.size) w' (.slice a' 1 c') [[bed3,raked6]]∧Below w.heap.size w w':=by
 have h:=Join_any (oneY 7) oneS oneM a1 a2 a3 c1 c2 c3 S w h1 h2 h3 hS ⟨by decide,(one_facts 7).2.1,by decide⟩ ⟨by decide,by simp [oneS,Fo.Sm,soldN,Fo.len],by decide⟩ ⟨by decide,by simp [oneM,Fo.Sm,bedN,rakedN,soldN,Fo.len],by decide⟩ ht
 refine h.mono ?_
 rintro e w' ⟨a,c,a',c',he,hf,hp,hb⟩
 rw [val_join.1,val_join.2.1,val_join.2.2] at he
 rw [val_join.2.1] at hf
 rw [val_join.2.2] at hp
 exact ⟨a,c,a',c',he,hf,hp,hb⟩
end Go.Proofs.LF
namespace Go.Proofs.LF
open Go.RowKit Go.Sort
theorem cmpP_dropLast:∀ {p:List Ky},p ≠ []→cmpP p.dropLast p < 0
 | [],h=>absurd rfl h
 | [a],_=>by simp [cmpP]
 | a :: b :: p,_=>by
   have h:=cmpP_dropLast (p:=b :: p) (by simp)
   have e:byK a a = 0:=byK_ord.refl a
   rw [List.dropLast_cons_of_ne_nil (by simp),cmpP,if_neg (by simp [e])]
   exact h
theorem lsF_clo {a:List Fl} (ha:Srt a) (hc:Clo a) (hne:∀ x ∈ a,x.p ≠ []):∀ (k r:List Fl),a = k ++ r→lsF k [] r = (a,[])
 | k,[],e=>by rw [e];simp [lsF]
 | k,f :: r,e=>by
   have hk:Srt k:=by rw [e] at ha;exact (List.pairwise_append.1 ha).1
   rw [lsF,if_pos,lsF_clo ha hc hne (k ++ [f]) r (by rw [e];simp)]
   by_cases h1:f.p.length = 1
   · exact .inr h1
   · left
     have hf:f ∈ a:=by rw [e];simp
     have hfp:f.p.dropLast ≠ []:=fun h=>by
      have h2:=congrArg List.length h
      rw [List.length_dropLast] at h2
      have h3:f.p.length ≠ 0:=fun h=>hne f hf (List.eq_nil_of_length_eq_zero h)
      simp at h2
      omega
     obtain ⟨z,hz,hzp⟩:=hc f hf hfp
     have hzk:z ∈ k:=by
      rw [e] at hz
      rcases List.mem_append.1 hz with h | h
      · exact h
      · exfalso
        have hlt:0 ≤ cmpP z.p f.p:=by
         rcases List.mem_cons.1 h with h | h
         · rw [h,cmpP_ord.refl];omega
         · have h4:=ha
           rw [e] at h4
           have h5:=(List.pairwise_cons.1 (List.pairwise_append.1 h4).2.1).1 z h
           have:=cmpP_ord.flip h5
           omega
        have hlt2:cmpP z.p f.p < 0:=by
         rw [hzp]
         exact cmpP_dropLast (hne f hf)
        omega
     rw [fnd_rfd hk]
     exact rfd_iff.2 (List.mem_map.2 ⟨z,hzk,hzp⟩)
end Go.Proofs.LF
namespace Go.Proofs.LF
theorem putR_len {x:Fl}:∀ {l:List Fl},(putR x l).length = l.length + 1
 | []=>rfl
 | z :: l=>by
   rw [putR]
   split
   · simp
   · simp [putR_len (x:=x) (l:=l)]
end Go.Proofs.LF
namespace Go.Proofs.LF
open Go.RowKit Go.Sort
def In (W:World) (v:Value) (y:Fo):Prop:=FSl (fun q=>q < W.heap.size) W v y
theorem In.on {W W':World} {v:Value} {y:Fo} (h:In W v y) (hb:Below W.heap.size W W'):In W' v y:=FSl.on h hb
def PaIn (W:World) (v:Value) (ps:List (List Ky)):Prop:=PaSl (fun q=>q < W.heap.size) W v ps
theorem PaIn.on {W W':World} {v:Value} {ps:List (List Ky)} (h:PaIn W v ps) (hb:Below W.heap.size W W'):PaIn W' v ps:=LSl.on h hb
def IsIn (W:World) (v:Value) (l:List Int):Prop:=Ints (fun q=>q < W.heap.size) W v l
theorem IsIn.on {w w':World} {v:Value} {l:List Int} (h:IsIn w v l) (hb:Below w.heap.size w w'):IsIn w' v l:=
 (Ints.agree h (Ag_b hb fun _ h=>h)).wide fun b hq=>by have:=hb.size;omega
def PtIn (W:World) (v:Value) (l:List Ky):Prop:=Pth (fun q=>q < W.heap.size) W v l
theorem PtIn.on {w w':World} {v:Value} {l:List Ky} (h:PtIn w v l) (hb:Below w.heap.size w w'):PtIn w' v l:=
 (Pth.agree h (Ag_b hb fun _ h=>h)).wide fun b hq=>by have:=hb.size;omega
def ChIn (W:World) (v:Value) (l:List Ch):Prop:=ChSl (fun q=>q < W.heap.size) W v l
theorem ChIn.on {W W':World} {v:Value} {ps:List Ch} (h:ChIn W v ps) (hb:Below W.heap.size W W'):ChIn W' v ps:=LSl.on h hb
def AllP (W w':World) (v:Value) (ps:List (List Ky)) (n:Nat) (cs:List Value):Prop:=n = ps.length∧w'.ownsRow W.heap.size 65 1 v n cs∧∃ T:Nat→Prop,LCs rdPa T w' ps cs∧∀ b,T b→W.heap.size ≤ b∧b < w'.heap.size∧v.ownBlock ≠ some b
theorem AllP.news {W w':World} {a:Option Addr} {n c:Nat} {ps:List (List Ky)} {cs:List Value} (h:AllP W w' (.slice a n c) ps n cs):cs.length = n * 1∧(a = none→n = 0∧c = 0)∧(∀ ad,a = some ad→∀ (j:Nat) (u:Value),cs[j]? = some u→w'.cell? (ad.add j) = some u)∧(∀ u ∈ cs,u.oneCell' = true):=by
 obtain ⟨_,h1,T,h2,h3⟩:=h
 have s1:=SlC.of_owns h1
 exact ⟨h1.1,fun h=>(SlC.caps s1).2.2 h,SlC.news s1 Agree.refl,LCs.one h2⟩
def ByIn (W:World) (v:Value) (l:List Int):Prop:=Byt (fun q=>q < W.heap.size) W v l
theorem ByIn.on {W W':World} {v:Value} {l:List Int} (h:ByIn W v l) (hb:Below W.heap.size W W'):ByIn W' v l:=
 (SlC.agree h (Ag_b hb fun _ h=>h)).wide fun b hq=>by have:=hb.size;omega
end Go.Proofs.LF
