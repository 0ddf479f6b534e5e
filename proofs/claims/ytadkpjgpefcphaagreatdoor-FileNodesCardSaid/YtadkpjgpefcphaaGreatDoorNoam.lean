/- Parts of the proof of a law of layer 11 (file): LfRdCh, LfPrs, LfW18, LfJn, LfW31, LfRdr, LfAtoi, LfW42, LfRdNd, LfW39, LfW19, LfW18u, LfFi, LfW37, LfRdU, LfW27, LfGrw, LfW20. The conditions stand in each theorem. -/
import Derived.Lib.AtoiAll
import Derived.Lib.ItoaMem
import Derived.Shelf.SlSortCmp.Whole1
import Derived.Shelf.Spec.SlicesGrow
import Derived.Test.YtadkpjgpefcphaaGreatDoorProg
import Derived.Test.YtadkpjgpefcphaaGreatDoorNoaa
import Derived.Test.YtadkpjgpefcphaaGreatDoorNoab
import Derived.Test.YtadkpjgpefcphaaGreatDoorNoae
import Derived.Test.YtadkpjgpefcphaaGreatDoorNoaf
import Derived.Test.YtadkpjgpefcphaaGreatDoorNoah
import Derived.Test.YtadkpjgpefcphaaGreatDoorNoai
import Derived.Test.YtadkpjgpefcphaaGreatDoorNoak
import Derived.Test.YtadkpjgpefcphaaGreatDoorNoal
set_option linter.all false
set_option linter.unusedVariables false
set_option linter.unusedSimpArgs false
namespace Go.Proofs.LF
open Go.RowKit
set_option maxRecDepth 100000
theorem cells71:Tryz.prog.cellsOf 71 = 3:=by kernel_rfl
theorem cells4:Tryz.prog.cellsOf 4 = 1:=by kernel_rfl
def rdKy:Rd Ky 3 where
 R _ _ x cs:=cs = x.cells
 len:=by rintro S w x cs rfl;rfl
 one:=by rintro S w x cs rfl u hu;simp [Ky.cells] at hu;rcases hu with rfl | rfl | rfl <;> rfl
 agree:=by rintro S w w' x cs rfl _;rfl
 wide:=by rintro S w w' x cs rfl _;rfl
theorem lcs_ky {S:Nat→Prop} {w:World}:∀ {xs:List Ky} {cs:List Value},LCs rdKy S w xs cs→cs = xs.flatMap Ky.cells
 | [],_,h=>h
 | x :: xs,_,⟨c,ds,h1,h2,h3⟩=>by rw [h1,show c = x.cells from h2,lcs_ky h3];rfl
section
variable {H:Type} {enc:TypeId × Value→H} {W:World}
theorem read_list {α:Type} {k:Nat} (r:Rd α k) {T E:TypeId} (hT:Tryz.prog.underlying T = some (.slice E)) (hk:Tryz.prog.cellsOf E = k) (hk0:0 < k)
 (each:∀ (fuel:Nat) (cs:List Value) (x:DataW H × List MemPlace),cs.length = k→DataW.trod enc Tryz.prog W 0 (fun _=>true) true fuel E cs = some x→∃ y,r.R (fun b=>b < W.heap.size) W y cs)
 {fuel:Nat} {v:Value} {x:DataW H × List MemPlace} (h:DataW.trod enc Tryz.prog W 0 (fun _=>true) true fuel T [v] = some x):∃ xs,LSl r (fun b=>b < W.heap.size) W v xs:=by
 rcases DataW.trod_slice hT h with ⟨hc,_⟩ | ⟨a,len,cap,elems,rest,n,hfu,hc,_,hb,hl,hm,hlen,hel,_,_⟩
 · obtain rfl:v = _:=by simpa using hc
   exact ⟨[],[],⟨by simp,none,0,rfl,nl_ _,by simp [maxLen],fun _=>rfl, .inl rfl⟩,rfl⟩
 · obtain rfl:v = _:=by simpa using hc
   rw [hk] at hel
   have one:∀ i,i < len→∃ y cs,r.R (fun b=>b < W.heap.size) W y cs∧∀ (j:Nat) u,cs[j]? = some u→W.cell? ((a.add (i * k)).add j) = some u:=by
    intro i hi
    have h1:=hel i hi
    rw [List.getElem?_eq_getElem (by omega)] at h1
    obtain ⟨cs',hcs,hx⟩:=Option.bind_eq_some_iff.1 h1
    obtain ⟨_,hcl,hcc⟩:=World.cells?_some hcs
    obtain ⟨y,hy⟩:=each n cs' _ hcl hx
    exact ⟨y,cs',hy,fun j u hj=>by
     have hjl:=(List.getElem?_eq_some_iff.1 hj).1
     rw [hcc j (by omega)];exact hj⟩
   by_cases h0:len = 0
   · subst h0
     exact ⟨[],[],⟨by simp,some a,cap,rfl,hl,hm,(fun h=>by cases h), .inl rfl⟩,rfl⟩
   · have hs:a.spot = none∧a.block < W.heap.size:=by
      obtain ⟨y,cs,hy,hc⟩:=one 0 (by omega)
      have hlen:=r.len hy
      have:=cell_plain (hc 0 cs[0] (by simp [show 0 < cs.length by omega]))
      simpa [Addr.add] using this
     have all:∀ q,q ≤ len→∃ xs ds,xs.length = q∧ds.length = q * k∧LCs r (fun b=>b < W.heap.size) W xs ds∧∀ (j:Nat) u,ds[j]? = some u→W.cell? ⟨a.block,a.off + j,none⟩ = some u:=by
      intro q
      induction q with
      | zero=>intro _;exact ⟨[],[],rfl,by simp,rfl,fun j u hj=>by simp at hj⟩
      | succ q ihq=>
        intro hq
        obtain ⟨xs,ds,h1,h2,h3,h4⟩:=ihq (by omega)
        obtain ⟨y,cs,hy,hc⟩:=one q (by omega)
        have hcl:=r.len hy
        refine ⟨xs ++ [y],ds ++ cs,by simp [h1],by rw [List.length_append,h2,hcl,Nat.add_mul];omega,h3.app (LCs.single hy),fun j u hj=>?_⟩
        by_cases hjl:j < ds.length
        · rw [List.getElem?_append_left hjl] at hj
          exact h4 j u hj
        · rw [List.getElem?_append_right (by omega)] at hj
          have:=hc _ u hj
          rw [add_plain a hs.1,add_plain _ rfl] at this
          rw [show a.off + j = a.off + q * k + (j - ds.length) by omega]
          exact this
     obtain ⟨xs,ds,h1,h2,h3,h4⟩:=all len (nl_ _)
     refine ⟨xs,ds,?_,h3⟩
     rw [h1]
     exact ⟨h2,some a,cap,rfl,hl,hm,(fun h=>by cases h), .inr ⟨a.block,a.off,by cases a;have:=hs.1;simp only at this;rw [this],hs.2,h4⟩⟩
theorem read_key {fuel:Nat} {cs:List Value} {x:DataW H × List MemPlace} (hl:cs.length = 3) (h:DataW.trod enc Tryz.prog W 0 (fun _=>true) true fuel 71 cs = some x):∃ y:Ky,rdKy.R (fun b=>b < W.heap.size) W y cs:=by
 obtain ⟨xs,m,hnm,_,_,hxl,hfs⟩:=DataW.trod_struct Tryz.underlying71 h
 match cs,hl with
 | [c0,c1,c2],_=>
   have f0:=hfs 0 _ rfl
   have f1:=hfs 1 _ rfl
   have f2:=hfs 2 _ rfl
   change DataW.trod enc Tryz.prog W 0 (fun _=>true) true m 9 (([c0,c1,c2].drop 0).take (Tryz.prog.cellsOf 9)) = xs[0]? at f0
   change DataW.trod enc Tryz.prog W 0 (fun _=>true) true m 4 (([c0,c1,c2].drop 1).take (Tryz.prog.cellsOf 4)) = xs[1]? at f1
   change DataW.trod enc Tryz.prog W 0 (fun _=>true) true m 3 (([c0,c1,c2].drop 2).take (Tryz.prog.cellsOf 3)) = xs[2]? at f2
   rw [cells9] at f0
   rw [cells4] at f1
   rw [cells3] at f2
   have g0:DataW.trod enc Tryz.prog W 0 (fun _=>true) true m 9 [c0] = xs[0]?:=f0
   have g1:DataW.trod enc Tryz.prog W 0 (fun _=>true) true m 4 [c1] = xs[1]?:=f1
   have g2:DataW.trod enc Tryz.prog W 0 (fun _=>true) true m 3 [c2] = xs[2]?:=f2
   have hx3:xs.length = 3:=hxl
   rw [List.getElem?_eq_getElem (by omega)] at g0 g1 g2
   obtain ⟨s,hs,_⟩:=DataW.trod_string Tryz.underlying9 g0
   obtain ⟨b,hb,_⟩:=DataW.trod_bool Tryz.underlying4 g1
   obtain ⟨n,hn,_⟩:=DataW.trod_int Tryz.underlying3 g2
   obtain rfl:c0 = .string s:=by simpa using hs
   obtain rfl:c1 = .bool b:=by simpa using hb
   obtain rfl:c2 = .int .i64 n:=by simpa using hn
   exact ⟨⟨s.data.toList,b,n⟩,by show _ = _;rw [Ky.cells,bs_of]⟩
theorem read_path {fuel:Nat} {v:Value} {x:DataW H × List MemPlace} (h:DataW.trod enc Tryz.prog W 0 (fun _=>true) true fuel 65 [v] = some x):∃ p,Pth (fun b=>b < W.heap.size) W v p:=by
 obtain ⟨xs,cs,h1,h2⟩:=read_list rdKy Tryz.underlying65 cells71 (by omega) (fun _ _ _ hl hx=>read_key hl hx) h
 exact ⟨xs,by rw [Pth,← lcs_ky h2];exact h1⟩
end
end Go.Proofs.LF
namespace Go.Proofs.LF
def prsG (t:List UInt8):Nat→Nat→Nat→Nat→List Ky→List Fl→List Fl × Nat × Nat × Nat
 | 0,_,_,_,_,_=>([],0,0,0)
 | f + 1,i,ln,dp,ks,fs=>
   if i < t.length then
    if 60 ≤ ln then ([],ln,0,2)
    else
     let r:=rdLine dp (t.drop i)
     if r.2.2.2.2 = false then ([],ln,r.2.2.2.1,11)
     else
      let ks':=ks.set r.1 (kyOf r.2.1 r.2.2.1)
      let p:=ks'.take (r.1 + 1)
      if fs.any (fun x=>decide (0 ≤ cmpP x.p p)) then ([],ln,r.1,4)
      else prsG t f (i + r.2.2.2.1 + 1) (ln + 1) (min (r.1 + 1) 3) ks' (fs ++ [⟨p,r.2.2.1⟩])
   else (fs,0,0,0)
def ky0:Ky:=⟨[],false,0⟩
def prs (t:List UInt8):List Fl × Nat × Nat × Nat:=prsG t 62 0 0 0 [ky0,ky0,ky0,ky0] []
theorem rdNums_le:∀ (m:Nat) (s:List UInt8),(rdNums m s).2.1 ≤ s.length∧(rdNums m s).1.length ≤ m
 | 0,_=>by simp [rdNums]
 | m + 1,s=>by
   simp only [rdNums]
   split
   · simp
   · rename_i h
     have h1:1 ≤ s.length:=by
      cases s with
      | nil=>exact absurd (runN_stop (.inr rfl)) h
      | cons _ _=>simp
     split
     · simp;omega
     · have h2:=runN_le (p:=digitB) (m:=mostD (s.drop 1)) (l:=s.drop 1)
       have h3:=rdNums_le m ((s.drop 1).drop (runN digitB (mostD (s.drop 1)) (s.drop 1)))
       simp only [List.length_drop,List.length_cons] at h2 h3 ⊢
       omega
theorem rdLine_le (dp:Nat) (s:List UInt8):(rdLine dp s).1 ≤ dp∧(rdLine dp s).2.2.2.1 ≤ s.length∧(rdLine dp s).2.2.1.length ≤ 4∧(rdLine dp s).2.1.length ≤ 8∧((rdLine dp s).2.2.2.2 = true→(rdLine dp s).2.2.2.1 < s.length):=by
 have h1:=runN_le (p:=blankB) (m:=dp) (l:=s)
 have h2:=runN_le (p:=smallB) (m:=8) (l:=s.drop (runN blankB dp s))
 have h3:=rdNums_le 4 ((s.drop (runN blankB dp s)).drop (runN smallB 8 (s.drop (runN blankB dp s))))
 rw [List.length_drop] at h2
 simp only [List.drop_drop,List.length_drop] at h3
 simp only [rdLine]
 split
 · simp;omega
 · simp only [List.length_take,List.length_drop,Bool.and_eq_true,beq_iff_eq,List.drop_drop]
   refine ⟨by omega,by omega,h3.2,by omega,fun h=>?_⟩
   obtain ⟨_,h⟩:=h
   have h5:runN blankB dp s + (runN smallB 8 (s.drop (runN blankB dp s)) + (rdNums 4 (s.drop (runN blankB dp s + runN smallB 8 (s.drop (runN blankB dp s))))).2.1) < s.length:=by
    rcases Nat.lt_or_ge (runN blankB dp s + (runN smallB 8 (s.drop (runN blankB dp s)) + (rdNums 4 (s.drop (runN blankB dp s + runN smallB 8 (s.drop (runN blankB dp s))))).2.1)) s.length with h5 | h5
    · exact h5
    · rw [List.drop_eq_nil_of_le h5] at h;cases h
   omega
end Go.Proofs.LF
namespace Go.Proofs.LF
open Go.RowKit Go.Sort
set_option maxHeartbeats 4000000
set_option maxRecDepth 100000
attribute [local go_sem] bs_toList bs_size bs_get
theorem Tryz.info71':(Tryz.prog.info? 71).map (fun i=>(i.zero,i.size,i.bytes)) = some (some (.agg #[.string ByteArray.empty, .bool false, .int .i64 0]),3,32):=by kernel_rfl
theorem cloneK_any (p:List Ky) (a:Option Addr) (c:Nat) (S:Nat→Prop) (w:World) (hv:Pth S w (.slice a p.length c) p) (hS:∀ b,S b→b < w.heap.size) (hlen:p.length ≤ 1000) :
 Calls Tryz.prog 117 #[.slice a p.length c] w fun e w'=>∃ a' c',e = .returned (.slice a' p.length c')∧Pth (Rg w.heap.size w'.heap.size) w' (.slice a' p.length c') p∧Below w.heap.size w w':=by
 obtain ⟨j0,hj0,hy0,hy1,hy2⟩:=info_parts Tryz.info71'
 have hcaps:=SlC.caps hv
 have hlk:=len_keys p
 have q65:∀ (w:World) (a:Option Addr) (n c:Nat),(binOp .eql 65 (.slice a n c) (.slice none 0 0)).run Tryz.prog w = .ok (.bool a.isNone) w:=fun w a n c=>Lib.run_eql_slice_nil w 65 71 a n c 0 0 Tryz.underlying65
 cases a with
 | none=>
   obtain ⟨h0,rfl⟩:=hcaps.2.2 rfl
   obtain rfl:p = []:=List.eq_nil_of_length_eq_zero h0
   simp only [List.length_nil]
   go_enter Tryz.func117,Tryz.ntmps117
   go_wp2_with fail
   go_ret
   exact ⟨none,0,rfl,⟨rfl,none,0,rfl,nl_ _,by simp [maxLen],fun _=>rfl, .inl rfl⟩,Below.refl _ _⟩
 | some ad=>
   have hbel:Below w.heap.size w (w.alloc (.cells #[] 71)):=(Below.refl _ _).alloc (nl_ _) _
   have hnews:=SlC.news hv (Ag_b hbel hS)
   have how:(w.alloc (.cells #[] 71)).ownsRow w.heap.size 71 3 (.slice (some ⟨w.heap.size,0,none⟩) 0 0) 0 []:=owns_of_row (n:=0) (cap:=0) (cur:=#[]) (nl_ _) (heap_alloc_new _ _) (by omega) (by unfold maxLen;omega) (by simp) (by simp)
   have HB:=hid hbel
   clear hbel hv
   go_enter Tryz.func117,Tryz.ntmps117
   go_wp2_with (at_builtin;go_loud (refine wpList_append_ao _ rfl _ _ _ rfl w.heap.size 71 j0 _ 3 32 Tryz.underlying65 hj0 hy0 hy1 hy2 rfl (by omega) _ 0 [] rfl how (some ad) p.length c _ rfl hlk (fun h=>by cases h) hnews (one_keys p) (by unfold maxLen;omega) (by omega) (by simp) ?_);intro a1 c1 w1 hown1 hgrow1 hat1)
   simp only [Nat.zero_add,List.nil_append] at hown1
   go_ret
   refine ⟨a1,c1,by simp,SlC.of_owns hown1,HB.out.grown hgrow1 (by simp) (fun b hb=>by cases hb;exact nl_ _)⟩
theorem Atoi_any (s:List UInt8) (n:Nat) (w:World) (hs:s.length ≤ 1000) (h:Lib.atoiAll s = .ok (n:Int)) :
 Calls Tryz.prog 190 #[.string (bs s)] w fun e w'=>e = .returned (.tuple #[.int .i64 (n:Int), .nilIface])∧Below w.heap.size w w':=by
 refine (Tryz.strconv_Atoi_ok (bs s) (by rw [bs_size];omega) (n:Int) (by rw [bs_data];exact h) w).mono ?_
 rintro e w' ⟨rfl,rfl | ⟨t,rfl⟩⟩
 · exact ⟨rfl,Below.refl _ _⟩
 · refine ⟨rfl,?_⟩
   exact Lib.bytesWorld_below w 5 t
end Go.Proofs.LF
namespace Go.Proofs.LF
def rfd (l:List Fl) (p:List Ky):Option Fl:=l.find? fun x=>decide (x.p = p)
theorem bsF_at' {lt:Nat→Bool} {m J:Nat} (h1:∀ k,k < m→lt k = true) (h2:∀ k,m ≤ k→k < J→lt k = false):∀ (n i j:Nat),j - i ≤ n→i ≤ m→m ≤ j→j ≤ J→bsF lt i j = m
 | 0,i,j,h,hi,hj,_=>by rw [bsF_stop (by omega)];omega
 | n + 1,i,j,h,hi,hj,hJ=>by
   by_cases hij:i < j
   · rw [bsF_go hij]
     by_cases hm:(i + j) / 2 < m
     · rw [if_pos (h1 _ hm)];exact bsF_at' h1 h2 n _ _ (by omega) (by omega) hj hJ
     · rw [if_neg (by rw [h2 _ (by omega) (by omega)];simp)];exact bsF_at' h1 h2 n _ _ (by omega) hi (by omega) (by omega)
   · rw [bsF_stop hij];omega
theorem srt_part {p:List Ky}:∀ {l:List Fl},Srt l→∃ A B,l = A ++ B∧(∀ x ∈ A,cmpP x.p p < 0)∧∀ x ∈ B,0 ≤ cmpP x.p p
 | [],_=>⟨[],[],rfl,by simp,by simp⟩
 | x :: l,h=>by
   obtain ⟨h1,h2⟩:=List.pairwise_cons.1 h
   by_cases hx:cmpP x.p p < 0
   · obtain ⟨A,B,rfl,hA,hB⟩:=srt_part (p:=p) h2
     refine ⟨x :: A,B,rfl,fun y hy=>?_,hB⟩
     rcases List.mem_cons.1 hy with rfl | hy
     · exact hx
     · exact hA y hy
   · refine ⟨[],x :: l,rfl,by simp,fun y hy=>?_⟩
     rcases List.mem_cons.1 hy with rfl | hy
     · omega
     · have:=h1 y hy
       rcases Int.lt_or_le (cmpP y.p p) 0 with h' | h'
       · have:=cmpP_ord.trans this h';omega
       · exact h'
theorem fnd_rfd {l:List Fl} (h:Srt l) (p:List Ky):fnd l p = rfd l p:=by
 obtain ⟨A,B,rfl,hA,hB⟩:=srt_part (p:=p) h
 have hm:fndI (A ++ B) p = A.length:=by
  unfold fndI
  refine bsF_at' (J:=(A ++ B).length) (fun k hk=>?_) (fun k hk hJ=>?_) _ _ _ (nl_ _) (Nat.zero_le _) (by simp) (nl_ _)
  · rw [decide_eq_true_eq,List.getD_eq_getElem?_getD,List.getElem?_append_left hk,List.getElem?_eq_getElem hk]
    exact hA _ (List.getElem_mem hk)
  · rw [List.length_append] at hJ
    rw [decide_eq_false_iff_not,List.getD_eq_getElem?_getD,List.getElem?_append_right hk,List.getElem?_eq_getElem (by omega)]
    have:=hB _ (List.getElem_mem (show k - A.length < B.length by omega))
    simp only [Option.getD_some];omega
 have hf:rfd (A ++ B) p = rfd B p:=by
  unfold rfd
  rw [List.find?_append,show A.find? (fun x=>decide (x.p = p)) = none from List.find?_eq_none.2 fun x hx=>by
   have:=hA x hx
   simp only [decide_eq_true_eq]
   intro e;rw [e,cmpP_ord.refl] at this;omega]
  rfl
 rw [hf,fnd,hm,List.getElem?_append_right (nl_ _),Nat.sub_self]
 have hsB:Srt B:=(List.pairwise_append.1 h).2.1
 cases B with
 | nil=>rfl
 | cons x B=>
   simp only [List.getElem?_cons_zero,rfd]
   by_cases hx:cmpP x.p p = 0
   · rw [if_pos hx,List.find?_cons_of_pos (by simpa using cmpP_ord.eq hx)]
   · have hne:x.p ≠ p:=fun e=>hx (by rw [e,cmpP_ord.refl])
     rw [if_neg hx,List.find?_cons_of_neg (by simpa using hne)]
     symm
     rw [List.find?_eq_none]
     intro y hy
     have h1:=(List.pairwise_cons.1 hsB).1 y hy
     have h2:=hB x (by simp)
     simp only [decide_eq_true_eq]
     intro e
     rw [e] at h1
     omega
theorem rfd_iff {l:List Fl} {p:List Ky}:(rfd l p).isSome = true ↔ p ∈ l.map Fl.p:=by
 unfold rfd
 rw [List.find?_isSome]
 simp
def putR (x:Fl):List Fl→List Fl
 | []=>[x]
 | y :: r=>if cmpP x.p y.p < 0 then x :: y :: r else y :: putR x r
theorem putR_mem {x:Fl}:∀ {l:List Fl} {z:Fl},z ∈ putR x l ↔ z = x ∨ z ∈ l
 | [],z=>by simp [putR]
 | y :: r,z=>by
   simp only [putR]
   split
   · simp
   · rw [List.mem_cons,putR_mem,List.mem_cons]
     constructor
     · rintro (h | h | h) <;> simp [h]
     · rintro (h | h | h) <;> simp [h]
theorem putR_srt {x:Fl}:∀ {l:List Fl},Srt l→x.p ∉ l.map Fl.p→Srt (putR x l)
 | [],_,_=>by simp [putR,Srt]
 | y :: r,h,hx=>by
   obtain ⟨h1,h2⟩:=List.pairwise_cons.1 h
   simp only [List.map_cons,List.mem_cons,not_or] at hx
   simp only [putR]
   split
   · rename_i hlt
     refine List.pairwise_cons.2 ⟨fun z hz=>?_,h⟩
     rcases List.mem_cons.1 hz with rfl | hz
     · exact hlt
     · exact cmpP_ord.trans hlt (h1 z hz)
   · rename_i hlt
     have hyx:cmpP y.p x.p < 0:=by
      rcases Int.lt_trichotomy (cmpP x.p y.p) 0 with h' | h' | h'
      · exact absurd h' hlt
      · exact absurd (cmpP_ord.eq h') hx.1
      · exact cmpP_ord.flop h'
     refine List.pairwise_cons.2 ⟨fun z hz=>?_,putR_srt h2 hx.2⟩
     rcases putR_mem.1 hz with rfl | hz
     · exact hyx
     · exact h1 z hz
def SrtP (l:List (List Ky)):Prop:=l.Pairwise (fun a b=>cmpP a b < 0)
theorem SrtP.nodup {l:List (List Ky)} (h:SrtP l):l.Nodup:=h.imp fun {a b} hab e=>by rw [e,cmpP_ord.refl] at hab;omega
end Go.Proofs.LF
namespace Go.Proofs
def Tryz.laysGrow_ren:Go.Shelf.Ren:=⟨fun | 4=>228 | n=>n,fun | 22=>167 | 25=>171 | 3=>3 | 4=>4 | 9=>9 | 0=>0 | 20=>20 | n=>n,fun | n=>n⟩
theorem Tryz.laysGrow:Go.Proofs.Lays8.n4 Tryz.prog Tryz.laysGrow_ren:={
 mixed:=by kernel_rfl
 f4:=⟨Tryz.f228.name,by decide,Tryz.func228.trans (congrArg some (by kernel_rfl))⟩
 t0:=Tryz.underlying0
 a0:=Tryz.isAgg0
 z0:=Tryz.sizeOf0
 v0:=Tryz.zeroValue0
 t3:=Tryz.underlying3
 a3:=Tryz.isAgg3
 z3:=Tryz.sizeOf3
 v3:=Tryz.zeroValue3
 t4:=Tryz.underlying4
 a4:=Tryz.isAgg4
 z4:=Tryz.sizeOf4
 v4:=Tryz.zeroValue4
 t9:=Tryz.underlying9
 a9:=Tryz.isAgg9
 z9:=Tryz.sizeOf9
 v9:=Tryz.zeroValue9
 t20:=Tryz.underlying20
 a20:=Tryz.isAgg20
 z20:=Tryz.sizeOf20
 v20:=Tryz.zeroValue20
 t22:=Tryz.underlying167
 a22:=Tryz.isAgg167
 z22:=Tryz.sizeOf167
 v22:=Tryz.zeroValue167 }
namespace LF
open Go.RowKit Go.Sort
set_option maxHeartbeats 4000000
set_option maxRecDepth 100000
attribute [local go_sem] bs_toList bs_size bs_get
def rdLs:Rd (List Fl) 1 where
 R S w x cs:=∃ ap cp,cs = [.slice ap x.length cp]∧FlSl S w (.slice ap x.length cp) x
 len:=by rintro S w x cs ⟨_,_,rfl,_⟩;rfl
 one:=by rintro S w x cs ⟨_,_,rfl,_⟩ u hu;simp at hu;rcases hu with rfl;rfl
 agree:=by rintro S w w' x cs ⟨a,b,rfl,h1⟩ ha;exact ⟨a,b,rfl,h1.agree ha⟩
 wide:=by rintro S w w' x cs ⟨a,b,rfl,h1⟩ ha;exact ⟨a,b,rfl,h1.wide ha⟩
theorem growNil_any (n:Nat) (w:World) (hn:n ≤ 1000000):Calls Tryz.prog 228 #[.slice none 0 0, .int .i64 n] w fun e w'=>∃ v,e = .returned v∧w'.ownsRow w.heap.size 171 2 v 0 []∧Below w.heap.size w w':=by
 by_cases h0:n = 0
 · subst h0
   refine (Any8.slices_Grow_room Tryz.laysGrow none 0 0 0 w (Nat.le_refl _) (by omega) (by omega) (by omega)).mono ?_
   rintro e w' ⟨rfl,rfl⟩
   exact ⟨_,rfl,World.ownsRow_nil _ _ _ _,Below.refl _ _⟩
 · obtain ⟨i0,hi0,hz0,hz1,hz2⟩:=info_parts Tryz.info171''
   refine (Any8.slices_Grow_grow Tryz.laysGrow i0 _ hi0 hz0 (by rw [hz1];omega) none 0 0 n [] w (Nat.le_refl _) (by omega) (by rw [hz2];omega) (by omega) (by simp) (fun _=>rfl) (fun a h=>by cases h)).mono ?_
   rintro e w' ⟨rfl,rfl⟩
   refine ⟨_,rfl,?_,((Below.refl w.heap.size w).drew).alloc (Nat.le_refl _) _⟩
   have hge:=grownCap_ge w (0 + n) 0 171
   have hle:=grownCap_le_maxLen w (0 + n) 0 171 (by unfold maxLen;omega)
   exact owns_of_row (g:=w.heap.size) (cap:=grownCap w (0 + n) 0 171) (Nat.le_refl _) (heap_alloc_new w.drew _) (Nat.zero_le _) hle (by have e25:Tryz.laysGrow_ren.t 25 = 171:=rfl;simp only [Nat.zero_add] at hge hle;simp [Builtin.zeroCells,Value.cells,e25];omega) (by simp)
theorem concat_any (ls:List (List Fl)) (a:Option Addr) (c:Nat) (S:Nat→Prop) (w:World) (hv:LSl rdLs S w (.slice a ls.length c) ls) (hS:∀ b,S b→b < w.heap.size) (hl:ls.length ≤ 1000) (hn:(ls.map List.length).sum ≤ 100000) :
 Calls Tryz.prog 195 #[.slice a ls.length c] w fun e w'=>∃ a' c',e = .returned (.slice a' ls.flatten.length c')∧FlSl (fun b=>S b ∨ Rg w.heap.size w'.heap.size b) w' (.slice a' ls.flatten.length c') ls.flatten∧Below w.heap.size w w':=by
 obtain ⟨a',c',he,hc,hcm,hat⟩:=hv.at
 obtain ⟨rfl,rfl⟩:a = a'∧c = c':=by cases he;exact ⟨rfl,rfl⟩
 obtain ⟨i0,hi0,hz0,hz1,hz2⟩:=info_parts Tryz.info171''
 have HAT:=hid hat
 have HS:=hid hS
 have HN:=hid hn
 clear hat hS he hv hn
 unfold maxLen at hcm
 have hsum:∀ k,((ls.take k).map List.length).sum ≤ 100000:=fun k=>by
  have h1:=HN.out
  have:(ls.map List.length).sum = ((ls.take k).map List.length).sum + ((ls.drop k).map List.length).sum:=by
   rw [← List.sum_append,← List.map_append,List.take_append_drop]
  omega
 have HSUM:=hid hsum
 clear hsum
 go_enter Tryz.func195,Tryz.ntmps195
 go_wp2_with fail
 go_loopw [3,11] (fun sz i wr=>∃ k:Nat,k ≤ ls.length∧i = .int .i64 k∧sz = .int .i64 (((ls.take k).map List.length).sum:Nat)∧Below w.heap.size w wr) (fun _ i _=>ls.length - (intOf i).toNat)
 case atStart=>exact ⟨0,by omega,rfl,by simp,Below.refl _ _⟩
 case round=>
  obtain ⟨k,hk,rfl,rfl,hB⟩:=hrel
  have hsz:=hB.size
  have hs1:=HSUM.out k
  by_cases hlt:k < ls.length
  · have hlt':(k:Int) < (ls.length:Int):=by omega
    obtain ⟨g,o,cs1,rfl,hg,⟨ap,cp,rfl,hF⟩,hcell⟩:=HAT.out k hlt
    have c0:=(Ag_b hB HS.out).cell hg (hcell 0 _ rfl)
    rw [Nat.mul_one,Nat.add_zero] at c0
    have hs2:=HSUM.out (k + 1)
    have hst:((ls.take (k + 1)).map List.length).sum = ((ls.take k).map List.length).sum + ls[k].length:=by
     rw [List.take_succ_eq_append_getElem hlt,List.map_append,List.sum_append];simp only [List.map_cons,List.map_nil,List.sum_cons,List.sum_nil,Nat.add_zero]
    obtain ⟨s1,hs⟩:∃ s,((ls.take k).map List.length).sum = s:=⟨_,rfl⟩
    rw [hs] at hst hs1 ⊢
    rw [hst] at hs2
    have hnn:¬ ((s1:Int) + (ls[k].length:Int) < 0):=by omega
    have HST:=hid hst
    clear hst hcell hs
    go_wp2_with fail
    go_roundw
    case rel=>exact ⟨k + 1,by omega,by go_num,by rw [HST.out];go_num,hB⟩
    case measure=>simp [intOf];omega
  · obtain rfl:k = ls.length:=by omega
    have hlt':¬ (ls.length:Int) < (ls.length:Int):=by omega
    rw [List.take_length] at *
    obtain ⟨s1,hs⟩:∃ s,(ls.map List.length).sum = s:=⟨_,rfl⟩
    rw [hs] at hs1 ⊢
    go_wp2_with fail
    refine (growNil_any s1 wr (by omega)).mono ?_
    rintro e w1 ⟨v1,rfl,how1,hb1⟩
    have hB1:=hB.trans (hb1.mono hsz)
    have how1:w1.ownsRow w.heap.size 171 2 v1 0 []:=owns_base how1 (fun g hg=>by have:=(how1.lt g hg).1;omega)
    have HOW1:=hid how1
    have HB1:=hid hB1
    clear how1 hb1 hB1 hB
    go_wp2_with fail
    go_loopw [6,27] (fun v i wr=>∃ (k:Nat) (cs:List Value),k ≤ ls.length∧i = .int .i64 k∧wr.ownsRow w.heap.size 171 2 v (ls.take k).flatten.length cs∧LCs rdFl (fun b=>S b) wr (ls.take k).flatten cs∧Below w.heap.size w wr) (fun _ i _=>ls.length - (intOf i).toNat)
    case atStart=>exact ⟨0,[],by omega,rfl,by simpa using HOW1.out,rfl,HB1.out⟩
    case round=>
     obtain ⟨k,cs,hk,rfl,hown,hlc,hB⟩:=hrel
     have hsz2:=hB.size
     by_cases hlt:k < ls.length
     · have hlt':(k:Int) < (ls.length:Int):=by omega
       obtain ⟨g,o,cs1,rfl,hg,⟨ap,cp,rfl,hF⟩,hcell⟩:=HAT.out k hlt
       have c0:=(Ag_b hB HS.out).cell hg (hcell 0 _ rfl)
       rw [Nat.mul_one,Nat.add_zero] at c0
       obtain ⟨ds,hd1,hd2⟩:=hF
       have hcap:=SlC.caps hd1
       have hnews:=SlC.news hd1 (Ag_b hB HS.out)
       have hone:=hd2.one
       have hlen:=hd1.1
       have hfl:(ls.take k).flatten.length = ((ls.take k).map List.length).sum:=List.length_flatten
       have hfl2:(ls.take (k + 1)).flatten.length = (ls.take k).flatten.length + ls[k].length:=by
        rw [List.take_succ_eq_append_getElem hlt,List.flatten_append];simp
       have hs2:=HSUM.out (k + 1)
       rw [← List.length_flatten,hfl2] at hs2
       have HN2:=hid hnews
       have HD2:=hid (hd2.agree (Ag_b hB HS.out))
       have HO:=hid hone
       have HL:=hid hlen
       have HFL:=hid hfl2
       have HLC:=hid hlc
       obtain ⟨q,hq⟩:∃ q,(ls.take k).flatten.length = q:=⟨_,rfl⟩
       rw [hq] at hown hs2
       have HQ:=hid hq
       have hcapn:ap = none→ls[k].length = 0∧cp = 0:=hcap.2.2
       have HCN:=hid hcapn
       clear hcell hd1 hd2 hnews hone hlen hfl hfl2 hlc hq hcap hcapn
       go_wp2_with (at_builtin;refine (wpList_append_ao _ rfl _ _ _ rfl w.heap.size 171 i0 _ 2 48 Tryz.underlying167 hi0 hz0 hz1 hz2 rfl (by omega) u6 q cs rfl hown ap ls[k].length cp ds rfl HL.out HCN.out HN2.out HO.out (by unfold maxLen;omega) (by omega) hsz2 ?_);intro a4 c4 w4 hown4 hgrow4 hat4)
       have hag:Agree S wr w4:=fun b hb=>hgrow4.block b (by have:=HS.out b hb;omega) (fun e=>by have:=(hown.lt b e.symm).1;have:=HS.out b hb;omega)
       have hm:=(HLC.out.agree hag).app (HD2.out.agree hag)
       have hfe:(ls.take (k + 1)).flatten = (ls.take k).flatten ++ ls[k]:=by
        rw [List.take_succ_eq_append_getElem hlt,List.flatten_append];simp
       have hB4:=hB.grown hgrow4 hsz2 (fun k hk=>(hown.lt k hk).1)
       go_roundw
       case rel=>exact ⟨k + 1,cs ++ ds,by omega,by go_num,by rw [HFL.out,HQ.out];exact hown4,by rw [hfe];exact hm,hB4⟩
       case measure=>simp [intOf];omega
     · obtain rfl:k = ls.length:=by omega
       have hlt':¬ (ls.length:Int) < (ls.length:Int):=by omega
       rw [List.take_length] at hown hlc
       obtain ⟨a9,c9,rfl,_,_⟩:=owns_shape hown
       go_wp2_with fail
       go_ret
       have hq:ls.flatten.length = s1:=by rw [List.length_flatten,hs]
       exact ⟨a9,c9,by simp [hq],⟨cs,by have:=(SlC.of_owns hown).wide (S':=fun b=>S b ∨ Rg w.heap.size wr.heap.size b) (fun b hb=>Or.inr hb);simp only [hq] at this ⊢;exact this,hlc.wide (S':=fun b=>S b ∨ Rg w.heap.size wr.heap.size b) (fun b hb=>Or.inl hb)⟩,hB⟩
end LF
end Go.Proofs
namespace Go.Proofs.LF
open Go.RowKit
theorem Rdr.cV {R:Nat} {t:List UInt8} {i j:Nat} {vs:List Value} {v:Value} {w:World} (h:Rdr R t i vs w) (hj:vs[j]? = some v):w.cell? ⟨R,j + 2,none⟩ = some v:=by
 unfold Rdr at h
 simp only [World.cell?,h]
 simpa using hj
theorem Rdr.setV {R:Nat} {t:List UInt8} {i:Nat} {vs:List Value} {w:World} (h:Rdr R t i vs w) (j:Nat) (v:Value):Rdr R t i (vs.set j v) (w.setCell ⟨R,j + 2,none⟩ v):=by
 unfold Rdr at h ⊢
 simp [World.setCell,Array.getElem?_modify,h]
theorem Rdr.keep {R:Nat} {t:List UInt8} {i:Nat} {vs:List Value} {w w':World} {O:Nat→Prop} (h:Rdr R t i vs w) (hk:Keep O w w') (ho:¬ O R):Rdr R t i vs w':=(hk.block R h.lt ho).trans h
end Go.Proofs.LF
namespace Go.Proofs.LF
open Go.Lib
theorem parse_digits:∀ (l:List UInt8) (acc n:Nat),(∀ c ∈ l,digitB c = true)→acc < 10 ^ n→n + l.length ≤ 8→parseUint10 acc l = .ok (l.foldl (fun n c=>n * 10 + (c.toNat - 48)) acc)
 | [],_,_,_,_,_=>rfl
 | c :: r,acc,n,h,ha,hl=>by
   have hc:48 ≤ c.toNat∧c.toNat ≤ 57:=by
    have:=h c (by simp)
    simp only [digitB,inB,Bool.and_eq_true,decide_eq_true_eq] at this;omega
   have h8:10 ^ n ≤ 10 ^ 7:=Nat.pow_le_pow_right (by omega) (by simp at hl;omega)
   have hn:acc * 10 + (c.toNat - 48) < 10 ^ (n + 1):=by rw [Nat.pow_succ];omega
   simp only [parseUint10,hc,and_self,if_true,List.foldl_cons]
   have e7:(10:Nat) ^ 7 = 10000000:=rfl
   rw [if_neg (by omega),if_neg (by omega)]
   exact parse_digits r _ (n + 1) (fun d hd=>h d (by simp [hd])) hn (by simp at hl;omega)
theorem atoi_digits {l:List UInt8} (h:∀ c ∈ l,digitB c = true) (h0:l ≠ []) (h4:l.length ≤ 4):atoiAll l = .ok ((decN l:Nat):Int):=by
 cases l with
 | nil=>exact absurd rfl h0
 | cons c r=>
   have hc:48 ≤ c.toNat∧c.toNat ≤ 57:=by
    have:=h c (by simp)
    simp only [digitB,inB,Bool.and_eq_true,decide_eq_true_eq] at this;omega
   have hp:=parse_digits (c :: r) 0 0 h (by simp) (by simp at h4 ⊢;omega)
   have hm:parseMag (c :: r) = .ok (decN (c :: r)):=by simp only [parseMag,decN];rw [if_neg (by simp),hp]
   have hb:decN (c :: r) < 10 ^ 8:=by
    have key:∀ (l:List UInt8) (acc n:Nat),(∀ c ∈ l,digitB c = true)→acc < 10 ^ n→l.foldl (fun n c=>n * 10 + (c.toNat - 48)) acc < 10 ^ (n + l.length):=by
     intro l
     induction l with
     | nil=>intro acc n _ ha;simpa using ha
     | cons c r ih=>
       intro acc n h ha
       have hc:48 ≤ c.toNat∧c.toNat ≤ 57:=by
        have:=h c (by simp)
        simp only [digitB,inB,Bool.and_eq_true,decide_eq_true_eq] at this;omega
       have hn:acc * 10 + (c.toNat - 48) < 10 ^ (n + 1):=by rw [Nat.pow_succ];omega
       have:=ih _ (n + 1) (fun d hd=>h d (by simp [hd])) hn
       simp only [List.foldl_cons,List.length_cons]
       rwa [show n + (r.length + 1) = n + 1 + r.length by omega]
    have:=key (c :: r) 0 0 h (by simp)
    refine Nat.lt_of_lt_of_le this (Nat.pow_le_pow_right (by omega) (by simp at h4 ⊢;omega))
   have e8:(10:Nat) ^ 8 = 100000000:=rfl
   simp only [atoiAll]
   rw [if_neg (by omega),hm]
   simp only
   rw [if_neg (by omega),if_neg (by omega),if_neg (by omega)]
end Go.Proofs.LF
namespace Go.Proofs.LF
open Go.RowKit Go.Sort
set_option maxHeartbeats 4000000
set_option maxRecDepth 100000
attribute [local go_sem] bs_toList bs_size bs_get
theorem isKeyP_any (n:List UInt8) (l:List Int) (an ab:Option Addr) (cn sl cb K:Nat) (k:Ky) (S:Nat→Prop) (w:World) (hl:Ints S w (.slice an l.length cn) l) (hS:∀ b,S b→b < w.heap.size)
 (hK:K < w.heap.size) (h0:w.cell? ⟨K,0,none⟩ = some (.string (bs k.n))) (h1:w.cell? ⟨K,1,none⟩ = some (.bool k.h)) (h2:w.cell? ⟨K,2,none⟩ = some (.int .i64 k.x)) :
 Calls Tryz.prog 135 #[.agg #[.string (bs n), .slice an l.length cn, .slice ab sl cb], .pointer (some ⟨K,0,none⟩)] w fun e w'=>e = .returned (.bool (decide (kyOf n l = k)))∧Below w.heap.size w w':=by
 have hb:Below w.heap.size w (w.alloc (.cells #[.string (bs n), .slice an l.length cn, .slice ab sl cb] 85)):=(Below.refl _ _).alloc (nl_ _) _
 have HB:=hid hb
 have HL:=hid hl
 have HS:=hid hS
 clear hl hS hb
 obtain ⟨kk,hkk⟩:∃ kk,kyOf n l = kk:=⟨_,rfl⟩
 have hdec:decide (kyOf n l = k) = (kk.n == k.n && (kk.h == k.h && kk.x == k.x)):=by
  rw [hkk]
  obtain ⟨an,ah,ax⟩:=kk
  obtain ⟨bn,bh,bx⟩:=k
  by_cases h1:an = bn <;> by_cases h2:ah = bh <;> by_cases h3:ax = bx <;> simp [h1,h2,h3]
 have HDEC:=hid hdec
 have HKK:=hid hkk
 clear hdec hkk
 cases hn:(kk.n == k.n) <;> cases hh:(kk.h == k.h) <;> cases hx:(kk.x == k.x)
 all_goals
  go_enter Tryz.func135,Tryz.ntmps135
  go_wp2_with fail
  go_region_held3 (fun w'=>w'.cell? ⟨w.heap.size,0,none⟩ = some (.string (bs n))∧w'.cell? ⟨w.heap.size,1,none⟩ = some (.slice an l.length cn)∧w'.cell? ⟨w.heap.size,2,none⟩ = some (.slice ab sl cb)∧w'.cell? ⟨K,0,none⟩ = some (.string (bs k.n))∧w'.cell? ⟨K,1,none⟩ = some (.bool k.h)∧w'.cell? ⟨K,2,none⟩ = some (.int .i64 k.x))
   (first
     | (go_split_ands
        with_reducible refine ⟨bc_ hb1 ?_ ?_,bc_ hb1 ?_ ?_,bc_ hb1 ?_ ?_,bc_ hb1 ?_ ?_,bc_ hb1 ?_ ?_,bc_ hb1 ?_ ?_⟩
        all_goals (first | (with_reducible assumption) | (simp;done) | (simp;omega)))
     | go_keep)
   (first
     | (go_at_call 136; refine (key_any n l an cn (.slice ab sl cb) S _ (HL.out.agree (Ag_b HB.out.drew HS.out)) (fun b hb => by have := HS.out b hb; simp; omega) ab sl cb rfl).mono ?_
        rintro e w1 ⟨rfl,hb1⟩
        rw [HKK.out]))
  go_wp2_with fail
  go_ret
  have hb1':Below (w.alloc (.cells #[.string (bs n), .slice an l.length cn, .slice ab sl cb] 85)).heap.size (w.alloc (.cells #[.string (bs n), .slice an l.length cn, .slice ab sl cb] 85)) w1:=⟨hb1.os,hb1.tape,hb1.output,hb1.size,hb1.block⟩
  exact ⟨by rw [HDEC.out,hn,hh,hx];simp,HB.out.trans (hb1'.mono (by simp))⟩
theorem isKP_node {S:Nat→Prop} {w:World} {y:Fo} {a:Option Addr} {c:Nat} {cs:List Value} {K:Nat} {k:Ky} (hs:SlC S w 3 (.slice a y.len c) y.len cs) (hf:FCs S w y cs) (hS:∀ b,S b→b < w.heap.size)
 (hK:K < w.heap.size) (h0:w.cell? ⟨K,0,none⟩ = some (.string (bs k.n))) (h1:w.cell? ⟨K,1,none⟩ = some (.bool k.h)) (h2:w.cell? ⟨K,2,none⟩ = some (.int .i64 k.x)) :
 ∀ i,i < y.len→PredC 135 [.pointer (some ⟨K,0,none⟩)] w [elemV 3 cs i] (decide (keyAt y i = some k)):=by
 intro i hi W hW
 obtain ⟨n,l,s,r,hd⟩:=Fo.drop_lt hi
 have hf':=hf.drop (i:=i)
 rw [hd] at hf'
 obtain ⟨vn,vs,cs',he,hI,⟨ds,hsb,_⟩,_⟩:=hf'
 obtain ⟨an,cn,rfl,_⟩:=SlC.shape hI
 obtain ⟨ab,cb,rfl,_⟩:=SlC.shape hsb
 have e:∀ j,cs[i * 3 + j]? = (Value.string (bs n) :: Value.slice an l.length cn :: Value.slice ab s.len cb :: cs')[j]?:=fun j=>by rw [← he,List.getElem?_drop]
 have hel:elemV 3 cs i = .agg #[.string (bs n), .slice an l.length cn, .slice ab s.len cb]:=by
  have e0:=e 0
  have e1:=e 1
  have e2:=e 2
  rw [Nat.add_zero] at e0
  simp [elemV,List.range_succ,List.getD_eq_getElem?_getD,e0,e1,e2]
 have hk:keyAt y i = some (kyOf n l):=by simp [keyAt,hd]
 rw [hel,hk]
 have hag:Agree S w W:=Ag_b hW hS
 have:=isKeyP_any n l an ab cn s.len cb K k S W (SlC.agree hI hag) (fun b hb=>by have:=hS b hb;have:=hW.size;omega) (by have:=hW.size;omega) (bc_ hW hK h0) (bc_ hW hK h1) (bc_ hW hK h2)
 simpa using this
theorem enters135:Enters 135:=by intro args W;simp [go_sem]
end Go.Proofs.LF
namespace Go.Proofs.LF
open Go.ChangeShapes Go.WideShapes Go.RowKit
set_option maxRecDepth 100000
set_option maxHeartbeats 4000000
section
variable {H:Type} {enc:TypeId × Value→H} {W:World}
theorem read_node {fuel:Nat} {cs:Array Value} {x:DataW H × List MemPlace} (hl:cs.size = 3) (h:DataW.trod enc Tryz.prog W 0 (fun _=>true) true fuel 85 cs.toList = some x) :
 ∃ n l s an cn ab cb,cs = #[.string (bs n), .slice an l.length cn, .slice ab s.len cb]∧Ints (fun b=>b < W.heap.size) W (.slice an l.length cn) l∧FSl (fun b=>b < W.heap.size) W (.slice ab s.len cb) s:=by
 obtain ⟨xs,m,hnm,_,_,hxl,hfs⟩:=DataW.trod_struct Tryz.underlying85 h
 obtain ⟨L,rfl⟩:∃ L,cs = L.toArray:=⟨cs.toList,rfl⟩
 match L,hl with
 | [c0,c1,c2],_=>
   have f0:=hfs 0 _ rfl
   have f1:=hfs 1 _ rfl
   have f2:=hfs 2 _ rfl
   change DataW.trod enc Tryz.prog W 0 (fun _=>true) true m 9 (([c0,c1,c2].drop 0).take (Tryz.prog.cellsOf 9)) = xs[0]? at f0
   change DataW.trod enc Tryz.prog W 0 (fun _=>true) true m 66 (([c0,c1,c2].drop 1).take (Tryz.prog.cellsOf 66)) = xs[1]? at f1
   change DataW.trod enc Tryz.prog W 0 (fun _=>true) true m 22 (([c0,c1,c2].drop 2).take (Tryz.prog.cellsOf 22)) = xs[2]? at f2
   rw [cells9] at f0
   rw [cells66] at f1
   rw [cells22'] at f2
   have g0:DataW.trod enc Tryz.prog W 0 (fun _=>true) true m 9 [c0] = xs[0]?:=f0
   have g1:DataW.trod enc Tryz.prog W 0 (fun _=>true) true m 66 [c1] = xs[1]?:=f1
   have g2:DataW.trod enc Tryz.prog W 0 (fun _=>true) true m 22 [c2] = xs[2]?:=f2
   have hx3:xs.length = 3:=hxl
   rw [List.getElem?_eq_getElem (by omega)] at g0 g1 g2
   obtain ⟨s,hs,_⟩:=DataW.trod_string Tryz.underlying9 g0
   obtain rfl:c0 = .string s:=by simpa using hs
   obtain ⟨l,hI⟩:=read_ints g1
   obtain ⟨y,hF⟩:=read_nodes m c2 _ g2
   obtain ⟨a1,k1,rfl,_,_⟩:=SlC.shape hI
   obtain ⟨a2,k2,rfl,_,_⟩:=FSl.at hF
   refine ⟨s.data.toList,l,y,a1,k1,a2,k2,by rw [bs_of],hI,hF⟩
end
end Go.Proofs.LF
namespace Go.Proofs.LF
open Go.RowKit Go.Sort
set_option maxHeartbeats 4000000
set_option maxRecDepth 100000
attribute [local go_sem] bs_toList bs_size bs_get
theorem cmpKN_any (n:List UInt8) (l:List Int) (an ab:Option Addr) (cn sl cb:Nat) (k:Ky) (S:Nat→Prop) (w:World) (hl:Ints S w (.slice an l.length cn) l) (hS:∀ b,S b→b < w.heap.size) :
 Calls Tryz.prog 204 #[.agg #[.string (bs n), .slice an l.length cn, .slice ab sl cb], .agg #[.string (bs k.n), .bool k.h, .int .i64 k.x]] w fun e w'=>e = .returned (.int .i64 (byK (kyOf n l) k))∧Below w.heap.size w w':=by
 obtain ⟨W,hW⟩:∃ W,W = (w.alloc (.cells #[.string (bs n), .slice an l.length cn, .slice ab sl cb] 85)).alloc (.cells #[.string (bs k.n), .bool k.h, .int .i64 k.x] 71):=⟨_,rfl⟩
 have hb:Below w.heap.size w W:=by rw [hW];exact ((Below.refl _ _).alloc (nl_ _) _).alloc (by simp) _
 have hWs:W.heap.size = w.heap.size + 1 + 1:=by rw [hW];simp
 have HB:=hid hb
 have HWS:=hid hWs
 have HL:=hid (hl.agree (Ag_b hb hS))
 have HS:=hid hS
 clear hl hS hb hWs
 obtain ⟨kk,hkk⟩:∃ kk,kyOf n l = kk:=⟨_,rfl⟩
 have HKK:=hid hkk
 rw [hkk]
 clear hkk
 subst hW
 go_enter Tryz.func204,Tryz.ntmps204
 go_wp2_with fail
 go_region_held3 (fun w'=>w'.cell? ⟨w.heap.size,0,none⟩ = some (.string (bs n))∧w'.cell? ⟨w.heap.size,1,none⟩ = some (.slice an l.length cn)∧w'.cell? ⟨w.heap.size,2,none⟩ = some (.slice ab sl cb)∧w'.cell? ⟨w.heap.size + 1,0,none⟩ = some (.string (bs k.n))∧w'.cell? ⟨w.heap.size + 1,1,none⟩ = some (.bool k.h)∧w'.cell? ⟨w.heap.size + 1,2,none⟩ = some (.int .i64 k.x))
  (first
    | (go_split_ands
       with_reducible refine ⟨bc_ hb1 ?_ ?_,bc_ hb1 ?_ ?_,bc_ hb1 ?_ ?_,bc_ hb1 ?_ ?_,bc_ hb1 ?_ ?_,bc_ hb1 ?_ ?_⟩
       all_goals (first | (with_reducible assumption) | (simp;done) | (simp;omega)))
    | (go_split_ands
       with_reducible refine ⟨bc_ hb2 ?_ ?_,bc_ hb2 ?_ ?_,bc_ hb2 ?_ ?_,bc_ hb2 ?_ ?_,bc_ hb2 ?_ ?_,bc_ hb2 ?_ ?_⟩
       all_goals (first | (with_reducible assumption) | (have:=hb1.size;simp at this ⊢;omega)))
    | go_keep)
  (first
    | (go_at_call 136; refine (key_any n l an cn (.slice ab sl cb) S _ (HL.out.agree (Ag_b (Below.refl _ _).drew (fun b hb => by have := HS.out b hb; have := HWS.out; omega))) (fun b hb => by have := HS.out b hb; simp; omega) ab sl cb rfl).mono ?_
       rintro e w1 ⟨rfl,hb1⟩
       rw [HKK.out])
    | (go_at_call 183; refine (byKey_any kk k _).mono ?_
       rintro e w2 ⟨rfl,hb2⟩))
 go_wp2_with fail
 go_ret
 exact ⟨rfl,HB.out.drew.trans ((hb1.mono (show w.heap.size ≤ _ by simp;omega)).trans (hb2.mono (show w.heap.size ≤ _ by have:=hb1.size;simp at this;omega)))⟩
def keyD (y:Fo) (i:Nat):Ky:=(keyAt y i).getD ky0
def fndN (y:Fo) (k:Ky):Nat:=bsF (fun h=>decide (byK (keyD y h) k < 0)) 0 y.len
theorem bsearchN_any (y:Fo) (k:Ky) (al:Option Addr) (cl:Nat) (S:Nat→Prop) (w:World) (hv:FSl S w (.slice al y.len cl) y) (hS:∀ b,S b→b < w.heap.size) (hl:y.len ≤ 1000) :
 Calls Tryz.prog 203 #[.slice al y.len cl, .agg #[.string (bs k.n), .bool k.h, .int .i64 k.x], .func (.func 204) #[] #[]] w fun e w'=>e = .returned (.tuple #[.int .i64 (fndN y k), .bool (decide (fndN y k < y.len) && decide (byK (keyD y (fndN y k)) k = 0))])∧Below w.heap.size w w':=by
 obtain ⟨a',c',he,hc,hcm,hat⟩:=hv.at
 obtain ⟨rfl,rfl⟩:al = a'∧cl = c':=by cases he;exact ⟨rfl,rfl⟩
 have HAT:=hid hat
 have HS:=hid hS
 clear hat hS he hv
 unfold maxLen at hcm
 have hcall:∀ (i:Nat) (hi:i < y.len),∃ g o n l s an cn ab cb,al = some ⟨g,o,none⟩∧keyD y i = kyOf n l∧g < w.heap.size∧∀ W,Below w.heap.size w W→W.cell? ⟨g,o + i * 3,none⟩ = some (.string (bs n))∧W.cell? ⟨g,o + i * 3 + 1,none⟩ = some (.slice an l.length cn)∧W.cell? ⟨g,o + i * 3 + 2,none⟩ = some (.slice ab (Fo.len s) cb) ∧
  Hid (Calls Tryz.prog 204 #[.agg #[.string (bs n), .slice an l.length cn, .slice ab (Fo.len s) cb], .agg #[.string (bs k.n), .bool k.h, .int .i64 k.x]] W fun e w'=>e = .returned (.int .i64 (byK (kyOf n l) k))∧Below W.heap.size W w'):=by
  intro i hi
  obtain ⟨g,o,n,l,s,r,an,cn,ab,cb,rfl,hg,hd,m0,m1,m2,hI,hF⟩:=HAT.out i hi
  refine ⟨g,o,n,l,s,an,cn,ab,cb,rfl,by simp [keyD,keyAt,hd],HS.out g hg,fun W hB=>?_⟩
  have ha:Agree S w W:=Ag_b hB HS.out
  refine ⟨ha.cell hg m0,ha.cell hg m1,ha.cell hg m2,cmpKN_any n l an ab cn s.len cb k S W (hI.agree ha) (fun b hb=>by have:=hB.size;have:=HS.out b hb;omega)⟩
 have HC:=hid hcall
 clear hcall HAT
 have hb0:Below w.heap.size w (w.alloc (.cells #[.string (bs k.n), .bool k.h, .int .i64 k.x] 71)):=(Below.refl _ _).alloc (nl_ _) _
 have HB0:=hid hb0
 have HN0:=hid (heap_alloc_new w (.cells #[.string (bs k.n), .bool k.h, .int .i64 k.x] 71))
 clear hb0
 go_enter Tryz.func203,Tryz.ntmps203
 go_wp2_with fail
 go_loopw [9,10] (fun vi vj wr=>∃ i j:Nat,vi = .int .i64 i∧vj = .int .i64 j∧i ≤ j∧j ≤ y.len∧Hid (fndN y k = bsF (fun h=>decide (byK (keyD y h) k < 0)) i j)∧Hid (wr.heap[w.heap.size]? = some (.cells #[.string (bs k.n), .bool k.h, .int .i64 k.x] 71 (0,0)))∧Below w.heap.size w wr) (fun vi vj _=>(intOf vj).toNat - (intOf vi).toNat)
 case atStart=>exact ⟨0,y.len,rfl,rfl,Nat.zero_le _,nl_ _,rfl,HN0.out,HB0.out⟩
 case round=>
  obtain ⟨i,j,rfl,rfl,hij,hjl,hF,hK,hB⟩:=hrel
  have hsz:=hB.size
  have hszK:w.heap.size < wr.heap.size:=(Array.getElem?_eq_some_iff.1 hK.out).1
  have e0:=cg_ hK.out (k:=0) rfl
  have e1:=cg_ hK.out (k:=1) rfl
  have e2:=cg_ hK.out (k:=2) rfl
  by_cases hlt:i < j
  · have hlt':(i:Int) < (j:Int):=by omega
    obtain ⟨h,hh⟩:∃ h,(i + j) / 2 = h:=⟨_,rfl⟩
    have hhi:((i:Int) + (j:Int)) / 2 = (h:Int):=by omega
    have hhl:h < y.len:=by omega
    have hbi:i ≤ h:=by omega
    have hbj:h < j:=by omega
    have hhl':(h:Int) < (y.len:Int):=by omega
    have hh0:(0:Int) ≤ (h:Int):=by omega
    obtain ⟨g,o,n,l,s,an,cn,ab,cb,rfl,hkd,hgl,H9⟩:=HC.out h hhl
    obtain ⟨c0,c1,c2,_⟩:=H9 wr hB
    have H:=hid ((H9 wr.drew hB.drew).2.2.2.out)
    clear H9
    have hF2:=hF.out
    rw [bsF_go hlt,hh] at hF2
    simp only [hkd,decide_eq_true_eq] at hF2
    have HF:=hid hF2
    clear hF2 hh hkd
    go_wp2_with fail
    go_region_held3 (fun w'=>w'.cell? ⟨g,o + h * 3,none⟩ = some (.string (bs n))∧w'.cell? ⟨g,o + h * 3 + 1,none⟩ = some (.slice an l.length cn)∧w'.cell? ⟨g,o + h * 3 + 2,none⟩ = some (.slice ab s.len cb)∧w'.cell? ⟨w.heap.size,0,none⟩ = some (.string (bs k.n))∧w'.cell? ⟨w.heap.size,1,none⟩ = some (.bool k.h)∧w'.cell? ⟨w.heap.size,2,none⟩ = some (.int .i64 k.x))
     (first
       | (go_split_ands
          with_reducible refine ⟨bc_ hb3 ?_ ?_,bc_ hb3 ?_ ?_,bc_ hb3 ?_ ?_,bc_ hb3 ?_ ?_,bc_ hb3 ?_ ?_,bc_ hb3 ?_ ?_⟩
          all_goals (first | (with_reducible assumption) | (simp;done) | (simp;omega)))
       | go_keep)
     (first
       | (go_at_call 204; refine H.out.mono ?_
          rintro e w2 ⟨rfl,hb3⟩))
    have HB:=hid (hB.drew.trans (hb3.mono (show w.heap.size ≤ _ by simpa using hsz)))
    have HK2:=hid ((hb3.block w.heap.size hszK).trans hK.out)
    clear hb3
    by_cases hneg:byK (kyOf n l) k < 0
    · have hF3:=HF.out
      rw [if_pos hneg] at hF3
      have HF3:=hid hF3
      clear hF3
      go_wp2_with fail
      go_roundw
      case rel=>exact ⟨h + 1,j,by go_num,rfl,by omega,hjl,HF3.out,HK2.out,HB.out⟩
      case measure=>simp [intOf];omega
    · have hF3:=HF.out
      rw [if_neg hneg] at hF3
      have HF3:=hid hF3
      clear hF3
      go_wp2_with fail
      go_roundw
      case rel=>exact ⟨i,h,rfl,rfl,hbi,by omega,HF3.out,HK2.out,HB.out⟩
      case measure=>simp [intOf];omega
  · obtain rfl:i = j:=by omega
    have hlt':¬ (i:Int) < (i:Int):=by omega
    have hF2:=hF.out
    clear hF2
    by_cases hil:i < y.len
    · have hil':(i:Int) < (y.len:Int):=by omega
      obtain ⟨g,o,n,l,s,an,cn,ab,cb,rfl,hkd,hgl,H9⟩:=HC.out i hil
      obtain ⟨c0,c1,c2,_⟩:=H9 wr hB
      have H:=hid ((H9 wr.drew hB.drew).2.2.2.out)
      clear H9
      go_wp2_with fail
      go_region_held3 (fun w'=>w'.cell? ⟨g,o + i * 3,none⟩ = some (.string (bs n))∧w'.cell? ⟨g,o + i * 3 + 1,none⟩ = some (.slice an l.length cn)∧w'.cell? ⟨g,o + i * 3 + 2,none⟩ = some (.slice ab s.len cb)∧w'.cell? ⟨w.heap.size,0,none⟩ = some (.string (bs k.n))∧w'.cell? ⟨w.heap.size,1,none⟩ = some (.bool k.h)∧w'.cell? ⟨w.heap.size,2,none⟩ = some (.int .i64 k.x))
       (first
         | (go_split_ands
            with_reducible refine ⟨bc_ hb3 ?_ ?_,bc_ hb3 ?_ ?_,bc_ hb3 ?_ ?_,bc_ hb3 ?_ ?_,bc_ hb3 ?_ ?_,bc_ hb3 ?_ ?_⟩
            all_goals (first | (with_reducible assumption) | (simp;done) | (simp;omega)))
         | go_keep)
       (first
         | (go_at_call 204; refine H.out.mono ?_
            rintro e w2 ⟨rfl,hb3⟩))
      have HB:=hid (hB.drew.trans (hb3.mono (show w.heap.size ≤ _ by simpa using hsz)))
      clear hb3
      go_wp2_with fail
      go_ret2
      have hF2:=hF.out
      rw [bsF_stop (by omega)] at hF2
      exact ⟨by rw [hF2,hkd];simp [hil];rfl,HB.out⟩
    · obtain rfl:i = y.len:=by omega
      go_wp2_with fail
      go_quiet (fail)
      have HB3:=hid (below_drewN hB nq)
      go_wp2_with fail
      go_ret2
      have hF2:=hF.out
      rw [bsF_stop (by omega)] at hF2
      exact ⟨by rw [hF2];simp,HB3.out⟩
end Go.Proofs.LF
namespace Go.Proofs.LF
open Go.RowKit Go.Sort
set_option maxHeartbeats 4000000
set_option maxRecDepth 100000
attribute [local go_sem] bs_toList bs_size bs_get
theorem key_cells {p:List Ky} {k:Nat} (h:k < p.length):(p.flatMap Ky.cells)[k * 3]? = some (.string (bs p[k].n))∧(p.flatMap Ky.cells)[k * 3 + 1]? = some (.bool p[k].h)∧(p.flatMap Ky.cells)[k * 3 + 2]? = some (.int .i64 p[k].x):=by
 have e:p.flatMap Ky.cells = (p.take k).flatMap Ky.cells ++ (Ky.cells p[k] ++ (p.drop (k + 1)).flatMap Ky.cells):=by
  conv=>lhs;rw [← List.take_append_drop k p,List.drop_eq_getElem_cons h]
  rw [List.flatMap_append,List.flatMap_cons]
 have hl:((p.take k).flatMap Ky.cells).length = k * 3:=by rw [len_keys,List.length_take];congr 1;omega
 rw [e]
 refine ⟨?_,?_,?_⟩ <;> rw [List.getElem?_append_right (by omega),hl] <;> simp [Ky.cells]
theorem cmpPaths_any (p q:List Ky) (ap aq:Option Addr) (cp cq:Nat) (S:Nat→Prop) (w:World) (hp:Pth S w (.slice ap p.length cp) p) (hq:Pth S w (.slice aq q.length cq) q) (hS:∀ b,S b→b < w.heap.size) (lp:p.length ≤ 1000) (lq:q.length ≤ 1000) :
 Calls Tryz.prog 191 #[.slice ap p.length cp, .slice aq q.length cq, .func (.func 183) #[] #[]] w fun e w'=>e = .returned (.int .i64 (cmpP p q))∧Below w.heap.size w w':=by
 go_enter Tryz.func191,Tryz.ntmps191
 go_wp2_with fail
 go_loopw [13] (fun i wr=>∃ k:Nat,k ≤ p.length∧k ≤ q.length∧i = .int .i64 k∧Hid (cmpP p q = cmpP (p.drop k) (q.drop k))∧Below w.heap.size w wr) (fun i _=>p.length - (intOf i).toNat)
 case atStart=>exact ⟨0,by omega,by omega,rfl,by simp [Hid],Below.refl _ _⟩
 case round=>
  obtain ⟨k,hk,hk2,rfl,hN,hB⟩:=hrel
  have hsz:=hB.size
  by_cases hA:k < p.length
  · obtain ⟨g,o,rfl,hg,_,_,hcell⟩:=SlC.cells hp (by omega)
    obtain ⟨k0,k1,k2⟩:=key_cells hA
    have ha:=Ag_b hB hS
    have c0:=ha.cell hg (hcell _ _ k0)
    have c1:=ha.cell hg (hcell _ _ k1)
    have c2:=ha.cell hg (hcell _ _ k2)
    rw [← Nat.add_assoc] at c1 c2
    by_cases hB2:k < q.length
    · have a2:¬ (q.length:Int) ≤ (k:Int):=by omega
      have a3:(k:Int) < (q.length:Int):=by omega
      obtain ⟨g',o',rfl,hg',_,_,hcell'⟩:=SlC.cells hq (by omega)
      obtain ⟨k0',k1',k2'⟩:=key_cells hB2
      have hbx:Below w.heap.size w (wr.alloc (.cells #[.string (bs p[k].n), .bool p[k].h, .int .i64 p[k].x] 71)):=hB.alloc hsz _
      have hax:=Ag_b hbx hS
      have d0:=hax.cell hg' (hcell' _ _ k0')
      have d1:=hax.cell hg' (hcell' _ _ k1')
      have d2:=hax.cell hg' (hcell' _ _ k2')
      rw [← Nat.add_assoc] at d1 d2
      have hd:cmpP (p.drop k) (q.drop k) = if byK p[k] q[k] ≠ 0 then byK p[k] q[k] else cmpP (p.drop (k + 1)) (q.drop (k + 1)):=by
       rw [List.drop_eq_getElem_cons hA,List.drop_eq_getElem_cons hB2];rfl
      have HD:=hid hd
      have HBX:=hid hbx
      clear hcell k0 k1 k2 hcell' k0' k1' k2' hd hbx hax
      go_wp2_with fail
      refine (byKey_any p[k] q[k] _).mono ?_
      rintro e w2 ⟨rfl,hb2⟩
      have hz2:=HBX.out.size
      have HB2:=hid (HBX.out.trans ((((Below.refl _ _).alloc (nl_ _) _).trans (hb2.mono (by simp))).mono hz2))
      clear hz2 hb2
      by_cases he:byK p[k] q[k] = 0
      · have he':(byK p[k] q[k] != 0) = false:=by simpa using he
        have HE:=hid he
        clear he
        go_wp2_with fail
        go_roundw
        case rel=>exact ⟨k + 1,by omega,by omega,by go_num,by rw [Hid,hN.out,HD.out,if_neg (by simpa using HE.out)],HB2.out⟩
        case measure=>simp [intOf];omega
      · have he':(byK p[k] q[k] != 0) = true:=by simpa using he
        have HE:=hid he
        clear he
        go_wp2_with fail
        go_ret
        exact ⟨ret_int (by rw [hN.out,HD.out,if_pos (by simpa using HE.out)]),HB2.out⟩
    · have a2:(q.length:Int) ≤ (k:Int):=by omega
      have hd:cmpP (p.drop k) (q.drop k) = 1:=by
       rw [List.drop_eq_getElem_cons hA,List.drop_eq_nil_of_le (by omega:q.length ≤ k)];rfl
      clear hcell k0 k1 k2
      go_wp2_with fail
      go_ret
      exact ⟨ret_int (by rw [hN.out,hd]),hB.alloc hsz _⟩
  · have hA':¬ (k:Int) < (p.length:Int):=by omega
    obtain rfl:k = p.length:=by omega
    by_cases hB2:p.length < q.length
    · have a2:(p.length:Int) < (q.length:Int):=by omega
      have hd:cmpP (p.drop p.length) (q.drop p.length) = -1:=by
       rw [List.drop_eq_getElem_cons hB2,List.drop_length];rfl
      go_wp2_with fail
      go_ret
      exact ⟨ret_int (by rw [hN.out,hd]),hB⟩
    · have a2:¬ (p.length:Int) < (q.length:Int):=by omega
      have hd:cmpP (p.drop p.length) (q.drop p.length) = 0:=by
       rw [List.drop_length,List.drop_eq_nil_of_le (by omega)];rfl
      go_wp2_with fail
      go_ret
      exact ⟨ret_int (by rw [hN.out,hd]),hB⟩
theorem byPath_any (p q:List Ky) (ap aq:Option Addr) (cp cq:Nat) (S:Nat→Prop) (w:World) (hp:Pth S w (.slice ap p.length cp) p) (hq:Pth S w (.slice aq q.length cq) q) (hS:∀ b,S b→b < w.heap.size) (lp:p.length ≤ 1000) (lq:q.length ≤ 1000) :
 Calls Tryz.prog 103 #[.slice ap p.length cp, .slice aq q.length cq] w fun e w'=>e = .returned (.int .i64 (cmpP p q))∧Below w.heap.size w w':=by
 have H:=hid (cmpPaths_any p q ap aq cp cq S w hp hq hS lp lq)
 go_enter Tryz.func103,Tryz.ntmps103
 go_wp2_with fail
 refine H.out.mono ?_
 rintro e w1 ⟨rfl,hb1⟩
 go_wp2_with fail
 go_ret
 exact ⟨rfl,hb1⟩
end Go.Proofs.LF
namespace Go.Proofs.LF
open Go.RowKit Go.Sort
set_option maxHeartbeats 4000000
set_option maxRecDepth 100000
attribute [local go_sem] bs_toList bs_size bs_get
abbrev PthU (S:Nat→Prop) (w:World) (v:Value) (p:List Ky):Prop:=Pth (US S w) w v p
theorem PthU.agree {S:Nat→Prop} {w w':World} {v:Value} {p:List Ky} (h:PthU S w v p) (ha:Agree S w w'):PthU S w' v p:=(Pth.agree h (US.agree ha).1).wide (US.agree ha).2
theorem PthU.wide {S S':Nat→Prop} {w:World} {v:Value} {p:List Ky} (h:PthU S w v p) (hs:∀ b,S b→S' b):PthU S' w v p:=Pth.wide h (US.wide hs)
theorem Stable.pthu (v:Value) (p:List Ky):Stable (fun S w=>PthU S w v p):=⟨fun h=>PthU.agree h,fun h=>PthU.wide h⟩
theorem cloneK_u (p:List Ky) (a:Option Addr) (c:Nat) (S:Nat→Prop) (w:World) (hv:Pth S w (.slice a p.length c) p) (hS:∀ b,S b→b < w.heap.size) (hlen:p.length ≤ 1000) :
 Calls Tryz.prog 117 #[.slice a p.length c] w fun e w'=>∃ a' c',e = .returned (.slice a' p.length c')∧PthU (Rg w.heap.size w'.heap.size) w' (.slice a' p.length c') p∧Below w.heap.size w w':=by
 obtain ⟨j0,hj0,hy0,hy1,hy2⟩:=info_parts Tryz.info71'
 have hcaps:=SlC.caps hv
 have hlk:=len_keys p
 have q65:∀ (w:World) (a:Option Addr) (n c:Nat),(binOp .eql 65 (.slice a n c) (.slice none 0 0)).run Tryz.prog w = .ok (.bool a.isNone) w:=fun w a n c=>Lib.run_eql_slice_nil w 65 71 a n c 0 0 Tryz.underlying65
 cases a with
 | none=>
   obtain ⟨h0,rfl⟩:=hcaps.2.2 rfl
   obtain rfl:p = []:=List.eq_nil_of_length_eq_zero h0
   simp only [List.length_nil]
   go_enter Tryz.func117,Tryz.ntmps117
   go_wp2_with fail
   go_ret
   exact ⟨none,0,rfl,⟨rfl,none,0,rfl,nl_ _,by simp [maxLen],fun _=>rfl, .inl rfl⟩,Below.refl _ _⟩
 | some ad=>
   have hbel:Below w.heap.size w (w.alloc (.cells #[] 71)):=(Below.refl _ _).alloc (nl_ _) _
   have hnews:=SlC.news hv (Ag_b hbel hS)
   have how:(w.alloc (.cells #[] 71)).ownsRow w.heap.size 71 3 (.slice (some ⟨w.heap.size,0,none⟩) 0 0) 0 []:=owns_of_row (n:=0) (cap:=0) (cur:=#[]) (nl_ _) (heap_alloc_new _ _) (by omega) (by unfold maxLen;omega) (by simp) (by simp)
   have HB:=hid hbel
   clear hbel hv
   go_enter Tryz.func117,Tryz.ntmps117
   go_wp2_with (at_builtin;go_loud (refine wpList_append_ao _ rfl _ _ _ rfl w.heap.size 71 j0 _ 3 32 Tryz.underlying65 hj0 hy0 hy1 hy2 rfl (by omega) _ 0 [] rfl how (some ad) p.length c _ rfl hlk (fun h=>by cases h) hnews (one_keys p) (by unfold maxLen;omega) (by omega) (by simp) ?_);intro a1 c1 w1 hown1 hgrow1 hat1)
   simp only [Nat.zero_add,List.nil_append] at hown1
   go_ret
   refine ⟨a1,c1,by simp,SlC.of_owns_u hown1,HB.out.grown hgrow1 (by simp) (fun b hb=>by cases hb;exact nl_ _)⟩
end Go.Proofs.LF
namespace Go.Proofs.LF
def fiG (p:List Ky):Nat→List Fl→Int
 | _,[] => -1
 | k,x :: l=>if x.p = p then (k:Int) else fiG p (k + 1) l
def fiI (l:List Fl) (p:List Ky):Int:=fiG p 0 l
theorem fiG_cases (p:List Ky):∀ (l:List Fl) (k:Nat),(∃ (j:Nat) (h:j < l.length),fiG p k l = (k:Int) + j∧rfd l p = some l[j]∧l[j].p = p) ∨ (fiG p k l = -1∧rfd l p = none)
 | [],k => .inr ⟨rfl,rfl⟩
 | x :: l,k=>by
   by_cases h:x.p = p
   · exact .inl ⟨0,by simp,by simp [fiG,h],by simp [rfd,h],by simpa using h⟩
   · have e1:fiG p k (x :: l) = fiG p (k + 1) l:=by simp [fiG,h]
     have e2:rfd (x :: l) p = rfd l p:=by simp [rfd,h]
     rw [e1,e2]
     rcases fiG_cases p l (k + 1) with ⟨j,hj,h1,h2,h3⟩ | h1
     · exact .inl ⟨j + 1,by simpa using hj,by rw [h1];omega,by simpa using h2,by simpa using h3⟩
     · exact .inr h1
theorem fi_cases (l:List Fl) (p:List Ky):(∃ (j:Nat) (h:j < l.length),fiI l p = (j:Int)∧rfd l p = some l[j]∧l[j].p = p) ∨ (fiI l p = -1∧rfd l p = none):=by
 rcases fiG_cases p l 0 with ⟨j,hj,h1,h2,h3⟩ | h1
 · exact .inl ⟨j,hj,by rw [fiI,h1];simp,h2,h3⟩
 · exact .inr h1
theorem fiG_step {l:List Fl} {p:List Ky} {k:Nat} {x:Fl} (h:fiI l p = fiG p k (l.drop k)) (hk:k < l.length) (hx:l[k] = x):(x.p = p→fiI l p = (k:Int))∧(x.p ≠ p→fiI l p = fiG p (k + 1) (l.drop (k + 1))):=by
 rw [List.drop_eq_getElem_cons hk,hx] at h
 exact ⟨fun e=>by rw [h,fiG,if_pos e],fun e=>by rw [h,fiG,if_neg e]⟩
theorem fiG_end {l:List Fl} {p:List Ky} (h:fiI l p = fiG p l.length (l.drop l.length)):fiI l p = -1:=by rw [h,List.drop_length];rfl
theorem byK_lt (a b:Ky):decide (byK a b < 0) = befK a b:=by
 have h:decide (0 ≤ byK a b) = !befK a b:=byK_bef' a b
 by_cases h2:byK a b < 0
 · rw [decide_eq_false (by omega)] at h
   rw [decide_eq_true h2];cases hb:befK a b with
   | true=>rfl
   | false=>rw [hb] at h;cases h
 · rw [decide_eq_true (by omega)] at h
   rw [decide_eq_false h2];cases hb:befK a b with
   | false=>rfl
   | true=>rw [hb] at h;cases h
theorem ahead_at {p q:List Ky} {k:Nat} {a b:Ky} (h:p.take k = q.take k) (hp:k < p.length) (hq:k < q.length) (ha:p[k] = a) (hb:q[k] = b) (hne:a ≠ b):decide (cmpP p q < 0) = befK a b:=by
 have e1:p = p.take k ++ a :: p.drop (k + 1):=by rw [← ha,← List.drop_eq_getElem_cons hp,List.take_append_drop]
 have e2:q = p.take k ++ b :: q.drop (k + 1):=by rw [h,← hb,← List.drop_eq_getElem_cons hq,List.take_append_drop]
 have e3:cmpP p q = byK a b:=by
  rw [e1,e2,cmpP_same,cmpP,if_pos]
  intro e;exact hne (byK_ord.eq e)
 rw [e3,byK_lt]
theorem ahead_end {p q:List Ky} {k:Nat} (h:p.take k = q.take k) (h2:k = p.length∧k ≤ q.length ∨ k = q.length∧k ≤ p.length):decide (cmpP p q < 0) = decide (p.length < q.length):=by
 have e1:p = p.take k ++ p.drop k:=(List.take_append_drop k p).symm
 have e2:q = p.take k ++ q.drop k:=by rw [h];exact (List.take_append_drop k q).symm
 have e3:cmpP p q = cmpP (p.drop k) (q.drop k):=by
  conv=>lhs;rw [e1,e2]
  exact cmpP_same _ _ _
 rw [e3]
 rcases h2 with ⟨rfl,h2⟩ | ⟨rfl,h2⟩
 · rw [List.drop_length]
   cases hd:q.drop p.length with
   | nil=>
     have:=congrArg List.length hd
     rw [List.length_drop] at this
     simp only [List.length_nil] at this
     simp [cmpP];omega
   | cons c r=>
     have:=congrArg List.length hd
     rw [List.length_drop] at this
     simp only [List.length_cons] at this
     simp [cmpP];omega
 · rw [List.drop_length]
   cases hd:p.drop q.length with
   | nil=>simp [cmpP];omega
   | cons c r=>simp [cmpP];omega
def putG (x:Fl):Bool→List Fl→List Fl→List Fl
 | d,acc,[]=>if d then acc else acc ++ [x]
 | d,acc,y :: l=>if !d && decide (cmpP x.p y.p < 0) then putG x true (acc ++ [x] ++ [y]) l else putG x d (acc ++ [y]) l
theorem putG_true (x:Fl):∀ (l acc:List Fl),putG x true acc l = acc ++ l
 | [],acc=>by simp [putG]
 | y :: l,acc=>by simp [putG,putG_true x l]
theorem putG_false (x:Fl):∀ (l acc:List Fl),putG x false acc l = acc ++ putR x l
 | [],acc=>by simp [putG,putR]
 | y :: l,acc=>by
   by_cases h:cmpP x.p y.p < 0
   · simp [putG,putR,h,putG_true]
   · simp [putG,putR,h,putG_false x l]
end Go.Proofs.LF
namespace Go.Proofs.LF
open Go.RowKit Go.Sort
set_option maxHeartbeats 4000000
set_option maxRecDepth 100000
attribute [local go_sem] bs_toList bs_size bs_get
theorem idxN_cases (p:Nat→Bool) (n:Nat):(idxN p n = -1∧∀ i,i < n→p i = false) ∨ ∃ i,i < n∧idxN p n = (i:Int)∧p i = true∧∀ j,j < i→p j = false:=by
 unfold idxN
 cases h:(List.range n).find? p with
 | none=>
   left
   rw [List.find?_eq_none] at h
   exact ⟨rfl,fun i hi=>by have:=h i (by simpa using hi);simpa using this⟩
 | some k=>
   right
   rw [List.find?_range_eq_some] at h
   exact ⟨k,by simpa using h.2.1,rfl,h.1,fun j hj=>by have:=h.2.2 j hj;simpa using this⟩
theorem fstK_none {k:Ky} {y:Fo} (h:∀ j,j < y.len→keyAt y j ≠ some k):fstK k y = none:=by
 rw [fstK_drop (i:=y.len) h,Fo.drop_len];rfl
theorem ret132 {tmps:Array Value} {W:World} {b:Nat} {x y z t5:Value} (h:W.heap[b]? = some (.cells #[x,y,z] 85 (0,0))) (h2:tmps.getD 4 undef = .pointer (some ⟨b,0,none⟩)) (h3:tmps.getD 5 undef = t5) :
 (results Tryz.f132 tmps).run Tryz.prog W = .ok (.tuple #[.agg #[x,y,z],t5]) W:=by
 have h0:=cg_ h (k:=0) rfl
 have h1:=cg_ h (k:=1) rfl
 have h4:=cg_ h (k:=2) rfl
 rw [results_cell_tmp rfl,h2,h3]
 simp [go_sem,h0,h1,h4]
theorem node_set {W:World} {b:Nat} {x y z x' y' z':Value} (h:W.heap[b]? = some (.cells #[x,y,z] 85 (0,0))):(((W.setCell ⟨b,0,none⟩ x').setCell ⟨b,1,none⟩ y').setCell ⟨b,2,none⟩ z').heap[b]? = some (.cells #[x',y',z'] 85 (0,0)):=by
 simp [World.setCell,Array.getElem?_modify,h]
def AtR (y:Fo) (p:List Ky) (S:Nat→Prop) (w:World) (e:Ending) (w':World):Prop:=
 ∃ n l s an cn ab cb,(atF y p).getD ([],[], .nil) = (n,l,s)∧e = .returned (.tuple #[.agg #[.string (bs n), .slice an l.length cn, .slice ab s.len cb], .bool (atF y p).isSome]) ∧
  Ints S w' (.slice an l.length cn) l∧FSl S w' (.slice ab s.len cb) s∧Below w.heap.size w w'
theorem at_any (y:Fo) (p:List Ky) (ay ap:Option Addr) (cy cp:Nat) (S T:Nat→Prop) (w:World) (hv:FSl S w (.slice ay y.len cy) y) (hS:∀ b,S b→b < w.heap.size) (hp:Pth T w (.slice ap p.length cp) p) (hT:∀ b,T b→b < w.heap.size)
 (hlen:y.len ≤ 1000) (hsm:y.Sm) (lp:p.length ≤ 1000) :
 Calls Tryz.prog 132 #[.slice ay y.len cy, .slice ap p.length cp] w (AtR y p S w):=by
 have hb0:Below w.heap.size w (w.alloc (.cells #[.string { data:=#[] }, .slice none 0 0, .slice none 0 0] 85)):=(Below.refl _ _).alloc (nl_ _) _
 have HB0:=hid hb0
 have HV:=hid hv
 have HP:=hid hp
 have HS:=hid hS
 have HT:=hid hT
 have HSM:=hid hsm
 clear hb0 hv hp hS hT hsm
 go_enter Tryz.func132,Tryz.ntmps132
 go_wp2_with fail
 go_loopw [0,11] (fun v i wr=>∃ (k:Nat) (yk:Fo) (ak:Option Addr) (ck:Nat),k ≤ p.length∧i = .int .i64 k∧v = .slice ak yk.len ck∧Hid (FSl S w (.slice ak yk.len ck) yk)∧yk.len ≤ 1000∧Hid yk.Sm∧Hid ((k < p.length ∨ k = 0)∧atF y p = atF yk (p.drop k))∧Hid (wr.heap[w.heap.size]? = some (.cells #[.string { data:=#[] }, .slice none 0 0, .slice none 0 0] 85 (0,0)))∧Below w.heap.size w wr) (fun _ i _=>p.length - (intOf i).toNat)
 case atStart=>exact ⟨0,y,ay,cy,Nat.zero_le _,rfl,rfl,HV.out,hlen,HSM.out,⟨.inr rfl,rfl⟩,heap_alloc_new _ _,HB0.out⟩
 case round=>
  obtain ⟨k,yk,ak,ck,hk,rfl,rfl,hF,hl,hsm,hA,hres,hB⟩:=hrel
  have hsz:=hB.size
  have r0:=cg_ hres.out (k:=0) rfl
  have r1:=cg_ hres.out (k:=1) rfl
  have r2:=cg_ hres.out (k:=2) rfl
  have f0:=cells_frz hres.out (k:=0)
  have f1:=cells_frz hres.out (k:=1)
  have f2:=cells_frz hres.out (k:=2)
  by_cases hlt:k < p.length
  · have hlt':(k:Int) < (p.length:Int):=by omega
    obtain ⟨g,o,rfl,hg,_,_,hcell⟩:=SlC.cells HP.out (by omega)
    obtain ⟨k0,k1,k2⟩:=key_cells hlt
    have ha:=Ag_b hB HT.out
    have c0:=ha.cell hg (hcell _ _ k0)
    have c1:=ha.cell hg (hcell _ _ k1)
    have c2:=ha.cell hg (hcell _ _ k2)
    rw [← Nat.add_assoc] at c1 c2
    have hdr:p.drop k = p[k] :: p.drop (k + 1):=List.drop_eq_getElem_cons hlt
    obtain ⟨ky,hky⟩:∃ ky,p[k] = ky:=⟨_,rfl⟩
    rw [hky] at c0 c1 c2 hdr
    have hBa:Below w.heap.size w (wr.alloc (.cells #[.string (bs ky.n), .bool ky.h, .int .i64 ky.x] 71)):=hB.alloc hsz _
    obtain ⟨cs,hcs1,hcs2⟩:=hF.out
    have hagA:=Ag_b hBa HS.out
    have hnew:=heap_alloc_new wr (.cells #[.string (bs ky.n), .bool ky.h, .int .i64 ky.x] 71)
    have HI:=hid (idx_node 202 enters202 (fun i=>decide (keyAt yk i = some ky)) [.pointer (some ⟨wr.heap.size,0,none⟩)] yk.len ak ck cs S _ (hcs1.agree hagA) (fun b hb=>by have:=HS.out b hb;simp;omega) (by omega)
     (isK_node (hcs1.agree hagA) (hcs2.agree hagA) (fun b hb=>by have:=HS.out b hb;simp;omega) (by simp) (cg_ hnew (k:=0) rfl) (cg_ hnew (k:=1) rfl) (cg_ hnew (k:=2) rfl)))
    have HBA:=hid hBa
    have HDR:=hid hdr
    clear hcell k0 k1 k2 hky hdr hBa hcs1 hcs2 hagA hnew ha
    go_wp2_with fail
    refine HI.out.mono ?_
    rintro e w2 ⟨rfl,hb2⟩
    have hB2:=HBA.out.trans (hb2.mono (by simp;omega))
    have hwl:w.heap.size < wr.heap.size:=(Array.getElem?_eq_some_iff.1 hres.out).1
    have hres2:Hid (w2.heap[w.heap.size]? = some (.cells #[.string { data:=#[] }, .slice none 0 0, .slice none 0 0] 85 (0,0))):=(hb2.block _ (by simp;omega)).trans ((heap_alloc_old _ _ (by omega)).trans hres.out)
    have e0:=cg_ hres2.out (k:=0) rfl
    have e1:=cg_ hres2.out (k:=1) rfl
    have e2:=cg_ hres2.out (k:=2) rfl
    have q0:=cells_frz hres2.out (k:=0)
    have q1:=cells_frz hres2.out (k:=1)
    have q2:=cells_frz hres2.out (k:=2)
    have HB2:=hid hB2
    have hA2:=hA.out.2
    rw [HDR.out] at hA2
    clear hb2 hB2
    rcases idxN_cases (fun i=>decide (keyAt yk i = some ky)) yk.len with ⟨hi,hall⟩ | ⟨i,hil,hi,hki,hbef⟩
    · rw [hi]
      have hfn:fstK ky yk = none:=fstK_none fun j hj=>by have:=hall j hj;simpa using this
      have hnone:atF y p = none:=by
       rw [hA2]
       simp only [atF,hfn]
      have HN:=hid hnone
      clear hnone hall hi hfn hA2
      go_wp2_with fail
      refine bodyPost_ret (v := .tuple #[.agg #[.string { data:=#[] }, .slice none 0 0, .slice none 0 0], .bool false]) (ret132 (node_set hres2.out) rfl rfl) rfl ?_
      refine ⟨[],[], .nil,none,0,none,0,by rw [HN.out];rfl,by rw [HN.out];rfl,⟨rfl,none,0,rfl,nl_ _,by simp [maxLen],fun _=>rfl, .inl rfl⟩,⟨[],⟨rfl,none,0,rfl,nl_ _,by simp [maxLen],fun _=>rfl, .inl rfl⟩,rfl⟩,?_⟩
      exact Below.setCell (Below.setCell (Below.setCell HB2.out (p:=⟨w.heap.size,0,none⟩) (nl_ _) _) (p:=⟨w.heap.size,1,none⟩) (nl_ _) _) (p:=⟨w.heap.size,2,none⟩) (nl_ _) _
    · rw [hi]
      obtain ⟨a9,c9,he9,hc9,hm9,hat9⟩:=hF.out.at
      obtain ⟨rfl,rfl⟩:ak = a9∧ck = c9:=by cases he9;exact ⟨rfl,rfl⟩
      obtain ⟨g2,o2,n,l,s,r,an,cn,ab,cb,rfl,hg2,hd,m0,m1,m2,hI,hFs⟩:=hat9 i hil
      have hag2:Agree S w w2:=Ag_b HB2.out HS.out
      have n0:=hag2.cell hg2 m0
      have n1:=hag2.cell hg2 m1
      have n2:=hag2.cell hg2 m2
      have hkn:kyOf n l = ky:=by
       have:decide (keyAt yk i = some ky) = true:=hki
       simp [keyAt,hd] at this
       exact this
      have hfn:fstK ky yk = some (n,l,s):=by
       rw [fstK_drop (i:=i) (fun j hj=>by have:=hbef j hj;simpa using this),hd]
       simp [fstK,hkn]
      obtain ⟨s1,s2,s3,s4,_⟩:n.length ≤ 1000∧l.length ≤ 1000∧s.len ≤ 1000∧s.Sm∧r.Sm:=by have:=hsm.out.drop (i:=i);rwa [hd] at this
      have hil':(i:Int) < (yk.len:Int):=by omega
      have hi0:(0:Int) ≤ (i:Int):=by omega
      have HI2:=hid hI
      have HF2:=hid hFs
      have HAG:=hid hag2
      unfold maxLen at hm9
      clear hi he9 hat9 m0 m1 m2 hd hki hbef hI hFs hag2 hkn
      by_cases hlast:k + 1 = p.length
      · have hl':((k:Int) == (p.length:Int) - 1) = true:=by simp;omega
        have hat':atF y p = some (n,l,s):=by
         rw [hA2,List.drop_eq_nil_of_le (by omega)]
         simp only [atF,hfn,if_true]
        have HAT:=hid hat'
        clear hat' hA2 hfn
        have hfar:=HI2.out.agree HAG.out
        have hff:=HF2.out.agree HAG.out
        have hst:∀ x y z,Agree S w2 (((w2.setCell ⟨w.heap.size,0,none⟩ x).setCell ⟨w.heap.size,1,none⟩ y).setCell ⟨w.heap.size,2,none⟩ z):=fun x y z b hb=>by
         have hlt:=HS.out b hb
         have hB3:=Below.setCell (Below.setCell (Below.setCell (Below.refl w.heap.size w2) (p:=⟨w.heap.size,0,none⟩) (nl_ _) x) (p:=⟨w.heap.size,1,none⟩) (nl_ _) y) (p:=⟨w.heap.size,2,none⟩) (nl_ _) z
         exact hB3.block b hlt
        have HIF:=hid (hfar.agree (hst (.string (bs n)) (.slice an l.length cn) (.slice ab s.len cb)))
        have HFF:=hid (hff.agree (hst (.string (bs n)) (.slice an l.length cn) (.slice ab s.len cb)))
        clear hfar hff hst
        go_wp2_with fail
        refine bodyPost_ret (v := .tuple #[.agg #[.string (bs n), .slice an l.length cn, .slice ab s.len cb], .bool true]) (ret132 (node_set hres2.out) rfl rfl) rfl ?_
        refine ⟨n,l,s,an,cn,ab,cb,by rw [HAT.out];rfl,by rw [HAT.out];rfl,HIF.out,HFF.out,?_⟩
        exact Below.setCell (Below.setCell (Below.setCell HB2.out (p:=⟨w.heap.size,0,none⟩) (nl_ _) _) (p:=⟨w.heap.size,1,none⟩) (nl_ _) _) (p:=⟨w.heap.size,2,none⟩) (nl_ _) _
      · have hl':((k:Int) == (p.length:Int) - 1) = false:=by simp;omega
        have hne:p.drop (k + 1) ≠ []:=fun e=>by have:=congrArg List.length e;rw [List.length_drop] at this;simp at this;omega
        have hat':atF y p = atF s (p.drop (k + 1)):=by
         rw [hA2]
         simp only [atF,hfn,hne,if_false]
        have HAT:=hid hat'
        clear hat' hA2 hfn hne
        go_wp2_with fail
        go_roundw
        case rel=>exact ⟨k + 1,s,ab,cb,by omega,by go_num,rfl,HF2.out,s3,hid s4,⟨.inl (by omega),HAT.out⟩,hres2,HB2.out⟩
        case measure=>simp [intOf];omega
  · have hlt':¬ (k:Int) < (p.length:Int):=by omega
    obtain rfl:k = p.length:=by omega
    have hnone:atF y p = none:=by
     rcases hA.out.1 with h | h
     · omega
     · have:p = []:=List.eq_nil_of_length_eq_zero h
       rw [this];cases y <;> rfl
    have HN:=hid hnone
    clear hnone
    go_wp2_with fail
    refine bodyPost_ret (v := .tuple #[.agg #[.string { data:=#[] }, .slice none 0 0, .slice none 0 0], .bool false]) (ret132 (node_set hres.out) rfl rfl) rfl ?_
    refine ⟨[],[], .nil,none,0,none,0,by rw [HN.out];rfl,by rw [HN.out];rfl,⟨rfl,none,0,rfl,nl_ _,by simp [maxLen],fun _=>rfl, .inl rfl⟩,⟨[],⟨rfl,none,0,rfl,nl_ _,by simp [maxLen],fun _=>rfl, .inl rfl⟩,rfl⟩,?_⟩
    exact Below.setCell (Below.setCell (Below.setCell hB (p:=⟨w.heap.size,0,none⟩) (nl_ _) _) (p:=⟨w.heap.size,1,none⟩) (nl_ _) _) (p:=⟨w.heap.size,2,none⟩) (nl_ _) _
end Go.Proofs.LF
namespace Go.Proofs.LF
open Go.RowKit
def rdChU:Rd Ch 5 where
 R S w x cs:=rdCh.R (US S w) w x cs
 len:=fun h=>rdCh.len h
 one:=fun h=>rdCh.one h
 agree:=fun {S w w' x cs} h ha=>rdCh.wide (rdCh.agree h (US.agree ha).1) (US.agree ha).2
 wide:=fun h hs=>rdCh.wide h (US.wide hs)
theorem lcs_chU {S:Nat→Prop} {w:World}:∀ {xs:List Ch} {cs:List Value},LCs rdChU S w xs cs→LCs rdCh (US S w) w xs cs
 | [],_,h=>h
 | _ :: _,_,⟨c,ds,h1,h2,h3⟩=>⟨c,ds,h1,h2,lcs_chU h3⟩
end Go.Proofs.LF
namespace Go.Proofs.LF
open Go.RowKit Go.Sort
set_option maxHeartbeats 4000000
set_option maxRecDepth 100000
attribute [local go_sem] bs_toList bs_size bs_get
theorem bs_sl (c:UInt8) (a:List UInt8):(⟨#[c]⟩:ByteArray) ++ bs a = bs (c :: a):=bs_add [c] a
attribute [local go_sem] bs_sl
theorem bs_47 (a:List UInt8):({ data:=#[47] }:ByteArray) ++ bs a = bs (47 :: a):=bs_add [47] a
attribute [local go_sem] bs_47
theorem bs_58 (a:List UInt8):({ data:=#[58] }:ByteArray) ++ bs a = bs (58 :: a):=bs_add [58] a
theorem bs_63 (a:List UInt8):({ data:=#[63] }:ByteArray) ++ bs a = bs (63 :: a):=bs_add [63] a
attribute [local go_sem] bs_58 bs_63
def OkK (k:Ky):Prop:=k.n.length ≤ 1000∧0 ≤ k.x∧k.x ≤ 9999
theorem sptK_len {k:Ky} (h:OkK k):(sptK k).length ≤ 1006:=by
 have h1:=itoa_len h.2.1 h.2.2
 simp only [sptK,List.length_append,List.length_cons]
 have:=h.1
 split
 · simp;omega
 · split
   · simp;omega
   · simp;omega
theorem sptL_len {p:List Ky}:(∀ k ∈ p,OkK k)→(sptL p).length ≤ 1006 * p.length:=by
 induction p with
 | nil=>intro _;simp [sptL]
 | cons k p ih=>
   intro h
   have h1:=sptK_len (h k (by simp))
   have h2:=ih fun z hz=>h z (by simp [hz])
   simp only [sptL,List.map_cons,List.flatten_cons,List.length_append,List.length_cons] at *
   omega
theorem sptL_take {p:List Ky} {k:Nat} (h:k < p.length):sptL (p.take (k + 1)) = sptL (p.take k) ++ sptK p[k]:=by
 unfold sptL
 rw [List.take_succ_eq_append_getElem h,List.map_append,List.flatten_append];simp only [List.map_cons,List.map_nil,List.flatten_cons,List.flatten_nil,List.append_nil]
theorem spelt_any (p:List Ky) (a:Option Addr) (c:Nat) (S:Nat→Prop) (w:World) (hv:Pth S w (.slice a p.length c) p) (hS:∀ b,S b→b < w.heap.size) (hlen:p.length ≤ 1000) (hok:∀ k ∈ p,OkK k) (ht:Pow w) :
 Calls Tryz.prog 167 #[.slice a p.length c] w fun e w'=>e = .returned (.string (bs (sptL p)))∧Below w.heap.size w w':=by
 have HV:=hid hv
 have HOK:=hid hok
 have HT:=hid ht
 have HS:=hid hS
 have hb0:Bld w.heap.size (.slice none 0 0) [] (w.alloc (.cells #[.pointer none, .slice none 0 0] 144)):=⟨_, .inl rfl,heap_alloc_new _ _,World.ownsRow_nil _ _ _ _,by simp [Value.ownBlock]⟩
 have HB0:=hid hb0
 clear hv hok ht hS hb0
 go_enter Tryz.func167,Tryz.ntmps167
 go_wp2_with fail
 go_loopw [8] (fun i wr=>∃ (k:Nat) (v:Value),k ≤ p.length∧i = .int .i64 k∧Hid (Bld w.heap.size v (sptL (p.take k)) wr)∧Hid (Below w.heap.size w wr)) (fun i _=>p.length - (intOf i).toNat)
 case atStart=>exact ⟨0, .slice none 0 0,by omega,rfl,by simpa [Hid,sptL] using HB0.out,(Below.refl _ _).alloc (nl_ _) _⟩
 case round=>
  obtain ⟨k,v,hk,rfl,hb,hB⟩:=hrel
  have hsz:=hB.out.size
  by_cases hlt:k < p.length
  · have hlt':(k:Int) < (p.length:Int):=by omega
    obtain ⟨g,o,rfl,hg,_,_,hcell⟩:=SlC.cells HV.out (by omega)
    obtain ⟨k0,k1,k2⟩:=key_cells hlt
    have ha:=Ag_b hB.out HS.out
    have c0:=ha.cell hg (hcell _ _ k0)
    have c1:=ha.cell hg (hcell _ _ k1)
    have c2:=ha.cell hg (hcell _ _ k2)
    rw [← Nat.add_assoc] at c1 c2
    have hkk:=HOK.out p[k] (List.getElem_mem hlt)
    have hspl:(sptL (p.take k)).length ≤ 1006 * 1000:=by
     have h1:=sptL_len (p:=p.take k) fun z hz=>HOK.out z (List.mem_of_mem_take hz)
     rw [List.length_take] at h1
     have:min k p.length ≤ 1000:=by omega
     omega
    have hgen:=sptL_take hlt
    have hK:=hid (show sptK p[k] = 47 :: p[k].n ++ (if p[k].h then 58 :: Lib.itoa p[k].x else if p[k].x ≠ 0 then 63 :: Lib.itoa p[k].x else []) from rfl)
    obtain ⟨ky,hky⟩:∃ ky,p[k] = ky:=⟨_,rfl⟩
    rw [hky] at c0 c1 c2 hkk hgen hK
    have HG:=hid hgen
    have HKK:=hid hkk
    have HSP:=hid hspl
    have hng:¬ 9223372036854775807 < 1 + ky.n.length:=by have:=hkk.1;omega
    have hbw:Bld w.heap.size v (sptL (p.take k)) (wr.alloc (.cells #[.string (bs ky.n), .bool ky.h, .int .i64 ky.x] 71)):=hb.out.below ((Below.refl _ _).alloc (nl_ _) _)
    have HBW:=hid hbw
    clear hcell k0 k1 k2 hky hgen hkk hspl hbw ha
    go_wp2_with fail
    refine (WriteString_any w.heap.size v _ (47 :: ky.n) _ HBW.out (by have:=HSP.out;omega) (by have:=HKK.out.1;simp;omega)).mono ?_
    rintro e w2 ⟨rfl,v2,hb2,hk2,hj2⟩
    have hBlo:∀ b,BldO w.heap.size v b→b < wr.heap.size:=fun b hb'=>BldO.lt hb.out b hb'
    have hblk:w2.heap[wr.heap.size]? = some (.cells #[.string (bs ky.n), .bool ky.h, .int .i64 ky.x] 71 (0,0)):=(hk2.block _ (by simp) (fun h=>by have:=hBlo _ h;omega)).trans (heap_alloc_new _ _)
    have e1:=cg_ hblk (k:=1) rfl
    have e2:=cg_ hblk (k:=2) rfl
    have HBL:=hid hblk
    have hbel2:Below w.heap.size w w2:=(hB.out.alloc hsz _).trans (hk2.below (by simp;omega) (fun b hb' ho=>by
     rcases ho with rfl | ho
     · omega
     · have:=(BldO.ge hb.out b (.inr ho));omega))
    have HB2:=hid hbel2
    have HBD:=hid hb2
    have hz2:=hk2.size
    simp only [World.size_alloc] at hz2
    have HKK2:=hid (show (47 :: ky.n).length ≤ 1001 by have:=HKK.out.1;simp;omega)
    clear hbel2 hb2 hblk hk2 hj2
    by_cases hh:ky.h = true
    · have hlast:sptK ky = 47 :: ky.n ++ 58 :: Lib.itoa ky.x:=by rw [hK.out,if_pos hh]
      have HL:=hid hlast
      clear hlast
      go_wp2_with fail
      refine (Itoa_any ky.x (by have:=HKK.out.2.1;omega) (by have:=HKK.out.2.2;omega) _ (HT.out.below HB2.out)).mono ?_
      rintro e w3 ⟨rfl,hb3⟩
      have hil:=itoa_len HKK.out.2.1 HKK.out.2.2
      have hng2:¬ 9223372036854775807 < 1 + (Lib.itoa ky.x).length:=by omega
      have HBD3:=hid (HBD.out.below hb3)
      have HB3:=hid (HB2.out.trans (hb3.mono (by omega)))
      go_wp2_with fail
      refine (WriteString_any w.heap.size v2 _ (58 :: Lib.itoa ky.x) _ HBD3.out (by have h1:=HSP.out;have h2:=HKK2.out;simp only [List.length_append];omega) (by simp;omega)).mono ?_
      rintro e w4 ⟨rfl,v4,hb4,hk4,hj4⟩
      have hbel4:Below w.heap.size w w4:=HB3.out.trans (hk4.below (by have:=HB3.out.size;omega) (fun b hb' ho=>by
       have:=BldO.ge HBD3.out b ho;omega))
      go_wp2_with fail
      go_roundw
      case rel=>exact ⟨k + 1,v4,by omega,by go_num,by rw [Hid,HG.out,HL.out];simpa using hb4,hbel4⟩
      case measure=>simp [intOf];omega
    · have hh':ky.h = false:=by simpa using hh
      by_cases hx:ky.x = 0
      · have hlast:sptK ky = 47 :: ky.n:=by rw [hK.out,if_neg hh,if_neg (by simpa using hx),List.append_nil]
        have HL:=hid hlast
        have hx':(ky.x != 0) = false:=by simpa using hx
        have HX:=hid hx
        clear hlast hx
        go_wp2_with fail
        go_roundw
        case rel=>exact ⟨k + 1,v2,by omega,by go_num,by rw [Hid,HG.out,HL.out];exact HBD.out,HB2.out⟩
        case measure=>simp [intOf];omega
      · have hlast:sptK ky = 47 :: ky.n ++ 63 :: Lib.itoa ky.x:=by rw [hK.out,if_neg hh,if_pos hx]
        have HL:=hid hlast
        have hx':(ky.x != 0) = true:=by simpa using hx
        have HX:=hid hx
        clear hlast hx
        go_wp2_with fail
        refine (Itoa_any ky.x (by have:=HKK.out.2.1;omega) (by have:=HKK.out.2.2;omega) _ (HT.out.below HB2.out)).mono ?_
        rintro e w3 ⟨rfl,hb3⟩
        have hil:=itoa_len HKK.out.2.1 HKK.out.2.2
        have hng2:¬ 9223372036854775807 < 1 + (Lib.itoa ky.x).length:=by omega
        have HBD3:=hid (HBD.out.below hb3)
        have HB3:=hid (HB2.out.trans (hb3.mono (by omega)))
        go_wp2_with fail
        refine (WriteString_any w.heap.size v2 _ (63 :: Lib.itoa ky.x) _ HBD3.out (by have h1:=HSP.out;have h2:=HKK2.out;simp only [List.length_append];omega) (by simp;omega)).mono ?_
        rintro e w4 ⟨rfl,v4,hb4,hk4,hj4⟩
        have hbel4:Below w.heap.size w w4:=HB3.out.trans (hk4.below (by have:=HB3.out.size;omega) (fun b hb' ho=>by
         have:=BldO.ge HBD3.out b ho;omega))
        go_wp2_with fail
        go_roundw
        case rel=>exact ⟨k + 1,v4,by omega,by go_num,by rw [Hid,HG.out,HL.out];simpa using hb4,hbel4⟩
        case measure=>simp [intOf];omega
  · obtain rfl:k = p.length:=by omega
    have hlt':¬ (p.length:Int) < (p.length:Int):=by omega
    go_wp2_with fail
    refine (Tryz.Builder_String_any_k _ _ _ _ (Lib.IsBuilderF.of hb.out.is) (Nat.le_of_lt hb.out.lt)).mono ?_
    rintro e W2 ⟨rfl,_,hbw,_⟩
    have HBW:=hid hbw
    clear hbw
    go_wp2_with fail
    go_ret
    exact ⟨rfl,hB.out.trans HBW.out⟩
end Go.Proofs.LF
namespace Go.Proofs.LF
open Go.RowKit Go.Sort
set_option maxHeartbeats 4000000
set_option maxRecDepth 100000
attribute [local go_sem] bs_toList bs_size bs_get
def Grw (w w':World):Prop:=∃ q os,w' = grow (w.drewN q) os
theorem Grw.refl (w:World):Grw w w:=⟨0,#[],by simp [World.drewN]⟩
theorem Grw.alloc {w w':World} (h:Grw w w') (o:Obj):Grw w (w'.alloc o):=by
 obtain ⟨q,os,rfl⟩:=h
 exact ⟨q,os ++ #[o],by rw [alloc_eq_grow,grow_grow]⟩
theorem Grw.trans {a b c:World} (h:Grw a b) (k:Grw b c):Grw a c:=by
 obtain ⟨q,os,rfl⟩:=h
 obtain ⟨r,os',rfl⟩:=k
 refine ⟨q + r,os ++ os',?_⟩
 show grow (grow ((a.drewN q).drewN r) os) os' = _
 rw [grow_grow]
 congr 1
 simp [World.drewN,Nat.add_assoc]
theorem Grw.below {w w':World} (h:Grw w w'):Below w.heap.size w w':=by
 obtain ⟨q,os,rfl⟩:=h
 exact ⟨rfl,rfl,rfl,by simp [grow,World.drewN],fun b hb=>by
  show (w.heap ++ os)[b]? = _
  rw [Array.getElem?_append_left hb]⟩
theorem byKey_g (a b:Ky) (w:World) :
 Calls Tryz.prog 183 #[.agg #[.string (bs a.n), .bool a.h, .int .i64 a.x], .agg #[.string (bs b.n), .bool b.h, .int .i64 b.x]] w fun e w'=>e = .returned (.int .i64 (byK a b))∧Grw w w':=by
 obtain ⟨an,ah,ax⟩:=a
 obtain ⟨bn,bh,bx⟩:=b
 by_cases h:an = bn
 · have h':(an == bn) = true:=by simp [h]
   cases ah <;> cases bh
   all_goals
    go_enter Tryz.func183,Tryz.ntmps183
    go_wp2_with (first | (go_at_call 223;refine (cmps_any _ _ _).mono ?_;rintro e w' ⟨rfl,rfl⟩) | (go_at_call 224;refine (cmpi_any _ _ _).mono ?_;rintro e w' ⟨rfl,rfl⟩))
    go_ret
    exact ⟨ret_int (by simp [byK,h]),((Grw.refl _).alloc _).alloc _⟩
 · have h':(an == bn) = false:=by simp [h]
   go_enter Tryz.func183,Tryz.ntmps183
   go_wp2_with (first | (go_at_call 223;refine (cmps_any _ _ _).mono ?_;rintro e w' ⟨rfl,rfl⟩) | (go_at_call 224;refine (cmpi_any _ _ _).mono ?_;rintro e w' ⟨rfl,rfl⟩))
   go_ret
   exact ⟨ret_int (by simp [byK,h]),((Grw.refl _).alloc _).alloc _⟩
theorem cmpPaths_g (p q:List Ky) (ap aq:Option Addr) (cp cq:Nat) (S:Nat→Prop) (w:World) (hp:Pth S w (.slice ap p.length cp) p) (hq:Pth S w (.slice aq q.length cq) q) (hS:∀ b,S b→b < w.heap.size) (lp:p.length ≤ 1000) (lq:q.length ≤ 1000) :
 Calls Tryz.prog 191 #[.slice ap p.length cp, .slice aq q.length cq, .func (.func 183) #[] #[]] w fun e w'=>e = .returned (.int .i64 (cmpP p q))∧Grw w w':=by
 go_enter Tryz.func191,Tryz.ntmps191
 go_wp2_with fail
 go_loopw [13] (fun i wr=>∃ k:Nat,k ≤ p.length∧k ≤ q.length∧i = .int .i64 k∧Hid (cmpP p q = cmpP (p.drop k) (q.drop k))∧Grw w wr) (fun i _=>p.length - (intOf i).toNat)
 case atStart=>exact ⟨0,by omega,by omega,rfl,by simp [Hid],Grw.refl _⟩
 case round=>
  obtain ⟨k,hk,hk2,rfl,hN,hB⟩:=hrel
  have hBG:=hB
  replace hB:=hB.below
  have hsz:=hB.size
  by_cases hA:k < p.length
  · obtain ⟨g,o,rfl,hg,_,_,hcell⟩:=SlC.cells hp (by omega)
    obtain ⟨k0,k1,k2⟩:=key_cells hA
    have ha:=Ag_b hB hS
    have c0:=ha.cell hg (hcell _ _ k0)
    have c1:=ha.cell hg (hcell _ _ k1)
    have c2:=ha.cell hg (hcell _ _ k2)
    rw [← Nat.add_assoc] at c1 c2
    by_cases hB2:k < q.length
    · have a2:¬ (q.length:Int) ≤ (k:Int):=by omega
      have a3:(k:Int) < (q.length:Int):=by omega
      obtain ⟨g',o',rfl,hg',_,_,hcell'⟩:=SlC.cells hq (by omega)
      obtain ⟨k0',k1',k2'⟩:=key_cells hB2
      have hbx:Below w.heap.size w (wr.alloc (.cells #[.string (bs p[k].n), .bool p[k].h, .int .i64 p[k].x] 71)):=hB.alloc hsz _
      have hax:=Ag_b hbx hS
      have d0:=hax.cell hg' (hcell' _ _ k0')
      have d1:=hax.cell hg' (hcell' _ _ k1')
      have d2:=hax.cell hg' (hcell' _ _ k2')
      rw [← Nat.add_assoc] at d1 d2
      have hd:cmpP (p.drop k) (q.drop k) = if byK p[k] q[k] ≠ 0 then byK p[k] q[k] else cmpP (p.drop (k + 1)) (q.drop (k + 1)):=by
       rw [List.drop_eq_getElem_cons hA,List.drop_eq_getElem_cons hB2];rfl
      have HD:=hid hd
      have HBX:=hid hbx
      clear hcell k0 k1 k2 hcell' k0' k1' k2' hd hbx hax
      go_wp2_with fail
      refine (byKey_g p[k] q[k] _).mono ?_
      rintro e w2 ⟨rfl,hb2⟩
      have HB2:=hid (((hBG.alloc _).alloc _).trans hb2)
      clear hb2
      by_cases he:byK p[k] q[k] = 0
      · have he':(byK p[k] q[k] != 0) = false:=by simpa using he
        have HE:=hid he
        clear he
        go_wp2_with fail
        go_roundw
        case rel=>exact ⟨k + 1,by omega,by omega,by go_num,by rw [Hid,hN.out,HD.out,if_neg (by simpa using HE.out)],HB2.out⟩
        case measure=>simp [intOf];omega
      · have he':(byK p[k] q[k] != 0) = true:=by simpa using he
        have HE:=hid he
        clear he
        go_wp2_with fail
        go_ret
        exact ⟨ret_int (by rw [hN.out,HD.out,if_pos (by simpa using HE.out)]),HB2.out⟩
    · have a2:(q.length:Int) ≤ (k:Int):=by omega
      have hd:cmpP (p.drop k) (q.drop k) = 1:=by
       rw [List.drop_eq_getElem_cons hA,List.drop_eq_nil_of_le (by omega:q.length ≤ k)];rfl
      clear hcell k0 k1 k2
      go_wp2_with fail
      go_ret
      exact ⟨ret_int (by rw [hN.out,hd]),hBG.alloc _⟩
  · have hA':¬ (k:Int) < (p.length:Int):=by omega
    obtain rfl:k = p.length:=by omega
    by_cases hB2:p.length < q.length
    · have a2:(p.length:Int) < (q.length:Int):=by omega
      have hd:cmpP (p.drop p.length) (q.drop p.length) = -1:=by
       rw [List.drop_eq_getElem_cons hB2,List.drop_length];rfl
      go_wp2_with fail
      go_ret
      exact ⟨ret_int (by rw [hN.out,hd]),hBG⟩
    · have a2:¬ (p.length:Int) < (q.length:Int):=by omega
      have hd:cmpP (p.drop p.length) (q.drop p.length) = 0:=by
       rw [List.drop_length,List.drop_eq_nil_of_le (by omega)];rfl
      go_wp2_with fail
      go_ret
      exact ⟨ret_int (by rw [hN.out,hd]),hBG⟩
theorem byPath_g (p q:List Ky) (ap aq:Option Addr) (cp cq:Nat) (S:Nat→Prop) (w:World) (hp:Pth S w (.slice ap p.length cp) p) (hq:Pth S w (.slice aq q.length cq) q) (hS:∀ b,S b→b < w.heap.size) (lp:p.length ≤ 1000) (lq:q.length ≤ 1000) :
 Calls Tryz.prog 103 #[.slice ap p.length cp, .slice aq q.length cq] w fun e w'=>e = .returned (.int .i64 (cmpP p q))∧Grw w w':=by
 have H:=hid (cmpPaths_g p q ap aq cp cq S w hp hq hS lp lq)
 go_enter Tryz.func103,Tryz.ntmps103
 go_wp2_with fail
 refine H.out.mono ?_
 rintro e w1 ⟨rfl,hb1⟩
 go_wp2_with fail
 go_ret
 exact ⟨rfl,hb1⟩
end Go.Proofs.LF
namespace Go.Proofs.LF
open Go.RowKit Go.Sort
set_option maxHeartbeats 4000000
set_option maxRecDepth 100000
attribute [local go_sem] bs_toList bs_size bs_get
theorem late_any (p q:List Ky) (ap aq al:Option Addr) (cp cq nl cl F:Nat) (S:Nat→Prop) (w:World) (hp:Pth S w (.slice ap p.length cp) p) (hq:Pth S w (.slice aq q.length cq) q) (hS:∀ b,S b→b < w.heap.size) (lp:p.length ≤ 1000) (lq:q.length ≤ 1000)
 (hF:F < w.heap.size) (hc:w.cell? ⟨F,0,none⟩ = some (.slice aq q.length cq)) :
 Calls Tryz.prog 102 #[.agg #[.slice ap p.length cp, .slice al nl cl], .pointer (some ⟨F,0,none⟩)] w fun e w'=>e = .returned (.bool (decide (0 ≤ cmpP p q)))∧Below w.heap.size w w':=by
 have hb:Below w.heap.size w (w.alloc (.cells #[.slice ap p.length cp, .slice al nl cl] 171)):=(Below.refl _ _).alloc (nl_ _) _
 have hc':=bc_ hb hF hc
 have ha:=Ag_b hb hS
 have H:=hid (byPath_any p q ap aq cp cq S _ (hp.agree ha) (hq.agree ha) (fun b h=>by have:=hS b h;simp;omega) lp lq)
 have HB:=hid hb
 clear hb ha hp hq
 go_enter Tryz.func102,Tryz.ntmps102
 go_wp2_with fail
 refine H.out.mono ?_
 rintro e w1 ⟨rfl,hb1⟩
 have HB1:=hid (HB.out.trans (hb1.mono HB.out.size))
 clear hb1
 by_cases h:0 ≤ cmpP p q
 · go_wp2_with fail
   go_ret
   exact ⟨ret_bool (by simp [h]),HB1.out⟩
 · go_wp2_with fail
   go_ret
   exact ⟨ret_bool (by simp [h]),HB1.out⟩
end Go.Proofs.LF
