/- Parts of the proof of a law of layer 11 (file): LfYam. The conditions stand in each theorem. -/
import Derived.Test.YtffjknkcogmnbaaGreatDoorProg
import Derived.Test.YtffjknkcogmnbaaGreatDoorSpaa
import Derived.Test.YtffjknkcogmnbaaGreatDoorSpac
import Derived.Test.YtffjknkcogmnbaaGreatDoorSpah
import Derived.Test.YtffjknkcogmnbaaGreatDoorSpan
import Derived.Test.YtffjknkcogmnbaaGreatDoorSpap
set_option linter.all false
set_option linter.unusedVariables false
set_option linter.unusedSimpArgs false
set_option linter.all false
set_option linter.unusedVariables false
set_option linter.unusedSimpArgs false
namespace Go.Proofs.LF
open Go.RowKit Go.Sort
set_option maxHeartbeats 4000000
set_option maxRecDepth 100000
attribute [local go_sem] q1_ q2_ q6_
theorem xC_ {P:Program} {w:World} {ops:Array Oper} {rest:List Oper} {o:Oper} {a:Act} {Q:Exit→Act→World→Prop} (hg:o.guard = none)
 (m x v:Operand) (t:TypeId) (hop:o.op = Op.mapUpdate t m x v)
 (k e:TypeId) (ht:P.underlying t = some (.map k e)) (hk:P.underlying k = some .string) (he:P.underlying e = some .bool) (b n:Nat) (l:List (List UInt8))
 (hm:a.eval m = .map (some b)) (h:xI_ P k e b n l w) (hn:n < maxLen) (s:List UInt8) (hs:s.length ≤ maxLen) (hx:a.eval x = .string (bs s)) (hv:a.eval v = .bool true)
 (hK:∀ w',xI_ P k e b (n + 1) (s :: l) w'→w.grownBy w' (some b)→wpList P ops Q rest (a.put o.dst undef) w'):wpList P ops Q (o :: rest) a w:=
 wpList_plain hg fun _ hK'=>wp_setPut m x v t hop k e ht hk he b n l hm h hn s hs hx hv fun w' h1 h2=>hK' _ _ (hK w' h1 h2)
theorem Tryz.info65':(Tryz.prog.info? 92).map (fun i=>(i.zero,i.size,i.bytes)) = some (some (.slice none 0 0),1,24):=by kernel_rfl
theorem xX_ (ls:List (List Fl)) (a:Option Addr) (c:Nat) (S:Nat→Prop) (w:World) (hv:LSl rdLs S w (.slice a ls.length c) ls) (hS:∀ b,S b→b < w.heap.size) (hl:ls.length ≤ 1000) (hn:(ls.map List.length).sum ≤ 1000)
 (hok:∀ x ∈ ls.flatten,x.p.length ≤ 1000∧∀ k ∈ x.p,OkK k) (ht:Pow w) :
 Calls Tryz.prog 29 #[.slice a ls.length c] w fun e w'=>∃ a' c',e = .returned (.slice a' (pthsF ls).length c')∧PaSl (fun b=>S b ∨ Rg w.heap.size w'.heap.size b) w' (.slice a' (pthsF ls).length c') (pthsF ls)∧Below w.heap.size w w':=by
 have hmm:=@run_makeMap Tryz.prog
 obtain ⟨i0,hi0,hz0,hz1,hz2⟩:=info_parts Tryz.info65'
 have hb1:Below w.heap.size w (w.alloc (.map #[] 0)):=(Below.refl _ _).alloc (nl_ _) _
 have HC:=hid (wq_ ls a c S _ (hv.agree (q9_ hb1 hS)) (fun b hb=>by have:=hS b hb;simp;omega) hl (by omega))
 have HSM:=hid (xI_.made (P:=Tryz.prog) 9 4 w)
 have HB1:=hid hb1
 have HT:=hid ht
 have HS:=hid hS
 have HOK:=hid hok
 have HNN:=hid hn
 clear hv hS hok hb1 ht hn
 go_enter Tryz.func29,Tryz.ntmps29
 go_wp2_with fail
 refine HC.out.mono ?_
 rintro e w1 ⟨ac,cc,rfl,hF1,hb2⟩
 obtain ⟨all,hall⟩:∃ all,ls.flatten = all:=⟨_,rfl⟩
 have hlen1:all.length ≤ 1000:=by rw [← hall,List.length_flatten];exact HNN.out
 rw [hall] at hF1 ⊢
 have hpf:pthsF ls = j9_ (ddP [] (all.map Fl.p)):=by rw [pthsF,hall]
 have hokA:∀ x ∈ all,x.p.length ≤ 1000∧∀ k ∈ x.p,OkK k:=by rw [← hall];exact HOK.out
 obtain ⟨S1,hS1⟩:∃ S1:Nat→Prop,S1 = fun b=>S b ∨ Rg (w.alloc (.map #[] 0)).heap.size w1.heap.size b:=⟨_,rfl⟩
 rw [← hS1] at hF1
 have hz1':=hb2.size
 simp only [World.size_alloc] at hz1'
 have hS1lt:∀ b,S1 b→b < w1.heap.size∧b ≠ w.heap.size∧(S b ∨ w.heap.size < b):=fun b hb=>by
  rw [hS1] at hb
  rcases hb with hb | hb
  · have:=HS.out b hb;exact ⟨by omega,by omega, .inl hb⟩
  · have h1:=hb.1;have h2:=hb.2;simp only [World.size_alloc] at h1;exact ⟨h2,by omega, .inr (by omega)⟩
 obtain ⟨a',c',he,hc,hcm,hat⟩:=hF1.at
 obtain ⟨rfl,rfl⟩:ac = a'∧cc = c':=by cases he;exact ⟨rfl,rfl⟩
 have HAT:=hid hat
 have HSM1:=hid (HSM.out.kept (hb2.block w.heap.size (by simp)))
 have HB2:=hid (HB1.out.trans (hb2.mono (by simp)))
 have HS1:=hid hS1lt
 have HOKA:=hid hokA
 have HPF:=hid hpf
 have HSE:=hid hS1
 have HZ1:=hid hz1'
 unfold maxLen at hcm
 clear hat he hF1 hb2 hS1lt hokA hpf hS1 hall hz1'
 go_wp2_with fail
 go_loopw [3,12] (fun v i wr=>∃ (k:Nat) (acc:List (List Ky)) (cs:List Value) (l:List (List UInt8)),k ≤ all.length∧acc.length ≤ k∧i = .int .i64 k∧Hid (ddP [] (all.map Fl.p) = ddP acc ((all.map Fl.p).drop k)) ∧
  wr.ownsRow w1.heap.size 92 1 v acc.length cs∧Hid (LCs vP_ S1 wr acc cs)∧Hid (xI_ Tryz.prog 9 4 w.heap.size acc.length l wr)∧Hid (∀ s,s ∈ l ↔ s ∈ acc.map sptL)∧Hid (∀ p ∈ acc,p.length ≤ 1000)∧Hid (Below w.heap.size w wr)∧Hid (∀ b,b < w1.heap.size→b ≠ w.heap.size→wr.heap[b]? = w1.heap[b]?)∧w1.heap.size ≤ wr.heap.size) (fun _ i _=>all.length - (intOf i).toNat)
 case atStart=>exact ⟨0,[],[],[],by omega,by simp,rfl,rfl,World.ownsRow_nil _ _ _ _,rfl,HSM1.out,(fun s=>by simp),(fun p hp=>by cases hp),HB2.out,(fun _ _ _=>rfl),nl_ _⟩
 case round=>
  obtain ⟨k,acc,cs,l,hk,hacc,rfl,hD,hown,hlc,hsm,hmem,hap,hB,hkp,hzr⟩:=hrel
  by_cases hlt:k < all.length
  · have hlt':(k:Int) < (all.length:Int):=by omega
    obtain ⟨g,o,cs1,rfl,hg,⟨ap,cp,an,cn,rfl,hP,hI⟩,hcell⟩:=HAT.out k hlt
    have hg1:=HS1.out g hg
    have c0:=(World.cell?_of_block (w:=w1) (w':=wr) (a:=⟨g,o + (k * 2 + 0),none⟩) (hkp.out g hg1.1 hg1.2.1)).trans (hcell 0 _ rfl)
    have c1:=(World.cell?_of_block (w:=w1) (w':=wr) (a:=⟨g,o + (k * 2 + 1),none⟩) (hkp.out g hg1.1 hg1.2.1)).trans (hcell 1 _ rfl)
    rw [Nat.add_zero] at c0
    rw [← Nat.add_assoc] at c1
    have hagr:qd_ S1 w1 wr:=fun b hb=>hkp.out b (HS1.out b hb).1 (HS1.out b hb).2.1
    have hokk:=HOKA.out all[k] (List.getElem_mem hlt)
    have hdrop:(all.map Fl.p).drop k = all[k].p :: (all.map Fl.p).drop (k + 1):=by
     rw [List.drop_eq_getElem_cons (by simpa using hlt)];simp
    obtain ⟨x,hx⟩:∃ x,all[k] = x:=⟨_,rfl⟩
    rw [hx] at c0 c1 hP hI hokk hdrop
    have hW:Below w.heap.size w (wr.alloc (.cells #[.slice ap x.p.length cp, .slice an x.l.length cn] 98)):=hB.out.alloc (by have:=HZ1.out;omega) _
    have hspl:=spelt_any x.p ap cp S1 (wr.alloc (.cells #[.slice ap x.p.length cp, .slice an x.l.length cn] 98)) ((hP.agree hagr).agree (fun b hb=>heap_alloc_old _ _ (by have:=(HS1.out b hb).1;omega))) (fun b hb=>by have:=(HS1.out b hb).1;simp;omega) hokk.1 hokk.2 (HT.out.below hW)
    have hsl:=yQ_ hokk.2
    have HSPL:=hid hspl
    have HW:=hid hW
    have HDR:=hid hdrop
    have HOK:=hid hokk
    have HPp:=hid (hP.agree hagr)
    have HX:=hid hx
    have hsl2:(sptL x.p).length ≤ 1006000:=by have:=hokk.1;omega
    clear hcell hspl hW hdrop hokk hP hI hx hagr hsl
    go_wp2_with fail
    refine HSPL.out.mono ?_
    rintro e w3 ⟨rfl,hb3⟩
    have hz3:=hb3.size
    simp only [World.size_alloc] at hz3
    have hml:w.heap.size < wr.heap.size:=by have:=HZ1.out;omega
    have hsm3:Hid (xI_ Tryz.prog 9 4 w.heap.size acc.length l w3):=hsm.out.kept ((hb3.block _ (by simp;omega)).trans (heap_alloc_old _ _ hml))
    have hf3:=(hb3.block wr.heap.size (by simp)).trans (ha_ _ _)
    have m0:=cg_ hf3 (k:=0) rfl
    have ow3:w3.ownsRow w1.heap.size 92 1 u3 acc.length cs:=ob_ (hown.alloc _) hb3 (nl_ _)
    have HB3:=hid (HW.out.trans (hb3.mono (by simp;omega)))
    have HK3:Hid (∀ b,b < wr.heap.size→w3.heap[b]? = wr.heap[b]?):=fun b hb=>(hb3.block b (by simp;omega)).trans (heap_alloc_old _ _ hb)
    have HF3:=hid hf3
    have hzb:(zeroValue 4).run Tryz.prog w3 = .ok (.bool false) w3:=Tryz.zeroValue4 w3
    have HZB:=hid hzb
    clear hf3 hb3 hzb
    obtain ⟨sp,hsp⟩:∃ sp,sptL x.p = sp:=⟨_,rfl⟩
    rw [hsp] at hsl2 ⊢
    have HSP:=hid hsp
    clear hsp
    have hss:sp.length ≤ maxLen:=by unfold maxLen;omega
    by_cases hmt:sp ∈ l
    · have hdm:decide (sp ∈ l) = true:=by simp [hmt]
      have hdd:Hid (ddP [] (all.map Fl.p) = ddP acc ((all.map Fl.p).drop (k + 1))):=by
       rw [Hid,hD.out,HDR.out]
       simp only [ddP]
       rw [if_pos (by rw [HSP.out];exact (hmem.out sp).1 hmt)]
      clear hmt
      go_wp2_with (at_lookup;refine k3_ rfl _ _ 179 rfl 9 4 Tryz.underlying179 Tryz.underlying9 Tryz.underlying4 HZB.out w.heap.size acc.length l rfl hsm3.out sp hss rfl ?_)
      have hag3:qd_ S1 wr w3:=fun b hb=>HK3.out b (by have:=(HS1.out b hb).1;omega)
      have hkp3:Hid (∀ b,b < w1.heap.size→b ≠ w.heap.size→w3.heap[b]? = w1.heap[b]?):=fun b h1 h2=>(HK3.out b (by omega)).trans (hkp.out b h1 h2)
      go_roundw
      case rel=>exact ⟨k + 1,acc,cs,l,by omega,by omega,by go_num,hdd,ow3,hlc.out.agree hag3,hsm3,hmem,hap,HB3,hkp3,by omega⟩
      case measure=>simp [intOf];omega
    · have hdm:decide (sp ∈ l) = false:=by simp [hmt]
      have hdd:Hid (ddP [] (all.map Fl.p) = ddP (acc ++ [x.p]) ((all.map Fl.p).drop (k + 1))):=by
       rw [Hid,hD.out,HDR.out]
       simp only [ddP]
       rw [if_neg (by rw [HSP.out];exact fun e=>hmt ((hmem.out sp).2 e))]
      clear hmt
      have hag3:qd_ S1 wr w3:=fun b hb=>HK3.out b (by have:=(HS1.out b hb).1;omega)
      have HAG3:=hid hag3
      clear hag3
      have hlen3:acc.length ≤ 1000:=by omega
      have hb13:w1.heap.size ≤ w3.heap.size:=by omega
      go_wp2_with (first
       | (at_lookup;refine k3_ rfl _ _ 179 rfl 9 4 Tryz.underlying179 Tryz.underlying9 Tryz.underlying4 HZB.out w.heap.size acc.length l rfl hsm3.out sp hss rfl ?_)
       | (at_builtin;refine (q5_ _ rfl _ _ _ rfl w1.heap.size 92 i0 _ 1 24 Tryz.underlying39 hi0 hz0 hz1 hz2 rfl (by omega) u3 acc.length cs rfl (ow3.alloc _) (some ⟨w3.heap.size,0,none⟩) 1 1 [.slice ap x.p.length cp] rfl rfl (fun h=>by cases h) (fun ad had=>by cases had;exact World.news_of_block (cs:=#[.slice ap x.p.length cp]) (t:=92) (fr:=(0,0)) (ha_ _ _)) (by simp [Value.oneCell']) (by unfold maxLen;omega) (by omega) (by simp;omega) ?_);intro a4 c4 w4 hown4 hgrow4 hat4;have hsm4:=hid (hsm3.out.kept ((hgrow4.block w.heap.size (by simp;omega) (fun e=>by have:=(ow3.lt _ e.symm).1;have:=HZ1.out;omega)).trans (heap_alloc_old _ _ (by omega)))))
       | (at_mapUpdate;refine xC_ rfl _ _ _ 179 rfl 9 4 Tryz.underlying179 Tryz.underlying9 Tryz.underlying4 w.heap.size acc.length l rfl hsm4.out (by unfold maxLen;omega) sp hss rfl rfl ?_;intro w5 hsm5 hgrow5))
      have hwl:w.heap.size < w1.heap.size:=by have:=HZ1.out;omega
      have hfar:∀ b,b < w3.heap.size→b ≠ w.heap.size→u3.ownBlock ≠ some b→w5.heap[b]? = w3.heap[b]?:=fun b h1 h2 h3=>by
       have hg4:=hgrow4.size
       simp only [World.size_alloc] at hg4
       exact (hgrow5.block b (by omega) (fun e=>h2 (Option.some.inj e))).trans ((hgrow4.block b (by simp;omega) (fun e=>h3 e.symm)).trans (heap_alloc_old _ _ h1))
      have hul:∀ b,u3.ownBlock = some b→w1.heap.size ≤ b:=fun b hb=>(ow3.lt b hb).1
      have hag5:qd_ S1 w3 w5:=fun b hb=>by
       have h1:=HS1.out b hb
       exact hfar b (by omega) h1.2.1 (fun e=>by have:=hul b e;omega)
      have hkp5:Hid (∀ b,b < w1.heap.size→b ≠ w.heap.size→w5.heap[b]? = w1.heap[b]?):=fun b h1 h2=>(hfar b (by omega) h2 (fun e=>by have:=hul b e;omega)).trans ((HK3.out b (by omega)).trans (hkp.out b h1 h2))
      have how5:w5.ownsRow w1.heap.size 92 1 (.slice a4 (acc.length + 1) c4) (acc.length + 1) (cs ++ [.slice ap x.p.length cp]):=owns_agree hown4 fun g hg=>by
       have h1:=hown4.lt g hg
       exact hgrow5.block g h1.2 (fun e=>by have:=Option.some.inj e;omega)
      have hlc5:LCs vP_ S1 w5 (acc ++ [x.p]) (cs ++ [.slice ap x.p.length cp]):=((hlc.out.agree HAG3.out).agree hag5).app (LCs.single ⟨ap,cp,rfl,(HPp.out.agree HAG3.out).agree hag5⟩)
      have hmem5:Hid (∀ s,s ∈ sp :: l ↔ s ∈ (acc ++ [x.p]).map sptL):=fun s=>by
       rw [List.map_append,List.mem_append,List.mem_cons,hmem.out s,← HSP.out]
       simp only [List.map_cons,List.map_nil,List.mem_singleton]
       exact Or.comm
      have hap5:Hid (∀ p ∈ acc ++ [x.p],p.length ≤ 1000):=fun p hp=>by
       rcases List.mem_append.1 hp with h | h
       · exact hap.out p h
       · simp only [List.mem_singleton] at h;rw [h];exact HOK.out.1
      have hsz4:=hgrow4.size
      simp only [World.size_alloc] at hsz4
      have hB5:Hid (Below w.heap.size w w5):=((HB3.out.alloc HB3.out.size _).grown hgrow4 (by have:=HB3.out.size;simp;omega) (fun k hk=>by have:=hul k hk;omega)).grown hgrow5 (by have:=HB3.out.size;omega) (fun k hk=>by rw [Option.some.inj hk];exact nl_ _)
      have hz5:=hgrow5.size
      go_roundw
      case rel=>exact ⟨k + 1,acc ++ [x.p],cs ++ [.slice ap x.p.length cp],sp :: l,by omega,by simp;omega,by go_num,hdd,by simpa using how5,hid hlc5,by simpa [Hid] using hsm5,hmem5,hap5,hB5,hkp5,by omega⟩
      case measure=>simp [intOf];omega
  · obtain rfl:k = all.length:=by omega
    have hlt':¬ (all.length:Int) < (all.length:Int):=by omega
    have hdn:ddP [] (all.map Fl.p) = acc:=by
     rw [hD.out,List.drop_eq_nil_of_le (by simp)];rfl
    have HDN:=hid hdn
    clear hdn
    go_wp2_with fail
    refine (yo_ acc _ w1.heap.size cs S1 wr hown hlc.out (fun b hb=>by
     have h1:=(HS1.out b hb).1
     exact ⟨by omega,fun e=>by have:=(hown.lt b e).1;omega⟩) hap.out (by omega)).mono ?_
    rintro e w6 ⟨rfl,cs6,hown6,hlc6,hgrow6⟩
    have HB6:=hid (hB.out.grown hgrow6 (by have:=HZ1.out;omega) (fun k hk=>by have:=(hown.lt k hk).1;have:=HZ1.out;omega))
    go_wp2_with fail
    go_ret
    obtain ⟨a9,c9,rfl,_,_⟩:=owns_shape hown6
    have hlen:(j9_ acc).length = acc.length:=(z2_ acc).length_eq
    rw [HPF.out,HDN.out,hlen]
    have hz6:=hgrow6.size
    refine ⟨a9,c9,by simp,⟨cs6,?_,?_⟩,HB6.out⟩
    · rw [hlen]
      exact (SlC.of_owns hown6).wide fun b hb => .inr ⟨by have:=hb.1;have:=HZ1.out;omega,hb.2⟩
    · refine hlc6.wide fun b hb=>?_
      have h1:=HS1.out b hb
      rcases h1.2.2 with h | h
      · exact .inl h
      · exact .inr ⟨by omega,by omega⟩
end Go.Proofs.LF
namespace Go.Proofs.LF
open Go.RowKit Go.Sort
set_option maxHeartbeats 4000000
set_option maxRecDepth 100000
theorem yx_ {tmps:Array Value} {W:World} {b:Nat} {x y t3:Value} (h:W.heap[b]? = some (.cells #[x,y] 98 (0,0))) (h2:tmps.getD 2 undef = .pointer (some ⟨b,0,none⟩)) (h3:tmps.getD 3 undef = t3) :
 (results Tryz.f46 tmps).run Tryz.prog W = .ok (.tuple #[.agg #[x,y],t3]) W:=by
 have h0:=cg_ h (k:=0) rfl
 have h1:=cg_ h (k:=1) rfl
 rw [results_cell_tmp rfl,h2,h3]
 simp [go_sem,h0,h1]
theorem kF_ {W:World} {b:Nat} {x y x' y':Value} (h:W.heap[b]? = some (.cells #[x,y] 98 (0,0))):((W.setCell ⟨b,0,none⟩ x').setCell ⟨b,1,none⟩ y').heap[b]? = some (.cells #[x',y'] 98 (0,0)):=by
 simp [World.setCell,Array.getElem?_modify,h]
theorem jr_ {m:Nat} {s:List UInt8} (h:qD_ qw_ 1 s = 0):qq_ m s = ([],0,true):=by
 cases m <;> simp [qq_,h]
theorem yW_ {m:Nat} {s:List UInt8} (h:qD_ qw_ 1 s ≠ 0) (h2:qD_ qG_ (zo_ (s.drop 1)) (s.drop 1) = 0):qq_ (m + 1) s = ([],1,false):=by
 simp only [qq_,h,h2,if_false,if_true]
theorem rdNums_go {m n:Nat} {s:List UInt8} (h:qD_ qw_ 1 s ≠ 0) (h2:n = qD_ qG_ (zo_ (s.drop 1)) (s.drop 1)) (h3:n ≠ 0):qq_ (m + 1) s = (((j4_ ((s.drop 1).take n):Nat):Int) :: (qq_ m (s.drop (1 + n))).1,1 + n + (qq_ m (s.drop (1 + n))).2.1,(qq_ m (s.drop (1 + n))).2.2):=by
 subst h2
 simp only [qq_,h,h3,if_false,List.drop_drop]
theorem nxt_eq {t:List UInt8} {q:Nat} {c:UInt8} (h0:c ≠ 0):nxt t q = (c.toNat:Int) ↔ (t.drop q).head? = some c:=by
 unfold nxt
 split
 · rename_i h
   rw [List.drop_eq_getElem_cons h,List.head?_cons,Option.some.injEq]
   constructor
   · intro e
     exact UInt8.toNat_inj.1 (by omega)
   · intro e;rw [e]
 · rename_i h
   rw [List.drop_eq_nil_of_le (by omega)]
   simp only [List.head?_nil,reduceCtorEq,iff_false]
   intro e
   exact h0 (UInt8.toNat_inj.1 (by simp;omega))
theorem yV_ (R:Nat) (t:List UInt8) (i:Nat) (vs:List Value) (w:World) (hr:Rdr R t i vs w) (ht:t.length ≤ 100000) (hi:i ≤ t.length) {M:Nat} (hm:zo_ (t.drop i) = M) :
 Calls Tryz.prog 94 #[.pointer (some ⟨R,0,none⟩), .func (.func 97) #[.agg #[.int .u8 48, .int .u8 57]] #[], .int .i64 M] w (RunR qG_ R t i (zo_ (t.drop i)) vs w):=by
 have h4:zo_ (t.drop i) ≤ 4:=by unfold zo_;split <;> omega
 subst hm
 exact wl_ R t i _ vs w hr ht hi (by omega)
theorem mostD_le (s:List UInt8):zo_ s ≤ 4:=by unfold zo_;split <;> omega
theorem run_all {p:UInt8→Bool}:∀ {m:Nat} {s:List UInt8},∀ c ∈ s.take (qD_ p m s),p c = true
 | 0,s,c,h=>by simp [qD_] at h
 | _ + 1,[],c,h=>by simp [qD_] at h
 | m + 1,d :: r,c,h=>by
   simp only [qD_] at h
   split at h
   · rename_i hd
     rw [List.take_succ_cons] at h
     rcases List.mem_cons.1 h with rfl | h
     · exact hd
     · exact run_all c h
   · simp at h
theorem w7_ {B:Nat} {w11 w12:World} {o:Obj} {cs:Array Value} {nv:Value} {k:Nat} {xs:List Value} (h:w11.heap[B]? = some (.cells cs 109 (0,0))) (ho:w11.ownsRow (B + 1) 3 1 nv k xs) (hg:(w11.alloc o).grownBy w12 nv.ownBlock):Hid (w12.heap[B]? = some (.cells cs 109 (0,0))):=by
 have hlt:=(ge_ h).1
 exact (hg.block B (by simp;omega) (fun e=>by have:=(ho.lt B e.symm).1;omega)).trans ((heap_alloc_old _ _ hlt).trans h)
theorem Keep.grownNew {O:Nat→Prop} {A B C:World} {row:Option Nat} (h:Keep O A B) (hg:B.grownBy C row) (hr:∀ b,row = some b→A.heap.size ≤ b):Keep O A C:=
 ⟨hg.os.trans h.os,hg.tape.trans h.tape,hg.output.trans h.output,Nat.le_trans h.size hg.size,fun b hb ho=>(hg.block b (Nat.lt_of_lt_of_le hb h.size) (fun e=>by have:=hr b e.symm;omega)).trans (h.block b hb ho)⟩
theorem Rdr.setFar {R b k:Nat} {t:List UInt8} {i:Nat} {vs:List Value} {w:World} {u:Value} (h:Rdr R t i vs w) (hb:R ≠ b):Rdr R t i vs (w.setCell ⟨b,k,none⟩ u):=(Below.heap_setCell _ _ _ _ hb).trans h
theorem Rdr.alloc {R:Nat} {t:List UInt8} {i:Nat} {vs:List Value} {w:World} (h:Rdr R t i vs w) (o:Obj):Rdr R t i vs (w.alloc o):=(heap_alloc_old _ _ h.lt).trans h
theorem keys_set {kys:List Ky} {d:Nat} {k:Ky} {fd:Value} (hk:kys.length = 4) (hd:d ≤ 3):(((kys.flatMap Ky.cells ++ [fd]).set (d * 3) (.string (bs k.n))).set (d * 3 + 1) (.bool k.h)).set (d * 3 + 2) (.int .i64 k.x) = (kys.set d k).flatMap Ky.cells ++ [fd]:=by
 match kys,hk with
 | [a,b,c,e],_=>
   match d,hd with
   | 0,_=>rfl
   | 1,_=>rfl
   | 2,_=>rfl
   | 3,_=>rfl
theorem keys_at {kys:List Ky} {d:Nat} {fd:Value} (hk:kys.length = 4) (hd:d ≤ 3):∃ a b c,(kys.flatMap Ky.cells ++ [fd])[d * 3]? = some a∧(kys.flatMap Ky.cells ++ [fd])[d * 3 + 1]? = some b∧(kys.flatMap Ky.cells ++ [fd])[d * 3 + 2]? = some c:=by
 match kys,hk with
 | [a,b,c,e],_=>
   match d,hd with
   | 0,_=>exact ⟨_,_,_,rfl,rfl,rfl⟩
   | 1,_=>exact ⟨_,_,_,rfl,rfl,rfl⟩
   | 2,_=>exact ⟨_,_,_,rfl,rfl,rfl⟩
   | 3,_=>exact ⟨_,_,_,rfl,rfl,rfl⟩
theorem rdr_key {R d:Nat} {t:List UInt8} {i:Nat} {a b c k:Value} {ks:List Value} {w:World} (h:Rdr R t i (a :: b :: c :: ks) w) (hk:ks[d * 3]? = some k):w.cell? ⟨R,5 + d * 3,none⟩ = some k:=by
 have:=h.cV (j:=d * 3 + 3) (v:=k) (by simpa using hk)
 rwa [show 5 + d * 3 = d * 3 + 3 + 2 by omega]
theorem rdr_key1 {R d:Nat} {t:List UInt8} {i:Nat} {a b c k:Value} {ks:List Value} {w:World} (h:Rdr R t i (a :: b :: c :: ks) w) (hk:ks[d * 3 + 1]? = some k):w.cell? ⟨R,5 + d * 3 + 1,none⟩ = some k:=by
 have:=h.cV (j:=d * 3 + 1 + 3) (v:=k) (by simpa using hk)
 rwa [show 5 + d * 3 + 1 = d * 3 + 1 + 3 + 2 by omega]
theorem rdr_key2 {R d:Nat} {t:List UInt8} {i:Nat} {a b c k:Value} {ks:List Value} {w:World} (h:Rdr R t i (a :: b :: c :: ks) w) (hk:ks[d * 3 + 2]? = some k):w.cell? ⟨R,5 + d * 3 + 2,none⟩ = some k:=by
 have:=h.cV (j:=d * 3 + 2 + 3) (v:=k) (by simpa using hk)
 rwa [show 5 + d * 3 + 2 = d * 3 + 2 + 3 + 2 by omega]
theorem rdr_last {R d:Nat} {t:List UInt8} {i:Nat} {a b c:Value} {kys:List Ky} {fd:Value} {w:World} (h:Rdr R t i (a :: b :: c :: (kys.flatMap Ky.cells ++ [fd])) w) (hk:kys.length = 4) (hd:d ≤ 3) (k:Ky) (c':Value) :
 Rdr R t i (a :: b :: c' :: ((kys.set d k).flatMap Ky.cells ++ [fd])) ((((w.setCell ⟨R,5 + d * 3,none⟩ (.string (bs k.n))).setCell ⟨R,5 + d * 3 + 1,none⟩ (.bool k.h)).setCell ⟨R,5 + d * 3 + 2,none⟩ (.int .i64 k.x)).setCell ⟨R,4,none⟩ c'):=by
 have h1:=(((h.setV (3 + d * 3) (.string (bs k.n))).setV (3 + d * 3 + 1) (.bool k.h)).setV (3 + d * 3 + 2) (.int .i64 k.x)).setV 2 c'
 rw [show 3 + d * 3 + 2 + 2 = 5 + d * 3 + 2 by omega,show 3 + d * 3 + 1 + 2 = 5 + d * 3 + 1 by omega,show 3 + d * 3 + 2 = 5 + d * 3 by omega] at h1
 have e:((((a :: b :: c :: (kys.flatMap Ky.cells ++ [fd])).set (3 + d * 3) (.string (bs k.n))).set (3 + d * 3 + 1) (.bool k.h)).set (5 + d * 3) (.int .i64 k.x)).set 2 c' = a :: b :: c' :: ((kys.set d k).flatMap Ky.cells ++ [fd]):=by
  rw [← keys_set hk hd,show 3 + d * 3 = d * 3 + 1 + 1 + 1 by omega,show 5 + d * 3 = d * 3 + 2 + 1 + 1 + 1 by omega]
  simp only [List.set_cons_succ,List.set_cons_zero]
 rw [e] at h1
 exact h1
theorem rdr_path {R d:Nat} {t:List UInt8} {i:Nat} {a b c:Value} {kys:List Ky} {fd:Value} {w:World} (h:Rdr R t i (a :: b :: c :: (kys.flatMap Ky.cells ++ [fd])) w) (hk:kys.length = 4) (hd:d ≤ 3) :
 Pth (· = R) w (.slice (some ⟨R,5,none⟩) (kys.take (d + 1)).length 4) (kys.take (d + 1)):=by
 have hl:(kys.take (d + 1)).length = d + 1:=by rw [List.length_take];omega
 refine ⟨zm_ _,some ⟨R,5,none⟩,4,rfl,by omega,by simp [maxLen],(fun e=>by cases e), .inr ⟨R,5,rfl,rfl,fun j u hj=>?_⟩⟩
 have hj2:(kys.flatMap Ky.cells ++ [fd])[j]? = some u:=by
  have h3:=(List.getElem?_eq_some_iff.1 hj).1
  have e:kys.flatMap Ky.cells = (kys.take (d + 1)).flatMap Ky.cells ++ (kys.drop (d + 1)).flatMap Ky.cells:=by
   rw [← List.flatMap_append,List.take_append_drop]
  rw [e,List.append_assoc,List.getElem?_append_left h3]
  exact hj
 have:=h.cV (j:=j + 3) (v:=u) (by simpa using hj2)
 rwa [show 5 + j = j + 3 + 2 by omega]
theorem jM_ (p:List Ky) (a:Option Addr) (n:Nat) (hn:p.length = n) (c:Nat) (hlen:n ≤ 1000) (S:Nat→Prop) (w:World) (hv:Pth S w (.slice a p.length c) p) (hS:∀ b,S b→b < w.heap.size) :
 Calls Tryz.prog 31 #[.slice a n c] w fun e w'=>∃ a' c',e = .returned (.slice a' n c')∧Pth (Rg w.heap.size w'.heap.size) w' (.slice a' n c') p∧Below w.heap.size w w':=by
 subst hn
 exact kD_ p a c S w hv hS hlen
def ReadR (R:Nat) (t:List UInt8) (i ln dp:Nat) (kys:List Ky) (fd:Value) (w:World) (e:Ending) (w':World):Prop:=
 ((rdLine dp (t.drop i)).2.2.2.2 = false∧e = .returned (.tuple #[.agg #[.slice none 0 0, .slice none 0 0], .bool false]) ∧
   (∃ vs,Rdr R t (i + (rdLine dp (t.drop i)).2.2.2.1) (.int .i64 ln :: .int .i64 i :: vs) w')∧Keep (· = R) w w') ∨
 ((rdLine dp (t.drop i)).2.2.2.2 = true∧∃ ap cp an cn,e = .returned (.tuple #[.agg #[.slice ap ((rdLine dp (t.drop i)).1 + 1) cp, .slice an (rdLine dp (t.drop i)).2.2.1.length cn], .bool true]) ∧
   Pth (Rg w.heap.size w'.heap.size) w' (.slice ap ((rdLine dp (t.drop i)).1 + 1) cp) ((kys.set (rdLine dp (t.drop i)).1 (kyOf (rdLine dp (t.drop i)).2.1 (rdLine dp (t.drop i)).2.2.1)).take ((rdLine dp (t.drop i)).1 + 1)) ∧
   qF_ (Rg w.heap.size w'.heap.size) w' (.slice an (rdLine dp (t.drop i)).2.2.1.length cn) (rdLine dp (t.drop i)).2.2.1 ∧
   Rdr R t (i + (rdLine dp (t.drop i)).2.2.2.1) (.int .i64 ln :: .int .i64 i :: .int .i64 (min ((rdLine dp (t.drop i)).1 + 1) 3:Nat) :: ((kys.set (rdLine dp (t.drop i)).1 (kyOf (rdLine dp (t.drop i)).2.1 (rdLine dp (t.drop i)).2.2.1)).flatMap Ky.cells ++ [fd])) w'∧Keep (· = R) w w')
theorem rdLine_no {dp d:Nat} {s:List UInt8} (h1:d = qD_ qw_ dp s) (h2:qD_ qK_ 8 (s.drop d) = 0):rdLine dp s = (d,[],[],d,false):=by
 subst h1
 simp only [rdLine]
 rw [if_pos h2]
theorem rdLine_of {dp d k:Nat} {s:List UInt8} {r:List Int × Nat × Bool} (h1:d = qD_ qw_ dp s) (h2:k = qD_ qK_ 8 (s.drop d)) (h3:k ≠ 0) (h4:qq_ 4 (s.drop (d + k)) = r):rdLine dp s = (d,(s.drop d).take k,r.1,d + k + r.2.1,r.2.2 && ((s.drop (d + (k + r.2.1))).head? == some 10)):=by
 subst h1;subst h2;subst h4
 simp only [rdLine]
 rw [if_neg h3]
 simp only [List.drop_drop]
def we_ (n:List UInt8) (l:List Int) (s:Fo) (y:Fo):Fo:=
 if fndN y (kyOf n l) < y.len∧byK (keyD y (fndN y (kyOf n l))) (kyOf n l) = 0 then y.setN (fndN y (kyOf n l)) n l s else y.insN (fndN y (kyOf n l)) n l s
def modK (k:Ky) (f:Fo→Fo):Fo→Fo
 | .nil => .nil
 | .cons n l s r=>if kyOf n l = k then .cons n l (f s) r else .cons n l s (modK k f r)
def j8_ (n:List UInt8) (l:List Int) (s:Fo):List Ky→Fo→Fo
 | [],y=>we_ n l s y
 | k :: r,y=>modK k (j8_ n l s r) y
theorem modK_at {k:Ky} {f:Fo→Fo}:∀ {i:Nat} {y s r:Fo} {n:List UInt8} {l:List Int},y.drop i = .cons n l s r→kyOf n l = k→(∀ j,j < i→zf_ y j ≠ some k)→modK k f y = y.setN i n l (f s)
 | 0, .cons n' l' s' r',s,r,n,l,h,hk,_=>by
   simp only [Fo.drop,Fo.cons.injEq] at h
   obtain ⟨rfl,rfl,rfl,rfl⟩:=h
   simp [modK,hk,Fo.setN,Fo.take,Fo.app,Fo.drop]
 | i + 1, .cons n' l' s' r',s,r,n,l,h,hk,hb=>by
   have h0:=hb 0 (by omega)
   simp only [zf_,Fo.drop,ne_eq,Option.some.injEq] at h0
   have:=modK_at (k:=k) (f:=f) (i:=i) (y:=r') h hk (fun j hj=>hb (j + 1) (by omega))
   simp only [modK,h0,if_false,this,Fo.setN,Fo.take,Fo.app,Fo.drop]
 | 0, .nil,_,_,_,_,h,_,_=>by cases h
 | _ + 1, .nil,_,_,_,_,h,_,_=>by cases h
theorem Fo.cnt_app:∀ (y z:Fo),(y.app z).cnt = y.cnt + z.cnt
 | .nil,z=>by simp [Fo.app,Fo.cnt]
 | .cons n l s r,z=>by simp only [Fo.app,Fo.cnt,Fo.cnt_app r z];omega
theorem Fo.len_le_cnt:∀ (y:Fo),y.len ≤ y.cnt
 | .nil=>nl_ _
 | .cons n l s r=>by have:=Fo.len_le_cnt r;simp only [Fo.len,Fo.cnt];omega
theorem Fo.cnt_take_drop (i:Nat) (y:Fo):(y.take i).cnt + (y.drop i).cnt = y.cnt:=by
 rw [← Fo.cnt_app,Fo.take_drop]
theorem Fo.cnt_drop_succ {i:Nat} {y:Fo}:(y.drop (i + 1)).cnt ≤ (y.drop i).cnt:=by
 have h:∀ (i:Nat) (y:Fo),(y.drop (i + 1)).cnt ≤ (y.drop i).cnt:=by
  intro i
  induction i with
  | zero=>intro y;cases y with
    | nil=>simp [Fo.drop]
    | cons n l s r=>simp only [Fo.drop,Fo.cnt];omega
  | succ i ih=>intro y;cases y with
    | nil=>simp [Fo.drop]
    | cons n l s r=>exact ih r
 exact h i y
def Fo.Nm:Fo→Prop
 | .nil=>True
 | .cons n l s r=>n.length ≤ 1000∧l.length ≤ 1000∧s.Nm∧r.Nm
theorem Fo.Sm.nm:∀ {y:Fo},y.Sm→y.Nm
 | .nil,_=>trivial
 | .cons _ _ _ _,⟨h1,h2,_,h4,h5⟩=>⟨h1,h2,h4.nm,h5.nm⟩
theorem Fo.Nm.sm:∀ {y:Fo},y.Nm→y.cnt ≤ 1000→y.Sm
 | .nil,_,_=>trivial
 | .cons n l s r,⟨h1,h2,h4,h5⟩,hc=>by
   simp only [Fo.cnt] at hc
   have:=Fo.len_le_cnt s
   exact ⟨h1,h2,by omega,h4.sm (by omega),h5.sm (by omega)⟩
theorem Fo.Nm.app:∀ {y z:Fo},y.Nm→z.Nm→(y.app z).Nm
 | .nil,_,_,h=>h
 | .cons _ _ _ _,_,⟨h1,h2,h4,h5⟩,h=>⟨h1,h2,h4,h5.app h⟩
theorem Fo.Nm.take:∀ {i:Nat} {y:Fo},y.Nm→(y.take i).Nm
 | 0,_,_=>trivial
 | _ + 1, .nil,_=>trivial
 | i + 1, .cons _ _ _ _,⟨h1,h2,h4,h5⟩=>⟨h1,h2,h4,Fo.Nm.take (i:=i) h5⟩
theorem Fo.Nm.drop:∀ {i:Nat} {y:Fo},y.Nm→(y.drop i).Nm
 | 0,_,h=>h
 | _ + 1, .nil,h=>h
 | i + 1, .cons _ _ _ r,⟨_,_,_,h⟩=>Fo.Nm.drop (i:=i) (y:=r) h
theorem putN_nm {n:List UInt8} {l:List Int} {s y:Fo} (hy:y.Nm) (h1:n.length ≤ 1000) (h2:l.length ≤ 1000) (h4:s.Nm):(we_ n l s y).Nm:=by
 unfold we_
 split
 · exact hy.take.app ⟨h1,h2,h4,hy.drop⟩
 · exact hy.take.app ⟨h1,h2,h4,hy.drop⟩
theorem putN_cnt {n:List UInt8} {l:List Int} {s y:Fo}:(we_ n l s y).cnt ≤ y.cnt + 1 + s.cnt:=by
 unfold we_
 split
 · have h1:=Fo.cnt_take_drop (fndN y (kyOf n l)) y
   have h2:=Fo.cnt_drop_succ (i:=fndN y (kyOf n l)) (y:=y)
   simp only [Fo.setN,Fo.cnt_app,Fo.cnt];omega
 · have h1:=Fo.cnt_take_drop (fndN y (kyOf n l)) y
   simp only [Fo.insN,Fo.cnt_app,Fo.cnt];omega
theorem jT_ {k:Ky} {f:Fo→Fo} {m:Nat} (hf:∀ s,(f s).cnt ≤ s.cnt + m):∀ (y:Fo),(modK k f y).cnt ≤ y.cnt + m
 | .nil=>by simp [modK,Fo.cnt]
 | .cons n l s r=>by
   simp only [modK]
   split
   · have:=hf s;simp only [Fo.cnt];omega
   · have:=jT_ (k:=k) hf r;simp only [Fo.cnt];omega
theorem y1_ {n:List UInt8} {l:List Int} {s:Fo}:∀ (p:List Ky) (y:Fo),(j8_ n l s p y).cnt ≤ y.cnt + (1 + s.cnt)
 | [],y=>by have:=putN_cnt (n:=n) (l:=l) (s:=s) (y:=y);simp only [j8_];omega
 | k :: r,y=>by simp only [j8_];exact jT_ (fun z=>y1_ r z) y
theorem modK_nm {k:Ky} {f:Fo→Fo} (hf:∀ s,s.Nm→(f s).Nm):∀ (y:Fo),y.Nm→(modK k f y).Nm
 | .nil,_=>trivial
 | .cons n l s r,⟨h1,h2,h4,h5⟩=>by
   simp only [modK]
   split
   · exact ⟨h1,h2,hf s h4,h5⟩
   · exact ⟨h1,h2,h4,modK_nm hf r h5⟩
theorem putF_nm {n:List UInt8} {l:List Int} {s:Fo} (h1:n.length ≤ 1000) (h2:l.length ≤ 1000) (h4:s.Nm):∀ (p:List Ky) (y:Fo),y.Nm→(j8_ n l s p y).Nm
 | [],_,hy=>putN_nm hy h1 h2 h4
 | _ :: r,y,hy=>modK_nm (fun z hz=>putF_nm h1 h2 h4 r z hz) y hy
def ww_ (y:Fo) (p:List Ky) (n:List UInt8) (l:List Int) (s:Fo):Int:=
 if qz_ y ≠ 0 then qz_ y else if (atF y p).isNone∧p ≠ [] then 1 else if 60 < 1 + s.cnt then 2 else qz_ (j8_ n l s p y)
def putY (y:Fo) (p:List Ky) (n:List UInt8) (l:List Int) (s:Fo):Fo:=if ww_ y p n l s = 0 then j8_ n l s p y else .nil
end Go.Proofs.LF