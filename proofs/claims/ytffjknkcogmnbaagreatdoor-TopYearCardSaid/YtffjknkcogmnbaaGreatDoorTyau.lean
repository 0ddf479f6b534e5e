/- Parts of the proof of a law of layer 11 (file): LfYas. The conditions stand in each theorem. -/
import Derived.Test.YtffjknkcogmnbaaGreatDoorProg
import Derived.Test.YtffjknkcogmnbaaGreatDoorTyae
import Derived.Test.YtffjknkcogmnbaaGreatDoorTyam
import Derived.Test.YtffjknkcogmnbaaGreatDoorTyap
import Derived.Test.YtffjknkcogmnbaaGreatDoorTyat
set_option linter.all false
set_option linter.unusedVariables false
set_option linter.unusedSimpArgs false
set_option linter.all false
set_option linter.unusedVariables false
set_option linter.unusedSimpArgs false
namespace Go.Proofs.LF
open Go.RowKit Go.Sort
set_option maxHeartbeats 4000000
set_option maxRecDepth 100000
attribute [local go_sem] q1_ q2_ q8_
theorem kyOf_ok {n:List UInt8} {l:List Int} (h1:zI_ n = false) (h2:zd_ l = false):OkK (qn_ n l):=by
 have h8:=vo_ h1
 cases l with
 | nil=>exact ⟨by simp [qn_];omega,by simp [qn_],by simp [qn_]⟩
 | cons x l=>
   have:=kl_ h2 x (by simp)
   exact ⟨by simp [qn_];omega,by simp [qn_];omega,by simp [qn_];omega⟩
theorem ve_:∀ (y:Fo) (up:List Ky),(∀ k ∈ up,OkK k)→(∀ x ∈ qa_ up y,OkN x)→∀ x ∈ qa_ up y,(∀ k ∈ x.up,OkK k)∧OkK (qn_ x.n x.l)
 | .nil,_,_,_,x,hx=>by simp [qa_] at hx
 | .cons n l s r,up,hu,hn,x,hx=>by
   simp only [qa_,List.mem_cons,List.mem_append] at hx hn
   have h0:=hn ⟨up,n,l,s⟩ (.inl rfl)
   have hk:=kyOf_ok (n:=n) (l:=l) h0.1 h0.2.2
   rcases hx with rfl | hx | hx
   · exact ⟨hu,hk⟩
   · refine ve_ s _ (fun k hk'=>?_) (fun z hz=>hn z (.inr (.inl hz))) x hx
     rcases List.mem_append.1 hk' with h | h
     · exact hu k h
     · simp only [List.mem_singleton] at h;rw [h];exact hk
   · exact ve_ r up hu (fun z hz=>hn z (.inr (.inr hz))) x hx
theorem jL_ {y:Fo} (h:qS_ y = 0):y.cnt ≤ 60:=by
 unfold qS_ at h
 split at h
 · assumption
 · omega
theorem xj_ {y:Fo} (h:qS_ y = 0):zA_ geK 0 none y = 0:=by
 unfold qS_ at h
 split at h
 · exact h
 · omega
theorem fls_ok {y:Fo} (h:qS_ y = 0):SmF (flsL [] y)∧(∀ x ∈ flsL [] y,x.p.length ≤ 1000∧∀ k ∈ x.p,OkK k)∧(flsL [] y).length ≤ 60:=by
 have hn:=kn_ y _ _ [] (xj_ h)
 have hk:=ve_ y [] (by simp) hn
 have hc:=jL_ h
 have key:∀ x ∈ flsL [] y,x.p.length ≤ 1000∧x.l.length ≤ 1000∧∀ k ∈ x.p,OkK k:=by
  intro x hx
  simp only [flsL,List.mem_map] at hx
  obtain ⟨z,hz,rfl⟩:=hx
  have h1:=zD_ y [] z hz
  have h2:=(hn z hz).2.1
  refine ⟨by simp at h1 ⊢;omega,by simp only;omega,fun k hk'=>?_⟩
  rcases List.mem_append.1 hk' with h | h
  · exact (hk z hz).1 k h
  · simp only [List.mem_singleton] at h;rw [h];exact (hk z hz).2
 exact ⟨fun x hx=>⟨(key x hx).1,(key x hx).2.1,fun k hk'=>((key x hx).2.2 k hk').1⟩,fun x hx=>⟨(key x hx).1,(key x hx).2.2⟩,by rw [je_];exact hc⟩
theorem jw_ {p:List Ky}:∀ {r acc:List (List Ky)},p ∈ ddP acc r→p ∈ acc ∨ p ∈ r
 | [],_,h => .inl h
 | q :: r,acc,h=>by
   simp only [ddP] at h
   split at h
   · rcases jw_ h with h | h
     · exact .inl h
     · exact .inr (by simp [h])
   · rcases jw_ h with h | h
     · rcases List.mem_append.1 h with h | h
       · exact .inl h
       · simp only [List.mem_singleton] at h;exact .inr (by simp [h])
     · exact .inr (by simp [h])
theorem pths_mem {ls:List (List Fl)} {p:List Ky} (h:p ∈ pthsF ls):∃ x ∈ ls.flatten,x.p = p:=by
 have h1:=(z1_ _).mem_iff.1 h
 rcases jw_ h1 with h2 | h2
 · cases h2
 · obtain ⟨z,hz,e⟩:=List.mem_map.1 h2;exact ⟨z,hz,e⟩
theorem jd_:∀ {r acc:List (List Ky)},(ddP acc r).length ≤ acc.length + r.length
 | [],_=>by simp [ddP]
 | q :: r,acc=>by
   simp only [ddP]
   split
   · have:=jd_ (r:=r) (acc:=acc);simp only [List.length_cons];omega
   · have:=jd_ (r:=r) (acc:=acc ++ [q]);simp only [List.length_append,List.length_cons,List.length_nil] at this ⊢;omega
theorem pths_len {ls:List (List Fl)}:(pthsF ls).length ≤ ls.flatten.length:=by
 have h1:=(z1_ (ddP [] (ls.flatten.map Fl.p))).length_eq
 have h2:=jd_ (r:=ls.flatten.map Fl.p) (acc:=[])
 simp only [List.length_map,List.length_nil,Nat.zero_add] at h2
 unfold pthsF
 omega
def rdYs:Rd Fo 1 where
 R S w x cs:=∃ ap cp,cs = [.slice ap x.len cp]∧FSl S w (.slice ap x.len cp) x
 len:=by rintro S w x cs ⟨_,_,rfl,_⟩;rfl
 one:=by rintro S w x cs ⟨_,_,rfl,_⟩ u hu;simp at hu;rcases hu with rfl;rfl
 agree:=by rintro S w w' x cs ⟨a,b,rfl,h1⟩ ha;exact ⟨a,b,rfl,h1.agree ha⟩
 wide:=by rintro S w w' x cs ⟨a,b,rfl,h1⟩ ha;exact ⟨a,b,rfl,h1.wide ha⟩
def cpE:List Fo→Int
 | []=>0
 | y :: r=>if qS_ y ≠ 0 then qS_ y else cpE r
def cpL (ls:List Fo):List (List Fl):=if cpE ls = 0 then ls.map (flsL []) else []
theorem xb_:∀ {k:Nat} {ls:List Fo},(∀ y ∈ ls.take k,qS_ y = 0)→cpE ls = cpE (ls.drop k)
 | 0,_,_=>rfl
 | _ + 1,[],_=>rfl
 | k + 1,y :: r,h=>by
   have h0:=h y (by simp)
   rw [cpE,if_neg (by rw [h0];simp)]
   exact xb_ (k:=k) (ls:=r) (fun z hz=>h z (by simp [hz]))
theorem Tryz.info167:(Tryz.prog.info? 90).map (fun i=>(i.zero,i.size,i.bytes)) = some (some (.slice none 0 0),1,24):=by kernel_rfl
def CopR (ls:List Fo) (w:World) (e:Ending) (w':World):Prop:=
 ∃ a c,e = .returned (.tuple #[.slice a (cpL ls).length c, .int .i64 (cpE ls)])∧LSl rdLs (Rg w.heap.size w'.heap.size) w' (.slice a (cpL ls).length c) (cpL ls)∧Below w.heap.size w w'
theorem wf_ (ls:List Fo) (a:Option Addr) (c:Nat) (S:Nat→Prop) (w:World) (hv:LSl rdYs S w (.slice a ls.length c) ls) (hS:∀ b,S b→b < w.heap.size) (hl:ls.length ≤ 1000)
 (hok:∀ y ∈ ls,y.len ≤ 1000∧y.Sm∧y.cnt ≤ 900):Calls Tryz.prog 28 #[.slice a ls.length c] w (CopR ls w):=by
 obtain ⟨a',c',he,hc,hcm,hat⟩:=hv.at
 obtain ⟨rfl,rfl⟩:a = a'∧c = c':=by cases he;exact ⟨rfl,rfl⟩
 obtain ⟨i0,hi0,hz0,hz1,hz2⟩:=info_parts Tryz.info167
 have HAT:=hid hat
 have HS:=hid hS
 have HOK:=hid hok
 clear hat hS he hv hok
 unfold maxLen at hcm
 go_enter Tryz.func28,Tryz.ntmps28
 go_wp2_with fail
 go_loopw [4,10] (fun v i wr=>∃ (k:Nat) (cs:List Value),k ≤ ls.length∧i = .int .i64 k∧wr.ownsRow w.heap.size 90 1 v k cs∧Hid (LCs rdLs (Rx w.heap.size wr.heap.size v) wr ((ls.take k).map (flsL [])) cs)∧Hid (∀ y ∈ ls.take k,qS_ y = 0)∧Hid (Below w.heap.size w wr)) (fun _ i _=>ls.length - (intOf i).toNat)
 case atStart=>exact ⟨0,[],by omega,rfl,World.ownsRow_nil _ _ _ _,rfl,(fun y hy=>by simp at hy),Below.refl _ _⟩
 case round=>
  obtain ⟨k,cs,hk,rfl,hown,hlc,hz,hB⟩:=hrel
  have hsz:=hB.out.size
  by_cases hlt:k < ls.length
  · have hlt':(k:Int) < (ls.length:Int):=by omega
    obtain ⟨g,o,cs1,rfl,hg,⟨ap,cp,rfl,hF⟩,hcell⟩:=HAT.out k hlt
    have c0:=(qc_ hB.out HS.out).cell hg (hcell 0 _ rfl)
    rw [Nat.mul_one,Nat.add_zero] at c0
    have hok:=HOK.out ls[k] (List.getElem_mem hlt)
    have htk:ls.take (k + 1) = ls.take k ++ [ls[k]]:=List.take_succ_eq_append_getElem hlt
    have hdk:ls.drop k = ls[k] :: ls.drop (k + 1):=List.drop_eq_getElem_cons hlt
    obtain ⟨y,hy⟩:∃ y,ls[k] = y:=⟨_,rfl⟩
    rw [hy] at c0 hF hok htk hdk
    have CK:=hid (xF_ y ap cp S wr (hF.agree (qc_ hB.out HS.out)) (fun b hb=>by have:=HS.out b hb;omega) hok.1 hok.2.1 hok.2.2)
    have HF:=hid hF
    have HOKY:=hid hok
    have HTK:=hid htk
    have HDK:=hid hdk
    clear hcell hF hok htk hdk hy
    go_wp2_with fail
    refine CK.out.mono ?_
    rintro e w2 ⟨rfl,hb2⟩
    have hz2':=hb2.size
    have HB2:=hid (hB.out.trans (hb2.mono hsz))
    have how2:=ob_ hown hb2 (nl_ _)
    have hlc2:LCs rdLs (Rx w.heap.size w2.heap.size u4) w2 ((ls.take k).map (flsL [])) cs:=(hlc.out.agree (qc_ hb2 (fun b hb=>hb.2.1))).wide (fun b hb=>⟨hb.1,by have:=hb.2.1;omega,hb.2.2⟩)
    have HLC2:=hid hlc2
    clear hlc2
    clear hb2
    by_cases hcy:qS_ y = 0
    · have hcy':(qS_ y != 0) = false:=by simpa using hcy
      have HCY:=hid hcy
      have FL:=hid (flats_any y ap cp S w2 (HF.out.agree (qc_ HB2.out HS.out)) (fun b hb=>by have:=HS.out b hb;omega) HOKY.out.1 HOKY.out.2.1 HOKY.out.2.2)
      clear hcy
      go_wp2_with fail
      refine FL.out.mono ?_
      rintro e w3 ⟨a3,c3,rfl,hF3,hb3⟩
      have hz3:=hb3.size
      have how3:=ob_ how2 hb3 (by omega)
      have hkk:k ≤ 1000:=by omega
      go_wp2_with (at_builtin;refine (q9_ _ rfl _ _ _ rfl w.heap.size 90 i0 _ 1 24 Tryz.underlying87 hi0 hz0 hz1 hz2 rfl (by omega) u4 k cs rfl (how3.alloc _) (some ⟨w3.heap.size,0,none⟩) 1 1 [.slice a3 (flsL [] y).length c3] rfl rfl (fun h=>by cases h) (fun ad had=>by cases had;exact World.news_of_block (cs:=#[.slice a3 (flsL [] y).length c3]) (t:=90) (fr:=(0,0)) (ha_ _ _)) (by simp [Value.oneCell']) (by unfold maxLen;omega) (by omega) (by simp;omega) ?_);intro a4 c4 w4 hown4 hgrow4 hat4)
      obtain ⟨g4,cap4,he4,hg4,hlt4⟩:=hown4.form (by omega)
      cases he4
      have st:Step w.heap.size w2 (w3.alloc (.cells #[.slice a3 (flsL [] y).length c3] 90)) w4 u4 g4:=⟨hb3.alloc hz3 _,⟨hgrow4.os,hgrow4.tape,hgrow4.output,hgrow4.size,hgrow4.block⟩,by omega,fun b hb=>how2.lt b hb,hat4 g4 rfl,hlt4⟩
      have hv':(Value.slice (some ⟨g4,0,none⟩) (k + 1) c4).ownBlock = some g4:=rfl
      have n1:=st.keep (Stable.lcs _ _) hv' HLC2.out
      have n2:=st.lift (Stable.lsl _ _) hv' hF3 (nl_ _) (by simp) ((Below.refl _ _).alloc (nl_ _) _)
      have n3:=st.out HB2.out
      have n4:Hid (LCs rdLs (Rx w.heap.size w4.heap.size (.slice (some ⟨g4,0,none⟩) (k + 1) c4)) w4 ((ls.take (k + 1)).map (flsL [])) (cs ++ [.slice a3 (flsL [] y).length c3])):=by
       rw [HTK.out,List.map_append]
       exact n1.app (LCs.single ⟨a3,c3,rfl,n2⟩)
      have n5:Hid (∀ z ∈ ls.take (k + 1),qS_ z = 0):=fun z hz'=>by
       rw [HTK.out] at hz'
       rcases List.mem_append.1 hz' with h | h
       · exact hz.out z h
       · simp only [List.mem_singleton] at h;rw [h];exact HCY.out
      clear n1 n2 st
      go_roundw
      case rel=>exact ⟨k + 1,_,by omega,by go_num,hown4,n4,n5,n3⟩
      case measure=>simp [intOf];omega
    · have hcy':(qS_ y != 0) = true:=by simpa using hcy
      have hE:cpE ls = qS_ y:=by rw [xb_ hz.out,HDK.out,cpE,if_pos hcy]
      have hL:cpL ls = []:=by rw [cpL,if_neg (by rw [hE];exact hcy)]
      have HE:=hid hE
      have HL:=hid hL
      clear hE hL hcy
      go_wp2_with fail
      refine bodyPost_ret (v := .tuple #[.slice none 0 0, .int .i64 (qS_ y)]) (by simp [results,Tryz.results28,go_sem]) rfl ?_
      exact ⟨none,0,by rw [HE.out,HL.out];rfl,by rw [HL.out];exact ⟨[],⟨rfl,none,0,rfl,nl_ _,by simp [maxLen],fun _=>rfl, .inl rfl⟩,rfl⟩,HB2.out⟩
  · obtain rfl:k = ls.length:=by omega
    have hlt':¬ (ls.length:Int) < (ls.length:Int):=by omega
    have hE:cpE ls = 0:=by rw [xb_ hz.out,List.drop_length];rfl
    have hL:cpL ls = ls.map (flsL []):=by rw [cpL,if_pos hE]
    have HE:=hid hE
    have HL:=hid hL
    clear hE hL
    go_wp2_with fail
    obtain ⟨a9,c9,rfl,_,_⟩:=owns_shape hown
    refine bodyPost_ret (v := .tuple #[.slice a9 ls.length c9, .int .i64 0]) (by simp [results,Tryz.results28,go_sem]) rfl ?_
    have hlc':=hlc.out
    rw [List.take_length] at hlc'
    refine ⟨a9,c9,by rw [HE.out,HL.out,List.length_map],?_,hB.out⟩
    rw [HL.out]
    exact ⟨cs,by rw [List.length_map];exact SlC.of_owns hown,hlc'.wide fun b hb=>⟨hb.1,hb.2.1⟩⟩
theorem Pth.init {S:Nat→Prop} {w:World} {a:Option Addr} {m c:Nat} {p:List Ky} (h:Pth S w (.slice a (m + 1) c) p) (hm:p.length = m + 1):Pth S w (.slice a m c) p.dropLast:=by
 obtain ⟨h0,a',c',he,h1,h2,h3,h4⟩:=h
 simp only [Value.slice.injEq] at he
 obtain ⟨rfl,_,rfl⟩:=he
 have hd:p.dropLast.length = m:=by simp [hm]
 refine ⟨zx_ _,a,c,by rw [hd],by omega,h2,h3,?_⟩
 rcases h4 with h4 | ⟨g,o,h5,h6,h7⟩
 · omega
 · refine .inr ⟨g,o,h5,h6,fun j u hj=>h7 j u ?_⟩
   have hp:p = p.dropLast ++ [p.getLast (by intro e;rw [e] at hm;simp at hm)]:=(List.dropLast_concat_getLast _).symm
   rw [hp,List.flatMap_append,List.getElem?_append_left (List.getElem?_eq_some_iff.1 hj).1]
   exact hj
theorem jM_:∀ (l kept:List Fl) (out:List (List Ky)),(lsF kept out l).1.length + (lsF kept out l).2.length = kept.length + out.length + l.length
 | [],_,_=>by simp [lsF]
 | f :: r,kept,out=>by
   simp only [lsF]
   split
   · rw [jM_];simp;omega
   · rw [jM_];simp;omega
def LooR (l:List Fl) (S:Nat→Prop) (w:World) (e:Ending) (w':World):Prop:=
 ∃ a c a' c',e = .returned (.tuple #[.slice a (lsF [] [] l).1.length c, .slice a' (lsF [] [] l).2.length c'])∧FlSl (fun b=>S b ∨ Rg w.heap.size w'.heap.size b) w' (.slice a (lsF [] [] l).1.length c) (lsF [] [] l).1 ∧
  PaSl (fun b=>S b ∨ Rg w.heap.size w'.heap.size b) w' (.slice a' (lsF [] [] l).2.length c') (lsF [] [] l).2∧Below w.heap.size w w'
theorem loose_any (l:List Fl) (a:Option Addr) (c:Nat) (S:Nat→Prop) (w:World) (hv:FlSl S w (.slice a l.length c) l) (hS:∀ b,S b→b < w.heap.size) (hl:l.length ≤ 1000) (hsm:SmF l) (hne:∀ x ∈ l,x.p ≠ []) :
 Calls Tryz.prog 33 #[.slice a l.length c] w (LooR l S w):=by
 obtain ⟨a',c',he,hc,hcm,hat⟩:=hv.at
 obtain ⟨rfl,rfl⟩:a = a'∧c = c':=by cases he;exact ⟨rfl,rfl⟩
 obtain ⟨i0,hi0,hz0,hz1,hz2⟩:=info_parts Tryz.info171''
 obtain ⟨j0,hj0,hy0,hy1,hy2⟩:=info_parts Tryz.info65'
 have HAT:=hid hat
 have HS:=hid hS
 have HSM:=hid hsm
 have HNE:=hid hne
 clear hat hS he hv hsm hne
 unfold maxLen at hcm
 go_enter Tryz.func33,Tryz.ntmps33
 go_wp2_with fail
 go_loopw [4,5,13] (fun v v2 i wr=>∃ (k:Nat) (K:List Fl) (O:List (List Ky)) (cs ds:List Value),k ≤ l.length∧i = .int .i64 k∧K.length ≤ k∧O.length ≤ k∧Hid (lsF [] [] l = lsF K O (l.drop k)) ∧
  wr.ownsRow w.heap.size 98 2 v K.length cs∧Hid (LCs xq_ S wr K cs)∧Hid (SmF K)∧wr.ownsRow w.heap.size 92 1 v2 O.length ds∧Hid (LCs kM_ S wr O ds)∧Hid (∀ b,v.ownBlock = some b→v2.ownBlock ≠ some b)∧Hid (Below w.heap.size w wr)) (fun _ _ i _=>l.length - (intOf i).toNat)
 case atStart=>exact ⟨0,[],[],[],[],by omega,rfl,by simp,by simp,rfl,World.ownsRow_nil _ _ _ _,rfl,(fun x hx=>by cases hx),World.ownsRow_nil _ _ _ _,rfl,(fun b hb=>by simp [Value.ownBlock] at hb),Below.refl _ _⟩
 case round=>
  obtain ⟨k,K,O,cs,ds,hk,rfl,hKk,hOk,hD,hown,hlc,hsK,hown2,hlc2,hsep,hB⟩:=hrel
  have hsz:=hB.out.size
  by_cases hlt:k < l.length
  · have hlt':(k:Int) < (l.length:Int):=by omega
    obtain ⟨g,o,cs1,rfl,hg,⟨ap,cp,an,cn,rfl,hP,hI⟩,hcell⟩:=HAT.out k hlt
    have hag:=qc_ hB.out HS.out
    have c0:=hag.cell hg (hcell 0 _ rfl)
    have c1:=hag.cell hg (hcell 1 _ rfl)
    rw [Nat.add_zero] at c0
    rw [← Nat.add_assoc] at c1
    have hm0:=List.getElem_mem hlt
    have hdrop:l.drop k = l[k] :: l.drop (k + 1):=List.drop_eq_getElem_cons hlt
    have hsx:=HSM.out l[k] hm0
    have hnx:=HNE.out l[k] hm0
    obtain ⟨x,hx⟩:∃ x,l[k] = x:=⟨_,rfl⟩
    rw [hx] at c0 c1 hP hI hdrop hsx hnx
    obtain ⟨m,hm⟩:∃ m,x.p.length = m + 1:=⟨x.p.length - 1,by have:=List.length_pos_iff.2 hnx;omega⟩
    rw [hm] at c0 hP
    have hm1:m ≤ 1000:=by have:=hsx.1;omega
    obtain ⟨aK,cK,rfl,hcK,hcKm⟩:=owns_shape hown
    have hb1:Below wr.heap.size wr (wr.alloc (.cells #[.slice ap (m + 1) cp, .slice an x.l.length cn] 98)):=(Below.refl _ _).alloc (nl_ _) _
    have hdl:x.p.dropLast.length = m:=by simp [hm]
    have hPc:=(SlC.caps (show SlC S w 3 (.slice ap (m + 1) cp) (m + 1) _ by have:=hP;unfold Pth at this;rwa [hm] at this))
    have hfind:=kL_ K x.p.dropLast aK ap cK cp (fun b=>S b ∨ Rg w.heap.size wr.heap.size b) S (wr.alloc (.cells #[.slice ap (m + 1) cp, .slice an x.l.length cn] 98)) ⟨cs,((SlC.of_owns hown).wide (fun b hb=>Or.inr hb)).agree (qc_ hb1 (fun b hb=>hb.elim (fun h=>by have:=HS.out b h;omega) (fun h=>h.2))),(hlc.out.wide (fun b hb=>Or.inl hb)).agree (qc_ hb1 (fun b hb=>hb.elim (fun h=>by have:=HS.out b h;omega) (fun h=>h.2)))⟩
     (fun b hb=>by rcases hb with h | h;(have:=HS.out b h;simp;omega);(have:=h.2;simp;omega)) (by rw [hdl];exact (Pth.init (hP.agree hag) hm).agree (qc_ hb1 (fun b hb=>by have:=HS.out b hb;omega))) (fun b hb=>by have:=HS.out b hb;simp;omega) (by omega) hsK.out (by omega)
    rw [hdl] at hfind
    have HFI:=hid hfind
    have HDR:=hid hdrop
    have HSX:=hid hsx
    have HP:=hid (hP.agree hag)
    have HI:=hid (hI.agree hag)
    have HN1:=hid (ha_ wr (.cells #[.slice ap (m + 1) cp, .slice an x.l.length cn] 98))
    have HB1:=hid hb1
    have HM:=hid hm
    have q0:=cg_ HN1.out (k:=0) rfl
    clear hfind hcell hP hI hdrop hsx hnx hx hag hb1 hm0 hm hdl
    go_wp2_with fail
    refine HFI.out.mono ?_
    rintro e w2 ⟨ap2,cp2,an2,cn2,rfl,_,_,hb2⟩
    obtain ⟨xA,hxA⟩:∃ z,(fnd K x.p.dropLast).getD fl0 = z:=⟨_,rfl⟩
    obtain ⟨q,hq⟩:∃ z,(fnd K x.p.dropLast).isSome = z:=⟨_,rfl⟩
    rw [hxA,hq]
    have HQ:=hid hq
    clear hxA hq
    have hzz:=hb2.size
    simp only [World.size_alloc] at hzz
    have hN2:=(hb2.block wr.heap.size (by simp)).trans HN1.out
    have hN3:=(heap_alloc_old w2 (.cells #[.slice ap2 xA.p.length cp2, .slice an2 xA.l.length cn2] 98) (show wr.heap.size < w2.heap.size by omega)).trans hN2
    have p0:(w2.alloc (.cells #[.slice ap2 xA.p.length cp2, .slice an2 xA.l.length cn2] 98)).cell? ⟨wr.heap.size,0,none⟩ = some (.slice ap (m + 1) cp):=cg_ hN3 (k:=0) rfl
    have p1:(w2.alloc (.cells #[.slice ap2 xA.p.length cp2, .slice an2 xA.l.length cn2] 98)).cell? ⟨wr.heap.size,1,none⟩ = some (.slice an x.l.length cn):=cg_ hN3 (k:=1) rfl
    have HB2:=hid (HB1.out.trans (hb2.mono (by simp)))
    clear hN2 hN3 hb2 q0
    have hstep:Hid (∀ W,Below wr.heap.size wr W→wr.heap.size ≤ W.heap.size):=fun W h=>h.size
    by_cases hkp:q = true ∨ m = 0
    · have hls:Hid (lsF [] [] l = lsF (K ++ [x]) O (l.drop (k + 1))):=by
       rw [Hid,hD.out,HDR.out]
       simp only [lsF]
       rw [if_pos (by rw [HQ.out,HM.out];rcases hkp with h | h;exact .inl h;exact .inr (by omega))]
      have hB3:Below wr.heap.size wr ((w2.alloc (.cells #[.slice ap2 xA.p.length cp2, .slice an2 xA.l.length cn2] 98)).alloc (.cells #[.slice ap (m + 1) cp, .slice an x.l.length cn] 98)):=(HB2.out.alloc (by omega) _).alloc (by simp;omega) _
      have HB3:=hid hB3
      have how3:=ob_ hown hB3 (nl_ _)
      have hw2a:((w2.alloc (.cells #[.slice ap2 xA.p.length cp2, .slice an2 xA.l.length cn2] 98)).alloc (.cells #[.slice ap (m + 1) cp, .slice an x.l.length cn] 98)).heap.size = w2.heap.size + 2:=by simp
      have hnb:((w2.alloc (.cells #[.slice ap2 xA.p.length cp2, .slice an2 xA.l.length cn2] 98)).alloc (.cells #[.slice ap (m + 1) cp, .slice an x.l.length cn] 98)).heap[w2.heap.size + 1]? = some (.cells #[.slice ap (m + 1) cp, .slice an x.l.length cn] 98 (0,0)):=by
       have h:=ha_ (w2.alloc (.cells #[.slice ap2 xA.p.length cp2, .slice an2 xA.l.length cn2] 98)) (.cells #[.slice ap (m + 1) cp, .slice an x.l.length cn] 98)
       rwa [World.size_alloc] at h
      have HNB:=hid hnb
      clear hB3 hnb
      have key:∀ (a4:Option Addr) (c4:Nat) (w4:World),w4.ownsRow w.heap.size 98 2 (.slice a4 (K.length + 1) c4) (K.length + 1) (cs ++ [.slice ap (m + 1) cp, .slice an x.l.length cn]) →
       ((w2.alloc (.cells #[.slice ap2 xA.p.length cp2, .slice an2 xA.l.length cn2] 98)).alloc (.cells #[.slice ap (m + 1) cp, .slice an x.l.length cn] 98)).grownBy w4 (Value.slice aK K.length cK).ownBlock →
       (∀ g,(Value.slice a4 (K.length + 1) c4).ownBlock = some g→(Value.slice aK K.length cK).ownBlock = some g ∨ g = ((w2.alloc (.cells #[.slice ap2 xA.p.length cp2, .slice an2 xA.l.length cn2] 98)).alloc (.cells #[.slice ap (m + 1) cp, .slice an x.l.length cn] 98)).heap.size) →
       Hid (w4.ownsRow w.heap.size 98 2 (.slice a4 (K.length + 1) c4) (K ++ [x]).length (cs ++ [.slice ap (m + 1) cp, .slice an x.l.length cn])∧LCs xq_ S w4 (K ++ [x]) (cs ++ [.slice ap (m + 1) cp, .slice an x.l.length cn])∧SmF (K ++ [x])∧w4.ownsRow w.heap.size 92 1 u5 O.length ds∧LCs kM_ S w4 O ds ∧
        (∀ b,(Value.slice a4 (K.length + 1) c4).ownBlock = some b→u5.ownBlock ≠ some b)∧Below w.heap.size w w4):=by
       intro a4 c4 w4 hown4 hgrow4 hat4
       have hkl:∀ b,(Value.slice aK K.length cK).ownBlock = some b→w.heap.size ≤ b∧b < wr.heap.size:=fun b hb=>hown.lt b hb
       have hul:∀ b,u5.ownBlock = some b→w.heap.size ≤ b∧b < wr.heap.size:=fun b hb=>hown2.lt b hb
       have hagS:qg_ S wr w4:=fun b hb=>by
        have h1:=HS.out b hb
        exact (hgrow4.block b (by omega) (fun e=>by have:=(hkl b e.symm).1;omega)).trans (HB3.out.block b (by omega))
       have hlen:(K ++ [x]).length = K.length + 1:=by simp
       refine ⟨by rw [hlen];exact hown4,(hlc.out.agree hagS).app (LCs.single ⟨ap,cp,an,cn,by rw [HM.out],?_,HI.out.agree hagS⟩),?_,?_,hlc2.out.agree hagS,?_,?_⟩
       · rw [HM.out];exact HP.out.agree hagS
       · intro z hz
         rcases List.mem_append.1 hz with h | h
         · exact hsK.out z h
         · simp only [List.mem_singleton] at h;rw [h];exact HSX.out
       · exact q3_ hown2 fun b hb=>(hgrow4.block b (by have:=(hul b hb).2;omega) (fun e=>hsep.out b e.symm hb)).trans (HB3.out.block b (hul b hb).2)
       · intro b hb hb5
         rcases hat4 b hb with h | h
         · exact hsep.out b h hb5
         · have:=(hul b hb5).2;omega
       · exact (hB.out.trans (HB3.out.mono hsz)).grown hgrow4 (by omega) (fun b hb=>(hkl b hb).1)
      have KEY:=hid key
      clear key
      have hkb:K.length ≤ 1000:=by omega
      cases q with
      | true=>
        clear hkp
        go_wp2_with (at_builtin;refine (q9_ _ rfl _ _ _ rfl w.heap.size 98 i0 _ 2 48 Tryz.underlying90 hi0 hz0 hz1 hz2 rfl (by omega) (Value.slice aK K.length cK) K.length cs rfl how3 (some ⟨w2.heap.size + 1,0,none⟩) 1 1 [.slice ap (m + 1) cp, .slice an x.l.length cn] rfl rfl (fun h=>by cases h) (fun ad had=>by cases had;exact World.news_of_block (cs:=#[.slice ap (m + 1) cp, .slice an x.l.length cn]) (t:=98) (fr:=(0,0)) HNB.out) (by simp [Value.oneCell']) (by unfold maxLen;omega) (by omega) (by omega) ?_);intro a4 c4 w4 hown4 hgrow4 hat4)
        obtain ⟨e1,e2,e3,e4,e5,e6,e7⟩:=(KEY.out a4 c4 w4 hown4 hgrow4 hat4).out
        go_roundw
        case rel=>exact ⟨k + 1,K ++ [x],O,_,ds,by omega,by go_num,by simp;omega,by omega,hls,e1,e2,e3,e4,e5,e6,e7⟩
        case measure=>simp [intOf];omega
      | false=>
        have hmz:m = 0:=by rcases hkp with h | h;cases h;exact h
        have hm0':((m:Int) == 0) = true:=by simp [hmz]
        clear hmz hkp
        go_wp2_with (at_builtin;refine (q9_ _ rfl _ _ _ rfl w.heap.size 98 i0 _ 2 48 Tryz.underlying90 hi0 hz0 hz1 hz2 rfl (by omega) (Value.slice aK K.length cK) K.length cs rfl how3 (some ⟨w2.heap.size + 1,0,none⟩) 1 1 [.slice ap (m + 1) cp, .slice an x.l.length cn] rfl rfl (fun h=>by cases h) (fun ad had=>by cases had;exact World.news_of_block (cs:=#[.slice ap (m + 1) cp, .slice an x.l.length cn]) (t:=98) (fr:=(0,0)) HNB.out) (by simp [Value.oneCell']) (by unfold maxLen;omega) (by omega) (by omega) ?_);intro a4 c4 w4 hown4 hgrow4 hat4)
        obtain ⟨e1,e2,e3,e4,e5,e6,e7⟩:=(KEY.out a4 c4 w4 hown4 hgrow4 hat4).out
        go_roundw
        case rel=>exact ⟨k + 1,K ++ [x],O,_,ds,by omega,by go_num,by simp;omega,by omega,hls,e1,e2,e3,e4,e5,e6,e7⟩
        case measure=>simp [intOf];omega
    · have hq0:q = false:=by cases q;rfl;exact absurd (.inl rfl) hkp
      have hmp:0 < m:=by rcases Nat.eq_zero_or_pos m with h | h;exact absurd (.inr h) hkp;exact h
      subst hq0
      have hm0':((m:Int) == 0) = false:=by simp;omega
      have hls:Hid (lsF [] [] l = lsF K (O ++ [x.p]) (l.drop (k + 1))):=by
       rw [Hid,hD.out,HDR.out]
       simp only [lsF]
       rw [if_neg (by rw [HQ.out,HM.out];rintro (h | h);cases h;omega)]
      have hB3:Below wr.heap.size wr ((w2.alloc (.cells #[.slice ap2 xA.p.length cp2, .slice an2 xA.l.length cn2] 98)).alloc (.cells #[.slice ap (m + 1) cp] 92)):=(HB2.out.alloc (by omega) _).alloc (by simp;omega) _
      have HB3:=hid hB3
      have how3:=ob_ hown2 hB3 (nl_ _)
      have hw2a:((w2.alloc (.cells #[.slice ap2 xA.p.length cp2, .slice an2 xA.l.length cn2] 98)).alloc (.cells #[.slice ap (m + 1) cp] 92)).heap.size = w2.heap.size + 2:=by simp
      have hnb:((w2.alloc (.cells #[.slice ap2 xA.p.length cp2, .slice an2 xA.l.length cn2] 98)).alloc (.cells #[.slice ap (m + 1) cp] 92)).heap[w2.heap.size + 1]? = some (.cells #[.slice ap (m + 1) cp] 92 (0,0)):=by
       have h:=ha_ (w2.alloc (.cells #[.slice ap2 xA.p.length cp2, .slice an2 xA.l.length cn2] 98)) (.cells #[.slice ap (m + 1) cp] 92)
       rwa [World.size_alloc] at h
      have HNB:=hid hnb
      clear hB3 hnb hkp
      have hkb:O.length ≤ 1000:=by omega
      go_wp2_with (at_builtin;refine (q9_ _ rfl _ _ _ rfl w.heap.size 92 j0 _ 1 24 Tryz.underlying39 hj0 hy0 hy1 hy2 rfl (by omega) u5 O.length ds rfl how3 (some ⟨w2.heap.size + 1,0,none⟩) 1 1 [.slice ap (m + 1) cp] rfl rfl (fun h=>by cases h) (fun ad had=>by cases had;exact World.news_of_block (cs:=#[.slice ap (m + 1) cp]) (t:=92) (fr:=(0,0)) HNB.out) (by simp [Value.oneCell']) (by unfold maxLen;omega) (by omega) (by omega) ?_);intro a4 c4 w4 hown4 hgrow4 hat4)
      have hkl:∀ b,u5.ownBlock = some b→w.heap.size ≤ b∧b < wr.heap.size:=fun b hb=>hown2.lt b hb
      have hul:∀ b,(Value.slice aK K.length cK).ownBlock = some b→w.heap.size ≤ b∧b < wr.heap.size:=fun b hb=>hown.lt b hb
      have hagS:qg_ S wr w4:=fun b hb=>by
       have h1:=HS.out b hb
       exact (hgrow4.block b (by omega) (fun e=>by have:=(hkl b e.symm).1;omega)).trans (HB3.out.block b (by omega))
      have e1:w4.ownsRow w.heap.size 98 2 (.slice aK K.length cK) K.length cs:=q3_ hown fun b hb=>(hgrow4.block b (by have:=(hul b hb).2;omega) (fun e=>hsep.out b hb e.symm)).trans (HB3.out.block b (hul b hb).2)
      have e2:=hid (hlc.out.agree hagS)
      have e4:w4.ownsRow w.heap.size 92 1 (.slice a4 (O.length + 1) c4) (O ++ [x.p]).length (ds ++ [.slice ap (m + 1) cp]):=by
       have hlen:(O ++ [x.p]).length = O.length + 1:=by simp
       rw [hlen];exact hown4
      have e5:Hid (LCs kM_ S w4 (O ++ [x.p]) (ds ++ [.slice ap (m + 1) cp])):=(hlc2.out.agree hagS).app (LCs.single ⟨ap,cp,by rw [HM.out],by rw [HM.out];exact HP.out.agree hagS⟩)
      have e6:Hid (∀ b,(Value.slice aK K.length cK).ownBlock = some b→(Value.slice a4 (O.length + 1) c4).ownBlock ≠ some b):=fun b hb h5=>by
       rcases hat4 b h5 with h | h
       · exact hsep.out b hb h
       · have:=(hul b hb).2;omega
      have e7:Hid (Below w.heap.size w w4):=(hB.out.trans (HB3.out.mono hsz)).grown hgrow4 (by omega) (fun b hb=>(hkl b hb).1)
      clear hkl hul hagS
      go_roundw
      case rel=>exact ⟨k + 1,K,O ++ [x.p],cs,_,by omega,by go_num,by omega,by simp;omega,hls,e1,e2,hsK,e4,e5,e6,e7⟩
      case measure=>simp [intOf];omega
  · obtain rfl:k = l.length:=by omega
    have hlt':¬ (l.length:Int) < (l.length:Int):=by omega
    have hls:lsF [] [] l = (K,O):=by rw [hD.out,List.drop_length];rfl
    have HLS:=hid hls
    clear hls
    go_wp2_with fail
    obtain ⟨a8,c8,rfl,_,_⟩:=owns_shape hown
    obtain ⟨a9,c9,rfl,_,_⟩:=owns_shape hown2
    refine bodyPost_ret (v := .tuple #[.slice a8 K.length c8, .slice a9 O.length c9]) (by simp [results,Tryz.results33,go_sem]) rfl ?_
    refine ⟨a8,c8,a9,c9,by rw [HLS.out],?_,?_,hB.out⟩
    · rw [HLS.out]
      exact ⟨cs,(SlC.of_owns hown).wide fun b hb => .inr hb,hlc.out.wide fun b hb => .inl hb⟩
    · rw [HLS.out]
      exact ⟨ds,(SlC.of_owns hown2).wide fun b hb => .inr hb,hlc2.out.wide fun b hb => .inl hb⟩
end Go.Proofs.LF
namespace Go.Proofs.LF
theorem good_kyOf {n:List UInt8} {l:List Int} (h1:zI_ n = false) (h2:zd_ l = false):jh_ (qn_ n l):=by
 have hn:∀ c ∈ n,qM_ c = true:=fun c hc=>by
  simp only [zI_,Bool.or_eq_false_iff,List.any_eq_false,decide_eq_true_eq,Bool.or_eq_true,not_or] at h1
  have:=h1.1.1 c hc
  simp only [qM_,inB,Bool.and_eq_true,decide_eq_true_eq]
  omega
 cases l with
 | nil=>exact ⟨hn,by simp [qn_],fun _=>rfl⟩
 | cons v l=>
   refine ⟨hn,?_,fun h=>by cases h⟩
   simp only [zd_,List.any_cons,Bool.or_eq_false_iff,offB] at h2
   have:=h2.1
   simp only [Bool.or_eq_false_iff,decide_eq_false_iff_not] at this
   simp only [qn_];omega
theorem ky_:∀ (y:Fo) (up:List Ky),(∀ k ∈ up,jh_ k)→(∀ z ∈ qa_ up y,OkN z)→∀ x ∈ qa_ up y,(∀ k ∈ x.up,jh_ k)∧jh_ (qn_ x.n x.l)
 | .nil,_,_,_,x,hx=>by simp [qa_] at hx
 | .cons n l s r,up,hu,hn,x,hx=>by
   simp only [qa_,List.mem_cons,List.mem_append] at hx hn
   have h0:=hn _ (.inl rfl)
   have hk:jh_ (qn_ n l):=good_kyOf h0.1 h0.2.2
   rcases hx with rfl | hx | hx
   · exact ⟨hu,hk⟩
   · refine ky_ s _ (fun k hk'=>?_) (fun z hz=>hn z (.inr (.inl hz))) x hx
     rcases List.mem_append.1 hk' with h | h
     · exact hu k h
     · simp only [List.mem_singleton] at h;rw [h];exact hk
   · exact ky_ r up hu (fun z hz=>hn z (.inr (.inr hz))) x hx
theorem x0_ {y:Fo} (h:qS_ y = 0):∀ x ∈ flsL [] y,vu_ x.p:=by
 intro x hx
 simp only [flsL,List.mem_map] at hx
 obtain ⟨z,hz,rfl⟩:=hx
 obtain ⟨h1,h2⟩:=ky_ y [] (by simp) (kn_ y _ _ [] (xj_ h)) z hz
 intro k hk
 rcases List.mem_append.1 hk with h | h
 · exact h1 k h
 · simp only [List.mem_singleton] at h;rw [h];exact h2
theorem xk_ {y:Fo} (h:qS_ y = 0):Srt (flsL [] y):=(xt_ y 0 none [] (xj_ h)).1
end Go.Proofs.LF
namespace Go.Proofs.LF
open Go.RowKit Go.Sort
set_option maxHeartbeats 4000000
set_option maxRecDepth 100000
attribute [local go_sem] q1_ q2_ q8_
theorem enters120:zn_ 35:=by intro args W;simp [go_sem]
theorem eqP_any (p q:List Ky) (ap aq:Option Addr) (cp cq F:Nat) (S:Nat→Prop) (w:World) (hp:Pth S w (.slice ap p.length cp) p) (hq:Pth S w (.slice aq q.length cq) q) (hS:∀ b,S b→b < w.heap.size) (lp:p.length ≤ 1000) (lq:q.length ≤ 1000)
 (hc:w.cell? ⟨F,0,none⟩ = some (.slice aq q.length cq)) :
 Calls Tryz.prog 35 #[.slice ap p.length cp, .pointer (some ⟨F,0,none⟩)] w fun e w'=>e = .returned (.bool (decide (cmpP p q = 0)))∧Below w.heap.size w w':=by
 have H:=hid (kw_ p q ap aq cp cq S w hp hq hS lp lq)
 clear hp hq
 go_enter Tryz.func35,Tryz.ntmps35
 go_wp2_with fail
 refine H.out.mono ?_
 rintro e w1 ⟨rfl,hb1⟩
 have HB1:=hid hb1
 clear hb1
 by_cases h:cmpP p q = 0
 · go_wp2_with fail
   go_ret
   exact ⟨qj_ (by simp [h]),HB1.out⟩
 · go_wp2_with fail
   go_ret
   exact ⟨qj_ (by simp [h]),HB1.out⟩
theorem path_elem {S:Nat→Prop} {w:World} {ps:List (List Ky)} {ds:List Value} (h:LCs kM_ S w ps ds) {i:Nat} (hi:i < ps.length):∃ ap cp,qB_ 1 ds i = .slice ap ps[i].length cp∧Pth S w (.slice ap ps[i].length cp) ps[i]:=by
 have h':=h.drop (i:=i)
 rw [List.drop_eq_getElem_cons hi] at h'
 obtain ⟨cs,es,he,⟨ap,cp,rfl,hp⟩,_⟩:=h'
 refine ⟨ap,cp,?_,hp⟩
 have e0:ds[i]? = some (.slice ap ps[i].length cp):=by
  have:=congrArg (fun l=>l[0]?) he
  simpa [List.getElem?_drop] using this
 simp [qB_,List.getD_eq_getElem?_getD,e0]
theorem contP_any (ps:List (List Ky)) (q:List Ky) (al aq:Option Addr) (cl cq F:Nat) (S T:Nat→Prop) (w:World) (hv:PaSl S w (.slice al ps.length cl) ps) (hS:∀ b,S b→b < w.heap.size) (hq:Pth T w (.slice aq q.length cq) q) (hT:∀ b,T b→b < w.heap.size)
 (hF:F < w.heap.size) (hc:w.cell? ⟨F,0,none⟩ = some (.slice aq q.length cq)) (hl:ps.length ≤ 1000) (hps:∀ p ∈ ps,p.length ≤ 1000) (lq:q.length ≤ 1000) :
 Calls Tryz.prog 34 #[.slice al ps.length cl, .func (.func 35) #[] #[.pointer (some ⟨F,0,none⟩)]] w fun e w'=>e = .returned (.bool (ps.any (fun p=>decide (cmpP p q = 0))))∧Below w.heap.size w w':=by
 obtain ⟨ds,h1,h2⟩:=hv
 have key:=cont_path 35 enters120 (fun i=>decide (cmpP (ps.getD i []) q = 0)) [.pointer (some ⟨F,0,none⟩)] ps.length al cl ds S w h1 hS (by omega) (fun i hi W hW=>by
  obtain ⟨ap',cp',he,hp'⟩:=path_elem h2 hi
  have hg:ps.getD i [] = ps[i]:=by simp [List.getD_eq_getElem?_getD,hi]
  rw [he,hg]
  exact eqP_any ps[i] q ap' aq cp' cq F (fun b=>S b ∨ T b) W ((hp'.agree (qc_ hW hS)).wide fun b hb => .inl hb) ((hq.agree (qc_ hW hT)).wide fun b hb => .inr hb) (fun b hb=>by have:=hW.size;rcases hb with hb | hb;have:=hS b hb;omega;have:=hT b hb;omega) (hps _ (List.getElem_mem hi)) lq (bc_ hW hF hc))
 rw [v9_ (fun p=>decide (cmpP p q = 0)) _ ps (fun i hi=>by simp [List.getD_eq_getElem?_getD,hi])] at key
 exact key
end Go.Proofs.LF
namespace Go.Proofs.LF
def xX_:Fo→List Ky
 | .nil=>[]
 | .cons n l _ r=>qn_ n l :: xX_ r
theorem yG_:∀ (y z:Fo),xX_ (y.app z) = xX_ y ++ xX_ z
 | .nil,_=>rfl
 | .cons n l s r,z=>by simp only [Fo.app,xX_,yG_ r z,List.cons_append]
def nmz:List (List UInt8):=[[98,101,100],[99,97,114,116],[104,111,114,110],[115,97,99,107],[122,101,114,111]]
def OkF:Nat→Fo→Prop
 | _, .nil=>True
 | d, .cons n l s r=>d ≤ 3∧n ∈ nmz∧l.length ≤ 4∧(∀ x ∈ l,0 ≤ x∧x ≤ 9999)∧OkF (d + 1) s∧(∀ k ∈ xX_ r,byK (qn_ n l) k < 0)∧OkF d r
theorem OkF.app:∀ {d:Nat} {y z:Fo},OkF d y→OkF d z→(∀ a ∈ xX_ y,∀ b ∈ xX_ z,byK a b < 0)→OkF d (y.app z)
 | _, .nil,_,_,h,_=>h
 | d, .cons n l s r,z,⟨h1,h2,h3,h4,h5,h6,h7⟩,h,k=>by
   refine ⟨h1,h2,h3,h4,h5,fun q hq=>?_,OkF.app h7 h fun a ha b hb=>k a (by simp [xX_,ha]) b hb⟩
   rw [yG_] at hq
   rcases List.mem_append.1 hq with hq | hq
   · exact h6 q hq
   · exact k _ (by simp [xX_]) q hq
theorem OkF.one {d:Nat} {n:List UInt8} {l:List Int} {s:Fo} (h1:d ≤ 3) (h2:n ∈ nmz) (h3:l.length ≤ 4) (h4:∀ x ∈ l,0 ≤ x∧x ≤ 9999) (h5:OkF (d + 1) s):OkF d (.cons n l s .nil):=
 ⟨h1,h2,h3,h4,h5,by simp [xX_],trivial⟩
end Go.Proofs.LF