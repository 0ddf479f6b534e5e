/- Parts of the proof of a law of layer 11 (file): LfW63. The conditions stand in each theorem. -/
import Derived.Test.YtadkpjgpefcphaaGreatDoorProg
import Derived.Test.YtadkpjgpefcphaaGreatDoorChbi
set_option linter.all false
set_option linter.unusedVariables false
set_option linter.unusedSimpArgs false
namespace Go.Proofs.LF
open Go.RowKit Go.Sort
set_option maxHeartbeats 4000000
set_option maxRecDepth 100000
attribute [local go_sem] bs_toList bs_size bs_get
theorem putR_length (x:Fl):∀ (l:List Fl),(putR x l).length = l.length + 1
 | []=>rfl
 | y :: l=>by
   simp only [putR]
   split
   · rfl
   · simp [putR_length x l]
theorem union_any (a b:List Fl) (aa ab:Option Addr) (ca cb:Nat) (S:Nat→Prop) (w:World) (ha:LSl rdFl S w (.slice aa a.length ca) a) (hb:LSl rdFl S w (.slice ab b.length cb) b) (hS:∀ b,S b→b < w.heap.size)
 (la:a.length ≤ 10000∧∀ x ∈ a,x.p.length ≤ 1000∧x.l.length ≤ 1000) (lb:b.length ≤ 10000∧∀ x ∈ b,x.p.length ≤ 1000∧x.l.length ≤ 1000) :
 Calls Tryz.prog 111 #[.slice aa a.length ca, .slice ab b.length cb] w fun e w'=>∃ av cv,e = .returned (.slice av (unR a b).length cv)∧LSl rdFl (fun q=>S q ∨ Rg w.heap.size w'.heap.size q) w' (.slice av (unR a b).length cv) (unR a b)∧(unR a b).length ≤ a.length + b.length∧Below w.heap.size w w':=by
 obtain ⟨_,_,he,_,hmb,hbt⟩:=hb.at
 cases he
 unfold maxLen at hmb
 have HA:=hid ha
 have HBT:=hid hbt
 have HS:=hid hS
 have HLA:=hid la.2
 have HLB:=hid lb.2
 obtain ⟨la,_⟩:=la
 obtain ⟨lb,_⟩:=lb
 clear ha hb hbt hS
 go_enter Tryz.func111,Tryz.ntmps111
 go_wp2_with fail
 go_loopw [5,6] (fun v iv wr=>∃ (k:Nat) (out:List Fl) (ao:Option Addr) (co:Nat),k ≤ b.length∧iv = .int .i64 k∧v = .slice ao out.length co∧out.length ≤ a.length + k∧Hid (LSl rdFl (fun q=>S q ∨ Rg w.heap.size wr.heap.size q) wr (.slice ao out.length co) out)∧Hid (∀ x ∈ out,x.p.length ≤ 1000∧x.l.length ≤ 1000)∧Hid (unR a b = unR out (b.drop k))∧Hid (Below w.heap.size w wr)) (fun _ i _=>b.length - (intOf i).toNat)
 case atStart=>exact ⟨0,a,aa,ca,by omega,rfl,rfl,by omega,HA.out.wide fun q hq => .inl hq,HLA.out,rfl,Below.refl _ _⟩
 case round=>
  obtain ⟨k,out,ao,co,hk,rfl,rfl,hol,hL,hX,hU,hB⟩:=hrel
  have hz:=hB.out.size
  have i1:(0:Int) ≤ (k:Int):=by omega
  by_cases hlt:k < b.length
  · have hlt':(k:Int) < (b.length:Int):=by omega
    obtain ⟨g,o,cs1,rfl,hg,⟨ax,cx,an,cn,rfl,hP,hI⟩,hcell⟩:=HBT.out k hlt
    have hdk:b.drop k = b[k] :: b.drop (k + 1):=List.drop_eq_getElem_cons hlt
    have hmem:b[k] ∈ b:=List.getElem_mem hlt
    obtain ⟨x,hx⟩:∃ x,b[k] = x:=⟨_,rfl⟩
    rw [hx] at hP hI hcell hdk hmem
    have lx:=HLB.out x hmem
    have e0:=hcell 0 _ rfl
    have e1:=hcell 1 _ rfl
    rw [Nat.add_zero] at e0
    rw [← Nat.add_assoc] at e1
    have hgl:=HS.out g hg
    have c0:=bc_ hB.out hgl e0
    have c1:=bc_ hB.out hgl e1
    have hu:=hU.out
    rw [hdk,unR] at hu
    have hSw:∀ q,(S q ∨ Rg w.heap.size wr.heap.size q)→q < wr.heap.size:=fun q hq=>by
     rcases hq with hq | hq
     · have:=HS.out q hq;omega
     · exact hq.2
    have hPr:=(hP.agree (Ag_b hB.out HS.out)).wide (S':=fun q=>S q ∨ Rg w.heap.size wr.heap.size q) (fun q hq => .inl hq)
    have hIr:=(hI.agree (Ag_b hB.out HS.out)).wide (S':=fun q=>S q ∨ Rg w.heap.size wr.heap.size q) (fun q hq => .inl hq)
    have FA:=hid (Find_any out x.p ao ax co cx _ wr hL.out hPr hSw (by omega) (fun y hy=>(hX.out y hy).1) lx.1)
    have HSW:=hid hSw
    have HPR:=hid hPr
    have HIR:=hid hIr
    have HDK:=hid hdk
    have HMX:=hid (show ∀ y,y = x→y.p.length ≤ 1000∧y.l.length ≤ 1000 from fun y e=>by rw [e];exact lx)
    clear hcell hP hI hdk hmem hx hSw hPr hIr
    rcases fi_cases out x.p with ⟨j,hj,f1,f2,_⟩ | ⟨f1,f2⟩
    · rw [f1] at FA
      rw [f2] at hu
      simp only [Option.isSome_some,if_true] at hu
      have HU:=hid hu
      have v5:¬ (j:Int) < 0:=by omega
      have v6:(0:Int) ≤ (j:Int):=by omega
      clear f1 f2 hu
      go_wp2_with fail
      refine FA.out.mono ?_
      rintro e w1 ⟨rfl,hb1⟩
      go_wp2_with fail
      go_roundw
      case rel=>exact ⟨k + 1,out,ao,co,by omega,by go_num,rfl,by omega,(hL.out.agree (Ag_b hb1 HSW.out)).wide (fun q hq=>hq.imp id fun h=>⟨h.1,by have:=h.2;have:=hb1.size;omega⟩),hX,HU,hB.out.trans (hb1.mono hz)⟩
      case measure=>simp [intOf];omega
    · rw [f1] at FA
      rw [f2] at hu
      simp only [Option.isSome_none,Bool.false_eq_true,if_false] at hu
      have HU:=hid hu
      clear f1 f2 hu
      go_wp2_with fail
      refine FA.out.mono ?_
      rintro e w1 ⟨rfl,hb1⟩
      have hz1:=hb1.size
      have c01:=bc_ hb1 (by omega) c0
      have c11:=bc_ hb1 (by omega) c1
      have PU:=hid (putR_any out x ao ax an co cx cn _ w1 (hL.out.agree (Ag_b hb1 HSW.out)) (HPR.out.agree (Ag_b hb1 HSW.out)) (HIR.out.agree (Ag_b hb1 HSW.out)) (fun q hq=>by have:=HSW.out q hq;omega) (by omega) (fun y hy=>(hX.out y hy).1) lx.1)
      have HB1:=hid (hB.out.trans (hb1.mono hz))
      clear hb1 c0 c1
      go_wp2_with fail
      refine PU.out.mono ?_
      rintro e w2 ⟨v,rfl,hrow,hb2⟩
      obtain ⟨a2,c2,rfl,_,_⟩:=hrow.shape
      have hz2:=hb2.size
      have hL2:=hid ((hrow.lsl).wide (S':=fun q=>S q ∨ Rg w.heap.size w2.heap.size q) (fun q hq=>by
       rcases hq with (h | h) | h
       · exact .inl h
       · exact .inr ⟨h.1,by have:=h.2;omega⟩
       · exact .inr ⟨by have:=h.1;omega,h.2⟩))
      have hX2:Hid (∀ y ∈ putR x out,y.p.length ≤ 1000∧y.l.length ≤ 1000):=fun y hy=>by
       rcases putR_mem.1 hy with h | h
       · exact HMX.out y h
       · exact hX.out y h
      have hpl:=hid (putR_length x out)
      clear hrow
      go_wp2_with fail
      go_roundw
      case rel=>exact ⟨k + 1,putR x out,a2,c2,by omega,by go_num,rfl,by have:=hpl.out;omega,hL2,hX2,HU,HB1.out.trans (hb2.mono (by omega))⟩
      case measure=>simp [intOf];omega
  · have hlt':¬ (k:Int) < (b.length:Int):=by omega
    obtain rfl:k = b.length:=by omega
    have hu:=hU.out
    rw [List.drop_length,unR] at hu
    have HU:=hid hu
    clear hu
    go_wp2_with fail
    go_ret
    rw [HU.out]
    exact ⟨ao,co,rfl,hL.out,by omega,hB.out⟩
end Go.Proofs.LF
