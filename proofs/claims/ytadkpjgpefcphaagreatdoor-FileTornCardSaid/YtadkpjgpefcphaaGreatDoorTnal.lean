/- Parts of the proof of a law of layer 11 (file): LfW20, LfW37, LfRdU, LfW27, LfGrw, LfSplit, LfW21, LfW38, LfW32, LfW28, LfPrsB. The conditions stand in each theorem. -/
import Derived.Shelf.SlSortCmp.NoneTotal
import Derived.Shelf.SlSortCmp.Whole1
import Derived.Test.YtadkpjgpefcphaaGreatDoorProg
import Derived.Test.YtadkpjgpefcphaaGreatDoorTnac
import Derived.Test.YtadkpjgpefcphaaGreatDoorTnad
import Derived.Test.YtadkpjgpefcphaaGreatDoorTnae
import Derived.Test.YtadkpjgpefcphaaGreatDoorTnaf
import Derived.Test.YtadkpjgpefcphaaGreatDoorTnag
import Derived.Test.YtadkpjgpefcphaaGreatDoorTnai
import Derived.Test.YtadkpjgpefcphaaGreatDoorTnaj
import Derived.Test.YtadkpjgpefcphaaGreatDoorTnak
set_option linter.all false
set_option linter.unusedVariables false
set_option linter.unusedSimpArgs false
namespace Go.Proofs.LF
open Go.RowKit Go.Sort
set_option maxHeartbeats 4000000
set_option maxRecDepth 100000
attribute [local go_sem] bs_toList bs_size bs_get
theorem late_any (p q:List Ky) (ap aq al:Option Addr) (cp cq nl cl F:Nat) (S:Nat→Prop) (w:World) (hp:Pth S w (.slice ap p.length cp) p) (hq:Pth S w (.slice aq q.length cq) q) (hS:∀ b,S b→b < w.heap.size) (lp:p.length ≤ 1000) (lq:q.length ≤ 1000)
 (hF:F < w.heap.size) (hc:w.cell? ⟨F,0,none⟩ = some (.slice aq q.length cq)) :
 Calls Tryz.prog 102 #[.agg #[.slice ap p.length cp, .slice al nl cl], .pointer (some ⟨F,0,none⟩)] w fun e w'=>e = .returned (.bool (decide (0 ≤ cmpP p q)))∧Below w.heap.size w w':=by
 have hb:Below w.heap.size w (w.alloc (.cells #[.slice ap p.length cp, .slice al nl cl] 171)):=(Below.refl _ _).alloc (nl_ _) _
 have hc':=bc_ hb hF hc
 have ha:=Ag_b hb hS
 have H:=hid (byPath_any p q ap aq cp cq S _ (hp.agree ha) (hq.agree ha) (fun b h=>by have:=hS b h;simp;omega) lp lq)
 have HB:=hid hb
 clear hb ha hp hq
 go_enter Tryz.func102,Tryz.ntmps102
 go_wp2_with fail
 refine H.out.mono ?_
 rintro e w1 ⟨rfl,hb1⟩
 have HB1:=hid (HB.out.trans (hb1.mono HB.out.size))
 clear hb1
 by_cases h:0 ≤ cmpP p q
 · go_wp2_with fail
   go_ret
   exact ⟨ret_bool (by simp [h]),HB1.out⟩
 · go_wp2_with fail
   go_ret
   exact ⟨ret_bool (by simp [h]),HB1.out⟩
end Go.Proofs.LF
namespace Go.Proofs.LF
open Go.RowKit Go.Sort
set_option maxHeartbeats 4000000
set_option maxRecDepth 100000
attribute [local go_sem] bs_toList bs_size bs_get
theorem idxN_cases (p:Nat→Bool) (n:Nat):(idxN p n = -1∧∀ i,i < n→p i = false) ∨ ∃ i,i < n∧idxN p n = (i:Int)∧p i = true∧∀ j,j < i→p j = false:=by
 unfold idxN
 cases h:(List.range n).find? p with
 | none=>
   left
   rw [List.find?_eq_none] at h
   exact ⟨rfl,fun i hi=>by have:=h i (by simpa using hi);simpa using this⟩
 | some k=>
   right
   rw [List.find?_range_eq_some] at h
   exact ⟨k,by simpa using h.2.1,rfl,h.1,fun j hj=>by have:=h.2.2 j hj;simpa using this⟩
theorem fstK_none {k:Ky} {y:Fo} (h:∀ j,j < y.len→keyAt y j ≠ some k):fstK k y = none:=by
 rw [fstK_drop (i:=y.len) h,Fo.drop_len];rfl
theorem ret132 {tmps:Array Value} {W:World} {b:Nat} {x y z t5:Value} (h:W.heap[b]? = some (.cells #[x,y,z] 85 (0,0))) (h2:tmps.getD 4 undef = .pointer (some ⟨b,0,none⟩)) (h3:tmps.getD 5 undef = t5) :
 (results Tryz.f132 tmps).run Tryz.prog W = .ok (.tuple #[.agg #[x,y,z],t5]) W:=by
 have h0:=cg_ h (k:=0) rfl
 have h1:=cg_ h (k:=1) rfl
 have h4:=cg_ h (k:=2) rfl
 rw [results_cell_tmp rfl,h2,h3]
 simp [go_sem,h0,h1,h4]
theorem node_set {W:World} {b:Nat} {x y z x' y' z':Value} (h:W.heap[b]? = some (.cells #[x,y,z] 85 (0,0))):(((W.setCell ⟨b,0,none⟩ x').setCell ⟨b,1,none⟩ y').setCell ⟨b,2,none⟩ z').heap[b]? = some (.cells #[x',y',z'] 85 (0,0)):=by
 simp [World.setCell,Array.getElem?_modify,h]
def AtR (y:Fo) (p:List Ky) (S:Nat→Prop) (w:World) (e:Ending) (w':World):Prop:=
 ∃ n l s an cn ab cb,(atF y p).getD ([],[], .nil) = (n,l,s)∧e = .returned (.tuple #[.agg #[.string (bs n), .slice an l.length cn, .slice ab s.len cb], .bool (atF y p).isSome]) ∧
  Ints S w' (.slice an l.length cn) l∧FSl S w' (.slice ab s.len cb) s∧Below w.heap.size w w'
theorem at_any (y:Fo) (p:List Ky) (ay ap:Option Addr) (cy cp:Nat) (S T:Nat→Prop) (w:World) (hv:FSl S w (.slice ay y.len cy) y) (hS:∀ b,S b→b < w.heap.size) (hp:Pth T w (.slice ap p.length cp) p) (hT:∀ b,T b→b < w.heap.size)
 (hlen:y.len ≤ 1000) (hsm:y.Sm) (lp:p.length ≤ 1000) :
 Calls Tryz.prog 132 #[.slice ay y.len cy, .slice ap p.length cp] w (AtR y p S w):=by
 have hb0:Below w.heap.size w (w.alloc (.cells #[.string { data:=#[] }, .slice none 0 0, .slice none 0 0] 85)):=(Below.refl _ _).alloc (nl_ _) _
 have HB0:=hid hb0
 have HV:=hid hv
 have HP:=hid hp
 have HS:=hid hS
 have HT:=hid hT
 have HSM:=hid hsm
 clear hb0 hv hp hS hT hsm
 go_enter Tryz.func132,Tryz.ntmps132
 go_wp2_with fail
 go_loopw [0,11] (fun v i wr=>∃ (k:Nat) (yk:Fo) (ak:Option Addr) (ck:Nat),k ≤ p.length∧i = .int .i64 k∧v = .slice ak yk.len ck∧Hid (FSl S w (.slice ak yk.len ck) yk)∧yk.len ≤ 1000∧Hid yk.Sm∧Hid ((k < p.length ∨ k = 0)∧atF y p = atF yk (p.drop k))∧Hid (wr.heap[w.heap.size]? = some (.cells #[.string { data:=#[] }, .slice none 0 0, .slice none 0 0] 85 (0,0)))∧Below w.heap.size w wr) (fun _ i _=>p.length - (intOf i).toNat)
 case atStart=>exact ⟨0,y,ay,cy,Nat.zero_le _,rfl,rfl,HV.out,hlen,HSM.out,⟨.inr rfl,rfl⟩,heap_alloc_new _ _,HB0.out⟩
 case round=>
  obtain ⟨k,yk,ak,ck,hk,rfl,rfl,hF,hl,hsm,hA,hres,hB⟩:=hrel
  have hsz:=hB.size
  have r0:=cg_ hres.out (k:=0) rfl
  have r1:=cg_ hres.out (k:=1) rfl
  have r2:=cg_ hres.out (k:=2) rfl
  have f0:=cells_frz hres.out (k:=0)
  have f1:=cells_frz hres.out (k:=1)
  have f2:=cells_frz hres.out (k:=2)
  by_cases hlt:k < p.length
  · have hlt':(k:Int) < (p.length:Int):=by omega
    obtain ⟨g,o,rfl,hg,_,_,hcell⟩:=SlC.cells HP.out (by omega)
    obtain ⟨k0,k1,k2⟩:=key_cells hlt
    have ha:=Ag_b hB HT.out
    have c0:=ha.cell hg (hcell _ _ k0)
    have c1:=ha.cell hg (hcell _ _ k1)
    have c2:=ha.cell hg (hcell _ _ k2)
    rw [← Nat.add_assoc] at c1 c2
    have hdr:p.drop k = p[k] :: p.drop (k + 1):=List.drop_eq_getElem_cons hlt
    obtain ⟨ky,hky⟩:∃ ky,p[k] = ky:=⟨_,rfl⟩
    rw [hky] at c0 c1 c2 hdr
    have hBa:Below w.heap.size w (wr.alloc (.cells #[.string (bs ky.n), .bool ky.h, .int .i64 ky.x] 71)):=hB.alloc hsz _
    obtain ⟨cs,hcs1,hcs2⟩:=hF.out
    have hagA:=Ag_b hBa HS.out
    have hnew:=heap_alloc_new wr (.cells #[.string (bs ky.n), .bool ky.h, .int .i64 ky.x] 71)
    have HI:=hid (idx_node 202 enters202 (fun i=>decide (keyAt yk i = some ky)) [.pointer (some ⟨wr.heap.size,0,none⟩)] yk.len ak ck cs S _ (hcs1.agree hagA) (fun b hb=>by have:=HS.out b hb;simp;omega) (by omega)
     (isK_node (hcs1.agree hagA) (hcs2.agree hagA) (fun b hb=>by have:=HS.out b hb;simp;omega) (by simp) (cg_ hnew (k:=0) rfl) (cg_ hnew (k:=1) rfl) (cg_ hnew (k:=2) rfl)))
    have HBA:=hid hBa
    have HDR:=hid hdr
    clear hcell k0 k1 k2 hky hdr hBa hcs1 hcs2 hagA hnew ha
    go_wp2_with fail
    refine HI.out.mono ?_
    rintro e w2 ⟨rfl,hb2⟩
    have hB2:=HBA.out.trans (hb2.mono (by simp;omega))
    have hwl:w.heap.size < wr.heap.size:=(Array.getElem?_eq_some_iff.1 hres.out).1
    have hres2:Hid (w2.heap[w.heap.size]? = some (.cells #[.string { data:=#[] }, .slice none 0 0, .slice none 0 0] 85 (0,0))):=(hb2.block _ (by simp;omega)).trans ((heap_alloc_old _ _ (by omega)).trans hres.out)
    have e0:=cg_ hres2.out (k:=0) rfl
    have e1:=cg_ hres2.out (k:=1) rfl
    have e2:=cg_ hres2.out (k:=2) rfl
    have q0:=cells_frz hres2.out (k:=0)
    have q1:=cells_frz hres2.out (k:=1)
    have q2:=cells_frz hres2.out (k:=2)
    have HB2:=hid hB2
    have hA2:=hA.out.2
    rw [HDR.out] at hA2
    clear hb2 hB2
    rcases idxN_cases (fun i=>decide (keyAt yk i = some ky)) yk.len with ⟨hi,hall⟩ | ⟨i,hil,hi,hki,hbef⟩
    · rw [hi]
      have hfn:fstK ky yk = none:=fstK_none fun j hj=>by have:=hall j hj;simpa using this
      have hnone:atF y p = none:=by
       rw [hA2]
       simp only [atF,hfn]
      have HN:=hid hnone
      clear hnone hall hi hfn hA2
      go_wp2_with fail
      refine bodyPost_ret (v := .tuple #[.agg #[.string { data:=#[] }, .slice none 0 0, .slice none 0 0], .bool false]) (ret132 (node_set hres2.out) rfl rfl) rfl ?_
      refine ⟨[],[], .nil,none,0,none,0,by rw [HN.out];rfl,by rw [HN.out];rfl,⟨rfl,none,0,rfl,nl_ _,by simp [maxLen],fun _=>rfl, .inl rfl⟩,⟨[],⟨rfl,none,0,rfl,nl_ _,by simp [maxLen],fun _=>rfl, .inl rfl⟩,rfl⟩,?_⟩
      exact Below.setCell (Below.setCell (Below.setCell HB2.out (p:=⟨w.heap.size,0,none⟩) (nl_ _) _) (p:=⟨w.heap.size,1,none⟩) (nl_ _) _) (p:=⟨w.heap.size,2,none⟩) (nl_ _) _
    · rw [hi]
      obtain ⟨a9,c9,he9,hc9,hm9,hat9⟩:=hF.out.at
      obtain ⟨rfl,rfl⟩:ak = a9∧ck = c9:=by cases he9;exact ⟨rfl,rfl⟩
      obtain ⟨g2,o2,n,l,s,r,an,cn,ab,cb,rfl,hg2,hd,m0,m1,m2,hI,hFs⟩:=hat9 i hil
      have hag2:Agree S w w2:=Ag_b HB2.out HS.out
      have n0:=hag2.cell hg2 m0
      have n1:=hag2.cell hg2 m1
      have n2:=hag2.cell hg2 m2
      have hkn:kyOf n l = ky:=by
       have:decide (keyAt yk i = some ky) = true:=hki
       simp [keyAt,hd] at this
       exact this
      have hfn:fstK ky yk = some (n,l,s):=by
       rw [fstK_drop (i:=i) (fun j hj=>by have:=hbef j hj;simpa using this),hd]
       simp [fstK,hkn]
      obtain ⟨s1,s2,s3,s4,_⟩:n.length ≤ 1000∧l.length ≤ 1000∧s.len ≤ 1000∧s.Sm∧r.Sm:=by have:=hsm.out.drop (i:=i);rwa [hd] at this
      have hil':(i:Int) < (yk.len:Int):=by omega
      have hi0:(0:Int) ≤ (i:Int):=by omega
      have HI2:=hid hI
      have HF2:=hid hFs
      have HAG:=hid hag2
      unfold maxLen at hm9
      clear hi he9 hat9 m0 m1 m2 hd hki hbef hI hFs hag2 hkn
      by_cases hlast:k + 1 = p.length
      · have hl':((k:Int) == (p.length:Int) - 1) = true:=by simp;omega
        have hat':atF y p = some (n,l,s):=by
         rw [hA2,List.drop_eq_nil_of_le (by omega)]
         simp only [atF,hfn,if_true]
        have HAT:=hid hat'
        clear hat' hA2 hfn
        have hfar:=HI2.out.agree HAG.out
        have hff:=HF2.out.agree HAG.out
        have hst:∀ x y z,Agree S w2 (((w2.setCell ⟨w.heap.size,0,none⟩ x).setCell ⟨w.heap.size,1,none⟩ y).setCell ⟨w.heap.size,2,none⟩ z):=fun x y z b hb=>by
         have hlt:=HS.out b hb
         have hB3:=Below.setCell (Below.setCell (Below.setCell (Below.refl w.heap.size w2) (p:=⟨w.heap.size,0,none⟩) (nl_ _) x) (p:=⟨w.heap.size,1,none⟩) (nl_ _) y) (p:=⟨w.heap.size,2,none⟩) (nl_ _) z
         exact hB3.block b hlt
        have HIF:=hid (hfar.agree (hst (.string (bs n)) (.slice an l.length cn) (.slice ab s.len cb)))
        have HFF:=hid (hff.agree (hst (.string (bs n)) (.slice an l.length cn) (.slice ab s.len cb)))
        clear hfar hff hst
        go_wp2_with fail
        refine bodyPost_ret (v := .tuple #[.agg #[.string (bs n), .slice an l.length cn, .slice ab s.len cb], .bool true]) (ret132 (node_set hres2.out) rfl rfl) rfl ?_
        refine ⟨n,l,s,an,cn,ab,cb,by rw [HAT.out];rfl,by rw [HAT.out];rfl,HIF.out,HFF.out,?_⟩
        exact Below.setCell (Below.setCell (Below.setCell HB2.out (p:=⟨w.heap.size,0,none⟩) (nl_ _) _) (p:=⟨w.heap.size,1,none⟩) (nl_ _) _) (p:=⟨w.heap.size,2,none⟩) (nl_ _) _
      · have hl':((k:Int) == (p.length:Int) - 1) = false:=by simp;omega
        have hne:p.drop (k + 1) ≠ []:=fun e=>by have:=congrArg List.length e;rw [List.length_drop] at this;simp at this;omega
        have hat':atF y p = atF s (p.drop (k + 1)):=by
         rw [hA2]
         simp only [atF,hfn,hne,if_false]
        have HAT:=hid hat'
        clear hat' hA2 hfn hne
        go_wp2_with fail
        go_roundw
        case rel=>exact ⟨k + 1,s,ab,cb,by omega,by go_num,rfl,HF2.out,s3,hid s4,⟨.inl (by omega),HAT.out⟩,hres2,HB2.out⟩
        case measure=>simp [intOf];omega
  · have hlt':¬ (k:Int) < (p.length:Int):=by omega
    obtain rfl:k = p.length:=by omega
    have hnone:atF y p = none:=by
     rcases hA.out.1 with h | h
     · omega
     · have:p = []:=List.eq_nil_of_length_eq_zero h
       rw [this];cases y <;> rfl
    have HN:=hid hnone
    clear hnone
    go_wp2_with fail
    refine bodyPost_ret (v := .tuple #[.agg #[.string { data:=#[] }, .slice none 0 0, .slice none 0 0], .bool false]) (ret132 (node_set hres.out) rfl rfl) rfl ?_
    refine ⟨[],[], .nil,none,0,none,0,by rw [HN.out];rfl,by rw [HN.out];rfl,⟨rfl,none,0,rfl,nl_ _,by simp [maxLen],fun _=>rfl, .inl rfl⟩,⟨[],⟨rfl,none,0,rfl,nl_ _,by simp [maxLen],fun _=>rfl, .inl rfl⟩,rfl⟩,?_⟩
    exact Below.setCell (Below.setCell (Below.setCell hB (p:=⟨w.heap.size,0,none⟩) (nl_ _) _) (p:=⟨w.heap.size,1,none⟩) (nl_ _) _) (p:=⟨w.heap.size,2,none⟩) (nl_ _) _
end Go.Proofs.LF
namespace Go.Proofs.LF
open Go.RowKit
def rdChU:Rd Ch 5 where
 R S w x cs:=rdCh.R (US S w) w x cs
 len:=fun h=>rdCh.len h
 one:=fun h=>rdCh.one h
 agree:=fun {S w w' x cs} h ha=>rdCh.wide (rdCh.agree h (US.agree ha).1) (US.agree ha).2
 wide:=fun h hs=>rdCh.wide h (US.wide hs)
theorem lcs_chU {S:Nat→Prop} {w:World}:∀ {xs:List Ch} {cs:List Value},LCs rdChU S w xs cs→LCs rdCh (US S w) w xs cs
 | [],_,h=>h
 | _ :: _,_,⟨c,ds,h1,h2,h3⟩=>⟨c,ds,h1,h2,lcs_chU h3⟩
end Go.Proofs.LF
namespace Go.Proofs.LF
open Go.RowKit Go.Sort
set_option maxHeartbeats 4000000
set_option maxRecDepth 100000
attribute [local go_sem] bs_toList bs_size bs_get
theorem bs_sl (c:UInt8) (a:List UInt8):(⟨#[c]⟩:ByteArray) ++ bs a = bs (c :: a):=bs_add [c] a
attribute [local go_sem] bs_sl
theorem bs_47 (a:List UInt8):({ data:=#[47] }:ByteArray) ++ bs a = bs (47 :: a):=bs_add [47] a
attribute [local go_sem] bs_47
theorem bs_58 (a:List UInt8):({ data:=#[58] }:ByteArray) ++ bs a = bs (58 :: a):=bs_add [58] a
theorem bs_63 (a:List UInt8):({ data:=#[63] }:ByteArray) ++ bs a = bs (63 :: a):=bs_add [63] a
attribute [local go_sem] bs_58 bs_63
def OkK (k:Ky):Prop:=k.n.length ≤ 1000∧0 ≤ k.x∧k.x ≤ 9999
theorem sptK_len {k:Ky} (h:OkK k):(sptK k).length ≤ 1006:=by
 have h1:=itoa_len h.2.1 h.2.2
 simp only [sptK,List.length_append,List.length_cons]
 have:=h.1
 split
 · simp;omega
 · split
   · simp;omega
   · simp;omega
theorem sptL_len {p:List Ky}:(∀ k ∈ p,OkK k)→(sptL p).length ≤ 1006 * p.length:=by
 induction p with
 | nil=>intro _;simp [sptL]
 | cons k p ih=>
   intro h
   have h1:=sptK_len (h k (by simp))
   have h2:=ih fun z hz=>h z (by simp [hz])
   simp only [sptL,List.map_cons,List.flatten_cons,List.length_append,List.length_cons] at *
   omega
theorem sptL_take {p:List Ky} {k:Nat} (h:k < p.length):sptL (p.take (k + 1)) = sptL (p.take k) ++ sptK p[k]:=by
 unfold sptL
 rw [List.take_succ_eq_append_getElem h,List.map_append,List.flatten_append];simp only [List.map_cons,List.map_nil,List.flatten_cons,List.flatten_nil,List.append_nil]
theorem spelt_any (p:List Ky) (a:Option Addr) (c:Nat) (S:Nat→Prop) (w:World) (hv:Pth S w (.slice a p.length c) p) (hS:∀ b,S b→b < w.heap.size) (hlen:p.length ≤ 1000) (hok:∀ k ∈ p,OkK k) (ht:Pow w) :
 Calls Tryz.prog 167 #[.slice a p.length c] w fun e w'=>e = .returned (.string (bs (sptL p)))∧Below w.heap.size w w':=by
 have HV:=hid hv
 have HOK:=hid hok
 have HT:=hid ht
 have HS:=hid hS
 have hb0:Bld w.heap.size (.slice none 0 0) [] (w.alloc (.cells #[.pointer none, .slice none 0 0] 144)):=⟨_, .inl rfl,heap_alloc_new _ _,World.ownsRow_nil _ _ _ _,by simp [Value.ownBlock]⟩
 have HB0:=hid hb0
 clear hv hok ht hS hb0
 go_enter Tryz.func167,Tryz.ntmps167
 go_wp2_with fail
 go_loopw [8] (fun i wr=>∃ (k:Nat) (v:Value),k ≤ p.length∧i = .int .i64 k∧Hid (Bld w.heap.size v (sptL (p.take k)) wr)∧Hid (Below w.heap.size w wr)) (fun i _=>p.length - (intOf i).toNat)
 case atStart=>exact ⟨0, .slice none 0 0,by omega,rfl,by simpa [Hid,sptL] using HB0.out,(Below.refl _ _).alloc (nl_ _) _⟩
 case round=>
  obtain ⟨k,v,hk,rfl,hb,hB⟩:=hrel
  have hsz:=hB.out.size
  by_cases hlt:k < p.length
  · have hlt':(k:Int) < (p.length:Int):=by omega
    obtain ⟨g,o,rfl,hg,_,_,hcell⟩:=SlC.cells HV.out (by omega)
    obtain ⟨k0,k1,k2⟩:=key_cells hlt
    have ha:=Ag_b hB.out HS.out
    have c0:=ha.cell hg (hcell _ _ k0)
    have c1:=ha.cell hg (hcell _ _ k1)
    have c2:=ha.cell hg (hcell _ _ k2)
    rw [← Nat.add_assoc] at c1 c2
    have hkk:=HOK.out p[k] (List.getElem_mem hlt)
    have hspl:(sptL (p.take k)).length ≤ 1006 * 1000:=by
     have h1:=sptL_len (p:=p.take k) fun z hz=>HOK.out z (List.mem_of_mem_take hz)
     rw [List.length_take] at h1
     have:min k p.length ≤ 1000:=by omega
     omega
    have hgen:=sptL_take hlt
    have hK:=hid (show sptK p[k] = 47 :: p[k].n ++ (if p[k].h then 58 :: Lib.itoa p[k].x else if p[k].x ≠ 0 then 63 :: Lib.itoa p[k].x else []) from rfl)
    obtain ⟨ky,hky⟩:∃ ky,p[k] = ky:=⟨_,rfl⟩
    rw [hky] at c0 c1 c2 hkk hgen hK
    have HG:=hid hgen
    have HKK:=hid hkk
    have HSP:=hid hspl
    have hng:¬ 9223372036854775807 < 1 + ky.n.length:=by have:=hkk.1;omega
    have hbw:Bld w.heap.size v (sptL (p.take k)) (wr.alloc (.cells #[.string (bs ky.n), .bool ky.h, .int .i64 ky.x] 71)):=hb.out.below ((Below.refl _ _).alloc (nl_ _) _)
    have HBW:=hid hbw
    clear hcell k0 k1 k2 hky hgen hkk hspl hbw ha
    go_wp2_with fail
    refine (WriteString_any w.heap.size v _ (47 :: ky.n) _ HBW.out (by have:=HSP.out;omega) (by have:=HKK.out.1;simp;omega)).mono ?_
    rintro e w2 ⟨rfl,v2,hb2,hk2,hj2⟩
    have hBlo:∀ b,BldO w.heap.size v b→b < wr.heap.size:=fun b hb'=>BldO.lt hb.out b hb'
    have hblk:w2.heap[wr.heap.size]? = some (.cells #[.string (bs ky.n), .bool ky.h, .int .i64 ky.x] 71 (0,0)):=(hk2.block _ (by simp) (fun h=>by have:=hBlo _ h;omega)).trans (heap_alloc_new _ _)
    have e1:=cg_ hblk (k:=1) rfl
    have e2:=cg_ hblk (k:=2) rfl
    have HBL:=hid hblk
    have hbel2:Below w.heap.size w w2:=(hB.out.alloc hsz _).trans (hk2.below (by simp;omega) (fun b hb' ho=>by
     rcases ho with rfl | ho
     · omega
     · have:=(BldO.ge hb.out b (.inr ho));omega))
    have HB2:=hid hbel2
    have HBD:=hid hb2
    have hz2:=hk2.size
    simp only [World.size_alloc] at hz2
    have HKK2:=hid (show (47 :: ky.n).length ≤ 1001 by have:=HKK.out.1;simp;omega)
    clear hbel2 hb2 hblk hk2 hj2
    by_cases hh:ky.h = true
    · have hlast:sptK ky = 47 :: ky.n ++ 58 :: Lib.itoa ky.x:=by rw [hK.out,if_pos hh]
      have HL:=hid hlast
      clear hlast
      go_wp2_with fail
      refine (Itoa_any ky.x (by have:=HKK.out.2.1;omega) (by have:=HKK.out.2.2;omega) _ (HT.out.below HB2.out)).mono ?_
      rintro e w3 ⟨rfl,hb3⟩
      have hil:=itoa_len HKK.out.2.1 HKK.out.2.2
      have hng2:¬ 9223372036854775807 < 1 + (Lib.itoa ky.x).length:=by omega
      have HBD3:=hid (HBD.out.below hb3)
      have HB3:=hid (HB2.out.trans (hb3.mono (by omega)))
      go_wp2_with fail
      refine (WriteString_any w.heap.size v2 _ (58 :: Lib.itoa ky.x) _ HBD3.out (by have h1:=HSP.out;have h2:=HKK2.out;simp only [List.length_append];omega) (by simp;omega)).mono ?_
      rintro e w4 ⟨rfl,v4,hb4,hk4,hj4⟩
      have hbel4:Below w.heap.size w w4:=HB3.out.trans (hk4.below (by have:=HB3.out.size;omega) (fun b hb' ho=>by
       have:=BldO.ge HBD3.out b ho;omega))
      go_wp2_with fail
      go_roundw
      case rel=>exact ⟨k + 1,v4,by omega,by go_num,by rw [Hid,HG.out,HL.out];simpa using hb4,hbel4⟩
      case measure=>simp [intOf];omega
    · have hh':ky.h = false:=by simpa using hh
      by_cases hx:ky.x = 0
      · have hlast:sptK ky = 47 :: ky.n:=by rw [hK.out,if_neg hh,if_neg (by simpa using hx),List.append_nil]
        have HL:=hid hlast
        have hx':(ky.x != 0) = false:=by simpa using hx
        have HX:=hid hx
        clear hlast hx
        go_wp2_with fail
        go_roundw
        case rel=>exact ⟨k + 1,v2,by omega,by go_num,by rw [Hid,HG.out,HL.out];exact HBD.out,HB2.out⟩
        case measure=>simp [intOf];omega
      · have hlast:sptK ky = 47 :: ky.n ++ 63 :: Lib.itoa ky.x:=by rw [hK.out,if_neg hh,if_pos hx]
        have HL:=hid hlast
        have hx':(ky.x != 0) = true:=by simpa using hx
        have HX:=hid hx
        clear hlast hx
        go_wp2_with fail
        refine (Itoa_any ky.x (by have:=HKK.out.2.1;omega) (by have:=HKK.out.2.2;omega) _ (HT.out.below HB2.out)).mono ?_
        rintro e w3 ⟨rfl,hb3⟩
        have hil:=itoa_len HKK.out.2.1 HKK.out.2.2
        have hng2:¬ 9223372036854775807 < 1 + (Lib.itoa ky.x).length:=by omega
        have HBD3:=hid (HBD.out.below hb3)
        have HB3:=hid (HB2.out.trans (hb3.mono (by omega)))
        go_wp2_with fail
        refine (WriteString_any w.heap.size v2 _ (63 :: Lib.itoa ky.x) _ HBD3.out (by have h1:=HSP.out;have h2:=HKK2.out;simp only [List.length_append];omega) (by simp;omega)).mono ?_
        rintro e w4 ⟨rfl,v4,hb4,hk4,hj4⟩
        have hbel4:Below w.heap.size w w4:=HB3.out.trans (hk4.below (by have:=HB3.out.size;omega) (fun b hb' ho=>by
         have:=BldO.ge HBD3.out b ho;omega))
        go_wp2_with fail
        go_roundw
        case rel=>exact ⟨k + 1,v4,by omega,by go_num,by rw [Hid,HG.out,HL.out];simpa using hb4,hbel4⟩
        case measure=>simp [intOf];omega
  · obtain rfl:k = p.length:=by omega
    have hlt':¬ (p.length:Int) < (p.length:Int):=by omega
    go_wp2_with fail
    refine (Tryz.Builder_String_any_k _ _ _ _ (Lib.IsBuilderF.of hb.out.is) (Nat.le_of_lt hb.out.lt)).mono ?_
    rintro e W2 ⟨rfl,_,hbw,_⟩
    have HBW:=hid hbw
    clear hbw
    go_wp2_with fail
    go_ret
    exact ⟨rfl,hB.out.trans HBW.out⟩
end Go.Proofs.LF
namespace Go.Proofs.LF
open Go.RowKit Go.Sort
set_option maxHeartbeats 4000000
set_option maxRecDepth 100000
attribute [local go_sem] bs_toList bs_size bs_get
def Grw (w w':World):Prop:=∃ q os,w' = grow (w.drewN q) os
theorem Grw.refl (w:World):Grw w w:=⟨0,#[],by simp [World.drewN]⟩
theorem Grw.alloc {w w':World} (h:Grw w w') (o:Obj):Grw w (w'.alloc o):=by
 obtain ⟨q,os,rfl⟩:=h
 exact ⟨q,os ++ #[o],by rw [alloc_eq_grow,grow_grow]⟩
theorem Grw.trans {a b c:World} (h:Grw a b) (k:Grw b c):Grw a c:=by
 obtain ⟨q,os,rfl⟩:=h
 obtain ⟨r,os',rfl⟩:=k
 refine ⟨q + r,os ++ os',?_⟩
 show grow (grow ((a.drewN q).drewN r) os) os' = _
 rw [grow_grow]
 congr 1
 simp [World.drewN,Nat.add_assoc]
theorem Grw.below {w w':World} (h:Grw w w'):Below w.heap.size w w':=by
 obtain ⟨q,os,rfl⟩:=h
 exact ⟨rfl,rfl,rfl,by simp [grow,World.drewN],fun b hb=>by
  show (w.heap ++ os)[b]? = _
  rw [Array.getElem?_append_left hb]⟩
theorem byKey_g (a b:Ky) (w:World) :
 Calls Tryz.prog 183 #[.agg #[.string (bs a.n), .bool a.h, .int .i64 a.x], .agg #[.string (bs b.n), .bool b.h, .int .i64 b.x]] w fun e w'=>e = .returned (.int .i64 (byK a b))∧Grw w w':=by
 obtain ⟨an,ah,ax⟩:=a
 obtain ⟨bn,bh,bx⟩:=b
 by_cases h:an = bn
 · have h':(an == bn) = true:=by simp [h]
   cases ah <;> cases bh
   all_goals
    go_enter Tryz.func183,Tryz.ntmps183
    go_wp2_with (first | (go_at_call 223;refine (cmps_any _ _ _).mono ?_;rintro e w' ⟨rfl,rfl⟩) | (go_at_call 224;refine (cmpi_any _ _ _).mono ?_;rintro e w' ⟨rfl,rfl⟩))
    go_ret
    exact ⟨ret_int (by simp [byK,h]),((Grw.refl _).alloc _).alloc _⟩
 · have h':(an == bn) = false:=by simp [h]
   go_enter Tryz.func183,Tryz.ntmps183
   go_wp2_with (first | (go_at_call 223;refine (cmps_any _ _ _).mono ?_;rintro e w' ⟨rfl,rfl⟩) | (go_at_call 224;refine (cmpi_any _ _ _).mono ?_;rintro e w' ⟨rfl,rfl⟩))
   go_ret
   exact ⟨ret_int (by simp [byK,h]),((Grw.refl _).alloc _).alloc _⟩
theorem cmpPaths_g (p q:List Ky) (ap aq:Option Addr) (cp cq:Nat) (S:Nat→Prop) (w:World) (hp:Pth S w (.slice ap p.length cp) p) (hq:Pth S w (.slice aq q.length cq) q) (hS:∀ b,S b→b < w.heap.size) (lp:p.length ≤ 1000) (lq:q.length ≤ 1000) :
 Calls Tryz.prog 191 #[.slice ap p.length cp, .slice aq q.length cq, .func (.func 183) #[] #[]] w fun e w'=>e = .returned (.int .i64 (cmpP p q))∧Grw w w':=by
 go_enter Tryz.func191,Tryz.ntmps191
 go_wp2_with fail
 go_loopw [13] (fun i wr=>∃ k:Nat,k ≤ p.length∧k ≤ q.length∧i = .int .i64 k∧Hid (cmpP p q = cmpP (p.drop k) (q.drop k))∧Grw w wr) (fun i _=>p.length - (intOf i).toNat)
 case atStart=>exact ⟨0,by omega,by omega,rfl,by simp [Hid],Grw.refl _⟩
 case round=>
  obtain ⟨k,hk,hk2,rfl,hN,hB⟩:=hrel
  have hBG:=hB
  replace hB:=hB.below
  have hsz:=hB.size
  by_cases hA:k < p.length
  · obtain ⟨g,o,rfl,hg,_,_,hcell⟩:=SlC.cells hp (by omega)
    obtain ⟨k0,k1,k2⟩:=key_cells hA
    have ha:=Ag_b hB hS
    have c0:=ha.cell hg (hcell _ _ k0)
    have c1:=ha.cell hg (hcell _ _ k1)
    have c2:=ha.cell hg (hcell _ _ k2)
    rw [← Nat.add_assoc] at c1 c2
    by_cases hB2:k < q.length
    · have a2:¬ (q.length:Int) ≤ (k:Int):=by omega
      have a3:(k:Int) < (q.length:Int):=by omega
      obtain ⟨g',o',rfl,hg',_,_,hcell'⟩:=SlC.cells hq (by omega)
      obtain ⟨k0',k1',k2'⟩:=key_cells hB2
      have hbx:Below w.heap.size w (wr.alloc (.cells #[.string (bs p[k].n), .bool p[k].h, .int .i64 p[k].x] 71)):=hB.alloc hsz _
      have hax:=Ag_b hbx hS
      have d0:=hax.cell hg' (hcell' _ _ k0')
      have d1:=hax.cell hg' (hcell' _ _ k1')
      have d2:=hax.cell hg' (hcell' _ _ k2')
      rw [← Nat.add_assoc] at d1 d2
      have hd:cmpP (p.drop k) (q.drop k) = if byK p[k] q[k] ≠ 0 then byK p[k] q[k] else cmpP (p.drop (k + 1)) (q.drop (k + 1)):=by
       rw [List.drop_eq_getElem_cons hA,List.drop_eq_getElem_cons hB2];rfl
      have HD:=hid hd
      have HBX:=hid hbx
      clear hcell k0 k1 k2 hcell' k0' k1' k2' hd hbx hax
      go_wp2_with fail
      refine (byKey_g p[k] q[k] _).mono ?_
      rintro e w2 ⟨rfl,hb2⟩
      have HB2:=hid (((hBG.alloc _).alloc _).trans hb2)
      clear hb2
      by_cases he:byK p[k] q[k] = 0
      · have he':(byK p[k] q[k] != 0) = false:=by simpa using he
        have HE:=hid he
        clear he
        go_wp2_with fail
        go_roundw
        case rel=>exact ⟨k + 1,by omega,by omega,by go_num,by rw [Hid,hN.out,HD.out,if_neg (by simpa using HE.out)],HB2.out⟩
        case measure=>simp [intOf];omega
      · have he':(byK p[k] q[k] != 0) = true:=by simpa using he
        have HE:=hid he
        clear he
        go_wp2_with fail
        go_ret
        exact ⟨ret_int (by rw [hN.out,HD.out,if_pos (by simpa using HE.out)]),HB2.out⟩
    · have a2:(q.length:Int) ≤ (k:Int):=by omega
      have hd:cmpP (p.drop k) (q.drop k) = 1:=by
       rw [List.drop_eq_getElem_cons hA,List.drop_eq_nil_of_le (by omega:q.length ≤ k)];rfl
      clear hcell k0 k1 k2
      go_wp2_with fail
      go_ret
      exact ⟨ret_int (by rw [hN.out,hd]),hBG.alloc _⟩
  · have hA':¬ (k:Int) < (p.length:Int):=by omega
    obtain rfl:k = p.length:=by omega
    by_cases hB2:p.length < q.length
    · have a2:(p.length:Int) < (q.length:Int):=by omega
      have hd:cmpP (p.drop p.length) (q.drop p.length) = -1:=by
       rw [List.drop_eq_getElem_cons hB2,List.drop_length];rfl
      go_wp2_with fail
      go_ret
      exact ⟨ret_int (by rw [hN.out,hd]),hBG⟩
    · have a2:¬ (p.length:Int) < (q.length:Int):=by omega
      have hd:cmpP (p.drop p.length) (q.drop p.length) = 0:=by
       rw [List.drop_length,List.drop_eq_nil_of_le (by omega)];rfl
      go_wp2_with fail
      go_ret
      exact ⟨ret_int (by rw [hN.out,hd]),hBG⟩
theorem byPath_g (p q:List Ky) (ap aq:Option Addr) (cp cq:Nat) (S:Nat→Prop) (w:World) (hp:Pth S w (.slice ap p.length cp) p) (hq:Pth S w (.slice aq q.length cq) q) (hS:∀ b,S b→b < w.heap.size) (lp:p.length ≤ 1000) (lq:q.length ≤ 1000) :
 Calls Tryz.prog 103 #[.slice ap p.length cp, .slice aq q.length cq] w fun e w'=>e = .returned (.int .i64 (cmpP p q))∧Grw w w':=by
 have H:=hid (cmpPaths_g p q ap aq cp cq S w hp hq hS lp lq)
 go_enter Tryz.func103,Tryz.ntmps103
 go_wp2_with fail
 refine H.out.mono ?_
 rintro e w1 ⟨rfl,hb1⟩
 go_wp2_with fail
 go_ret
 exact ⟨rfl,hb1⟩
end Go.Proofs.LF
namespace Go.Proofs.LF
def spl:List UInt8→List UInt8→List (List UInt8)
 | w,[]=>[w]
 | w,c :: r=>if c = 32 then w :: spl [] r else spl (w ++ [c]) r
theorem spl_app:∀ (x w y:List UInt8),(∀ c ∈ x,c ≠ 32)→spl w (x ++ y) = spl (w ++ x) y
 | [],w,y,_=>by simp
 | c :: x,w,y,h=>by
   simp only [List.cons_append,spl]
   rw [if_neg (h c (by simp)),spl_app x (w ++ [c]) y (fun d hd=>h d (by simp [hd]))]
   simp
def DigW (v:List UInt8):Prop:=(∀ c ∈ v,digitB c = true)∧v.length ≤ 4
theorem spl_nums:∀ (m:Nat) (s w:List UInt8),(rdNums m s).2.2 = true→∃ ws,spl w (s.take (rdNums m s).2.1) = w :: ws∧ws.map (fun l=>((decN l:Nat):Int)) = (rdNums m s).1∧∀ v ∈ ws,DigW v
 | 0,s,w,_=>⟨[],by simp [rdNums,spl],by simp [rdNums],by simp⟩
 | m + 1,s,w,h=>by
   by_cases hb:s.head? = some 32
   · obtain ⟨s1,rfl⟩:∃ s1,s = 32 :: s1:=by cases s with | nil=>cases hb | cons c r=>simp at hb;exact ⟨r,by rw [hb]⟩
     have hr:runN blankB 1 (32 :: s1) = 1:=by rw [runN_blank1];rfl
     simp only [rdNums,hr,Nat.one_ne_zero,if_false,List.drop_succ_cons,List.drop_zero] at h ⊢
     by_cases hn:runN digitB (mostD s1) s1 = 0
     · simp [hn] at h
     · simp only [hn,if_false] at h ⊢
       have hall:=runN_all (p:=digitB) (m:=mostD s1) (s:=s1)
       have hle:=runN_le (p:=digitB) (m:=mostD s1) (l:=s1)
       have hm4:mostD s1 ≤ 4:=by unfold mostD;split <;> omega
       generalize hN:runN digitB (mostD s1) s1 = n at *
       obtain ⟨ws,h1,h2,h3⟩:=spl_nums m (s1.drop n) (s1.take n) h
       refine ⟨s1.take n :: ws,?_,by simp [h2],fun v hv=>?_⟩
       · rw [show 1 + n + (rdNums m (s1.drop n)).2.1 = (n + (rdNums m (s1.drop n)).2.1) + 1 by omega,List.take_succ_cons,spl,if_pos rfl,List.take_add,spl_app _ _ _ (fun c hc e=>by have:=digitB_iff.1 (hall c hc);subst e;simp at this),List.nil_append,h1]
       · rcases List.mem_cons.1 hv with rfl | hv
         · exact ⟨hall,by rw [List.length_take];omega⟩
         · exact h3 v hv
   · have hr:runN blankB 1 s = 0:=by rw [runN_blank1,if_neg hb]
     simp only [rdNums,hr,if_true]
     exact ⟨[],by simp [spl],by simp,by simp⟩
theorem blanksF_app {x y:List UInt8} (h:∀ c ∈ x,c = 32) (h2:∀ c,y.head? = some c→c ≠ 32):blanksF (x ++ y) = x.length:=by
 unfold blanksF
 rw [List.takeWhile_append_of_pos (by simpa using h)]
 cases y with
 | nil=>simp
 | cons c r=>rw [List.takeWhile_cons_of_neg (by simpa using h2 c rfl)];simp
theorem rd_line (dp:Nat) (s:List UInt8) (h:(rdLine dp s).2.2.2.2 = true):blanksF (s.take (rdLine dp s).2.2.2.1) = (rdLine dp s).1 ∧
 ∃ ws,spl [] ((s.take (rdLine dp s).2.2.2.1).drop (rdLine dp s).1) = (rdLine dp s).2.1 :: ws∧ws.map (fun l=>((decN l:Nat):Int)) = (rdLine dp s).2.2.1∧∀ v ∈ ws,DigW v:=by
 have hblank:=runN_all (p:=blankB) (m:=dp) (s:=s)
 have hd:=runN_le (p:=blankB) (m:=dp) (l:=s)
 simp only [rdLine] at h ⊢
 generalize hD:runN blankB dp s = d at *
 generalize hs1:s.drop d = s1 at *
 have hall:=runN_all (p:=smallB) (m:=8) (s:=s1)
 have hle:=runN_le (p:=smallB) (m:=8) (l:=s1)
 generalize hK:runN smallB 8 s1 = k at *
 by_cases h0:k = 0
 · simp [h0] at h
 · simp only [h0,if_false,Bool.and_eq_true] at h ⊢
   obtain ⟨ws,h1,h2,h3⟩:=spl_nums 4 (s1.drop k) (s1.take k) h.1
   have hne:s1.take k ≠ []:=fun e=>by
    have hl:(s1.take k).length = k:=by rw [List.length_take];omega
    rw [e] at hl;simp at hl;omega
   have e1:s.take (d + k + (rdNums 4 (s1.drop k)).2.1) = s.take d ++ (s1.take k ++ (s1.drop k).take (rdNums 4 (s1.drop k)).2.1):=by
    rw [show d + k + (rdNums 4 (s1.drop k)).2.1 = d + (k + (rdNums 4 (s1.drop k)).2.1) by omega,List.take_add,hs1,List.take_add]
   have hdl:(s.take d).length = d:=by rw [List.length_take];omega
   have h32:∀ c ∈ s1.take k,c ≠ 32:=fun c hc e=>by have:=smallB_iff.1 (hall c hc);subst e;simp at this
   refine ⟨?_,ws,?_,h2,h3⟩
   · rw [e1,blanksF_app (fun c hc=>by have:=hblank c hc;simpa [blankB] using this) (fun c hc=>?_),hdl]
     cases hq:s1.take k with
     | nil=>exact absurd hq hne
     | cons b r=>
       rw [hq] at hc h32
       simp at hc
       exact hc ▸ h32 b (by simp)
   · rw [e1,List.drop_left' hdl,spl_app _ _ _ h32,List.nil_append,h1]
def lstP (l:List Fl):List Ky:=(l.getLast?.map Fl.p).getD []
def refRd (s:List UInt8):Nat × List UInt8 × List Int:=(blanksF s,(spl [] (s.drop (blanksF s))).head!,(spl [] (s.drop (blanksF s))).tail.map (fun l=>((decN l:Nat):Int)))
def sibB (d:Nat) (p:List Ky) (x:Fl):Bool:=decide (x.p.length = p.length) && decide (x.p.take d = p.take d) && !befK (x.p.getD d ky0) (p.getD d ky0)
def refG (t:List UInt8):Nat→Nat→Nat→Nat→List Fl→List Fl × Nat × Nat × Nat
 | 0,_,_,_,_=>([],0,0,0)
 | f + 1,i,ln,dp,out=>
   if i < t.length then
    if 60 ≤ ln then ([],ln,0,2)
    else
     let k:=kS dp (.lead 0) (t.drop i)
     if k = 0 ∨ t.getD (i + k - 1) 0 ≠ 10 then ([],ln,k,11)
     else
      let r:=refRd ((t.drop i).take (k - 1))
      let p:=(lstP out).take r.1 ++ [kyOf r.2.1 r.2.2]
      if out.any (sibB r.1 p) then ([],ln,r.1,4)
      else refG t f (i + k) (ln + 1) (min (r.1 + 1) 3) (out ++ [⟨p,r.2.2⟩])
   else (out,0,0,0)
def refP (t:List UInt8):List Fl × Nat × Nat × Nat:=refG t 62 0 0 0 []
theorem byK_bef (a b:Ky):decide (0 ≤ byK a b) = !befK a b:=by
 unfold byK befK
 by_cases hn:a.n = b.n
 · by_cases hh:a.h = b.h
   · simp only [hn,hh,ne_eq,not_true,if_false,cmpI]
     by_cases h1:a.x < b.x
     · simp [h1]
     · by_cases h2:b.x < a.x <;> simp [h1,h2]
   · simp only [hn,hh,ne_eq,not_true,not_false_eq_true,if_false,if_true]
     cases b.h <;> simp
 · simp only [hn,ne_eq,not_false_eq_true,if_true,cmpB]
   cases h1:Op.bytesLess a.n b.n
   · cases h2:Op.bytesLess b.n a.n <;> simp
   · simp
structure Inv (fs:List Fl):Prop where
 srt:Srt fs
 clo:Clo fs
 kok:KOk fs
 four:∀ x ∈ fs,x.p.length ≤ 4
theorem Inv.nil:Inv []:=⟨List.Pairwise.nil,(fun x hx=>by cases hx),(fun x hx=>by cases hx),(fun x hx=>by cases hx)⟩
theorem clo_pre {fs:List Fl} (h:Clo fs):∀ (n:Nat) (t u:List Ky) (x:Fl),t.length = n→x ∈ fs→x.p = u ++ t→u ≠ []→∃ z ∈ fs,z.p = u
 | 0,t,u,x,hn,hx,hp,_=>⟨x,hx,by rw [hp,List.length_eq_zero_iff.1 hn,List.append_nil]⟩
 | n + 1,t,u,x,hn,hx,hp,hu=>by
   obtain ⟨t',k,rfl⟩:∃ t' k,t = t' ++ [k]:=⟨t.dropLast,t.getLast (by intro e;rw [e] at hn;simp at hn),by rw [List.dropLast_concat_getLast]⟩
   have hd:x.p.dropLast = u ++ t':=by rw [hp,← List.append_assoc,List.dropLast_concat]
   obtain ⟨z,hz,hzp⟩:=h x hx (by rw [hd];simp [hu])
   exact clo_pre h n t' u z (by simpa using hn) hz (hzp.trans hd) hu
theorem lstP_mem {fs:List Fl} (h:fs ≠ []):∃ a ∈ fs,lstP fs = a.p:=by
 refine ⟨fs.getLast h,List.getLast_mem h,?_⟩
 unfold lstP
 rw [List.getLast?_eq_some_getLast h];rfl
theorem lstP_max {fs:List Fl} (h:Srt fs) {x:Fl} (hx:x ∈ fs):cmpP x.p (lstP fs) ≤ 0:=by
 have hne:fs ≠ []:=List.ne_nil_of_mem hx
 have hl:=List.dropLast_concat_getLast hne
 have hlp:lstP fs = (fs.getLast hne).p:=by unfold lstP;rw [List.getLast?_eq_some_getLast hne];rfl
 rw [hlp]
 rw [← hl] at hx h
 rcases List.mem_append.1 hx with hx | hx
 · unfold Srt at h
   rw [List.pairwise_append] at h
   exact Int.le_of_lt (h.2.2 x hx _ (by simp))
 · obtain rfl:x = _:=by simpa using hx
   rw [cmpP_ord.refl];exact Int.le_refl _
theorem order_eq {fs:List Fl} (h:Inv fs) {d:Nat} {k:Ky} (hd:d ≤ (lstP fs).length) :
 fs.any (fun x=>decide (0 ≤ cmpP x.p ((lstP fs).take d ++ [k]))) = fs.any (sibB d ((lstP fs).take d ++ [k])):=by
 have hql:((lstP fs).take d).length = d:=by rw [List.length_take];omega
 have hsp:lstP fs = (lstP fs).take d ++ (lstP fs).drop d:=(List.take_append_drop _ _).symm
 generalize hq:(lstP fs).take d = q at *
 have hgk:(q ++ [k]).getD d ky0 = k:=by
  rw [List.getD_eq_getElem?_getD,List.getElem?_append_right (by omega),hql];simp
 have htk:(q ++ [k]).take d = q:=List.take_left' hql
 rw [Bool.eq_iff_iff]
 simp only [List.any_eq_true,decide_eq_true_eq]
 constructor
 · rintro ⟨x,hx,hc⟩
   have h1:cmpP q x.p ≤ 0:=by
    have hqp:cmpP q (q ++ [k]) < 0:=cmpP_pre _ _ (by simp)
    rcases Int.lt_or_eq_of_le hc with hlt | heq
    · exact Int.le_of_lt (cmpP_ord.trans hqp (cmpP_ord.flop hlt))
    · rw [cmpP_ord.eq heq.symm];exact Int.le_of_lt hqp
   have h2:=lstP_max h.srt hx
   rw [hsp] at h2
   obtain ⟨t,ht⟩:=pre_between h1 h2
   cases t with
   | nil=>
     rw [ht,List.append_nil] at hc
     have:=cmpP_pre q [k] (by simp)
     omega
   | cons y t=>
     obtain ⟨z,hz,hzp⟩:=clo_pre h.clo t.length t (q ++ [y]) x rfl hx (by rw [ht];simp) (by simp)
     refine ⟨z,hz,?_⟩
     have hgy:(q ++ [y]).getD d ky0 = y:=by
      rw [List.getD_eq_getElem?_getD,List.getElem?_append_right (by omega),hql];simp
     have hty:(q ++ [y]).take d = q:=List.take_left' hql
     simp only [sibB,hzp,hgk,hgy,htk,hty,List.length_append,List.length_singleton,decide_true,Bool.true_and]
     rw [← byK_bef,decide_eq_true_eq]
     rw [ht,cmpP_same] at hc
     simp only [cmpP] at hc
     by_cases h0:byK y k = 0
     · omega
     · simpa [h0] using hc
 · rintro ⟨x,hx,hc⟩
   refine ⟨x,hx,?_⟩
   simp only [sibB,Bool.and_eq_true,decide_eq_true_eq,List.length_append,List.length_singleton,hql,htk,hgk] at hc
   obtain ⟨⟨hl,ht⟩,hb⟩:=hc
   have hxp:x.p = q ++ [x.p.getD d ky0]:=by
    have h1:=(List.take_append_drop d x.p).symm
    rw [ht] at h1
    have h2:x.p.drop d = [x.p.getD d ky0]:=by
     rw [List.drop_eq_getElem_cons (by omega),List.drop_of_length_le (by omega)]
     simp [List.getD_eq_getElem?_getD,show d < x.p.length by omega]
    rw [h2] at h1;exact h1
   rw [← byK_bef,decide_eq_true_eq] at hb
   rw [hxp,cmpP_same]
   simp only [cmpP]
   split <;> omega
theorem Inv.more {fs:List Fl} (h:Inv fs) {d:Nat} {n:List UInt8} {l:List Int} (hd:d ≤ (lstP fs).length) (hd3:d ≤ 3) (ho:fs.any (fun x=>decide (0 ≤ cmpP x.p ((lstP fs).take d ++ [kyOf n l]))) = false):Inv (fs ++ [⟨(lstP fs).take d ++ [kyOf n l],l⟩]):=by
 have hlt:∀ x ∈ fs,cmpP x.p ((lstP fs).take d ++ [kyOf n l]) < 0:=fun x hx=>by
  rw [List.any_eq_false] at ho
  have:=ho x hx
  simp only [decide_eq_true_eq] at this;omega
 refine ⟨?_,?_,?_,?_⟩
 · unfold Srt
   rw [List.pairwise_append]
   exact ⟨h.srt, by simp, fun a ha b hb => by obtain rfl : b = _ := by simpa using hb
                                              exact hlt a ha⟩
 · intro x hx hne
   rcases List.mem_append.1 hx with hx | hx
   · obtain ⟨z,hz,hp⟩:=h.clo x hx hne
     exact ⟨z,by simp [hz],hp⟩
   · obtain rfl:x = _:=by simpa using hx
     simp only [List.dropLast_concat] at hne ⊢
     have hfs:fs ≠ []:=fun e=>by subst e;simp [lstP] at hne
     obtain ⟨a,ha,hap⟩:=lstP_mem hfs
     obtain ⟨z,hz,hp⟩:=clo_pre h.clo ((lstP fs).drop d).length ((lstP fs).drop d) ((lstP fs).take d) a rfl ha (by rw [← hap,List.take_append_drop]) hne
     exact ⟨z,by simp [hz],hp⟩
 · intro x hx
   rcases List.mem_append.1 hx with hx | hx
   · exact h.kok x hx
   · obtain rfl:x = _:=by simpa using hx
     exact ⟨_,n,rfl⟩
 · intro x hx
   rcases List.mem_append.1 hx with hx | hx
   · exact h.four x hx
   · obtain rfl:x = _:=by simpa using hx
     simp;omega
theorem lstP_app (fs:List Fl) (x:Fl):lstP (fs ++ [x]) = x.p:=by simp [lstP]
theorem prs_ref (t:List UInt8):∀ (f i ln dp:Nat) (ks:List Ky) (fs:List Fl),Inv fs→ks.length = 4→dp ≤ 3→dp ≤ (lstP fs).length→ks.take (lstP fs).length = lstP fs →
 prsG t f i ln dp ks fs = refG t f i ln dp fs∧Inv (prsG t f i ln dp ks fs).1
 | 0,_,_,_,_,_,_,_,_,_,_=>⟨rfl,Inv.nil⟩
 | f + 1,i,ln,dp,ks,fs,hI,h4,h3,hl,hk=>by
   simp only [prsG,refG]
   by_cases hi:i < t.length
   · rw [if_pos hi,if_pos hi]
     by_cases h60:60 ≤ ln
     · rw [if_pos h60,if_pos h60];exact ⟨rfl,Inv.nil⟩
     · rw [if_neg h60,if_neg h60]
       obtain ⟨k1,k2,k3⟩:=kS_line dp (t.drop i)
       have hle:=rdLine_le dp (t.drop i)
       rw [k1]
       generalize hr:rdLine dp (t.drop i) = r at *
       by_cases hok:r.2.2.2.2 = false
       · rw [if_pos hok]
         have hc:(r.2.2.2.1 + (if r.2.2.2.2 = true then 1 else 0) = 0 ∨ t.getD (i + (r.2.2.2.1 + (if r.2.2.2.2 = true then 1 else 0)) - 1) 0 ≠ 10):=by
          rw [if_neg (by rw [hok];simp),Nat.add_zero]
          by_cases h0:r.2.2.2.1 = 0
          · exact .inl h0
          · refine .inr (fun e=>?_)
            have hlt:r.2.2.2.1 - 1 < (t.drop i).length:=by omega
            refine k2 ((t.drop i)[r.2.2.2.1 - 1]) ?_ ?_
            · rw [List.mem_take_iff_getElem]
              exact ⟨r.2.2.2.1 - 1,by omega,rfl⟩
            · rw [List.getElem_drop]
              rw [List.length_drop] at hlt
              rw [List.getD_eq_getElem?_getD,List.getElem?_eq_getElem (by omega)] at e
              simp only [Option.getD_some] at e
              rw [← e];congr 1;omega
         rw [if_pos hc,if_neg (by rw [hok];simp),Nat.add_zero]
         exact ⟨rfl,Inv.nil⟩
       · have hok':r.2.2.2.2 = true:=by simpa using hok
         rw [if_neg hok]
         have hrl:blanksF ((t.drop i).take r.2.2.2.1) = r.1∧∃ ws,spl [] (((t.drop i).take r.2.2.2.1).drop r.1) = r.2.1 :: ws∧ws.map (fun l=>((decN l:Nat):Int)) = r.2.2.1∧∀ v ∈ ws,DigW v:=by
          have:=rd_line dp (t.drop i) (by rw [hr];exact hok')
          rwa [hr] at this
         have hlt:=hle.2.2.2.2 hok'
         rw [List.length_drop] at hlt
         have h10:t.getD (i + (r.2.2.2.1 + 1) - 1) 0 = 10:=by
          have:=k3 hok'
          rw [List.drop_drop,List.head?_drop] at this
          rw [show i + (r.2.2.2.1 + 1) - 1 = i + r.2.2.2.1 by omega,List.getD_eq_getElem?_getD,this];rfl
         simp only [hok',if_true,Nat.add_one_ne_zero,false_or,h10,ne_eq,not_true,if_false,Nat.add_sub_cancel]
         have hrd:refRd ((t.drop i).take r.2.2.2.1) = (r.1,r.2.1,r.2.2.1):=by
          obtain ⟨hb,ws,hw,hm,_⟩:=hrl
          simp only [refRd,hb,hw,List.tail_cons,hm]
          rfl
         rw [hrd]
         simp only
         have hd:r.1 ≤ (lstP fs).length:=by omega
         have hp:(ks.set r.1 (kyOf r.2.1 r.2.2.1)).take (r.1 + 1) = (lstP fs).take r.1 ++ [kyOf r.2.1 r.2.2.1]:=by
          have e1:(lstP fs).take r.1 = ks.take r.1:=by
           rw [← hk,List.take_take,Nat.min_eq_left hd]
          rw [e1,List.take_succ_eq_append_getElem (by rw [List.length_set];omega),List.take_set_of_le (nl_ _)]
          simp
         rw [hp,order_eq hI hd]
         by_cases ho:fs.any (sibB r.1 ((lstP fs).take r.1 ++ [kyOf r.2.1 r.2.2.1])) = true
         · rw [if_pos ho,if_pos ho];exact ⟨rfl,Inv.nil⟩
         · rw [if_neg ho,if_neg ho]
           have ho':=order_eq hI hd (k:=kyOf r.2.1 r.2.2.1)
           rw [show fs.any (sibB r.1 ((lstP fs).take r.1 ++ [kyOf r.2.1 r.2.2.1])) = false by simpa using ho] at ho'
           have hI':=hI.more hd (by omega) ho'
           have:=prs_ref t f (i + r.2.2.2.1 + 1) (ln + 1) (min (r.1 + 1) 3) (ks.set r.1 (kyOf r.2.1 r.2.2.1)) (fs ++ [⟨(lstP fs).take r.1 ++ [kyOf r.2.1 r.2.2.1],r.2.2.1⟩]) hI' (by rw [List.length_set];exact h4) (by omega) (by rw [lstP_app];simp;omega) (by
            rw [lstP_app]
            simp only [List.length_append,List.length_take,List.length_singleton]
            rw [Nat.min_eq_left hd];exact hp)
           rw [← Nat.add_assoc]
           exact this
   · rw [if_neg hi,if_neg hi];exact ⟨rfl,hI⟩
theorem prs_refP (t:List UInt8):prs t = refP t∧Inv (prs t).1:=prs_ref t 62 0 0 0 _ [] Inv.nil rfl (by omega) (by simp) rfl
end Go.Proofs.LF
namespace Go.Proofs.LF
open Go.RowKit Go.Sort
set_option maxHeartbeats 4000000
set_option maxRecDepth 100000
attribute [local go_sem] bs_toList bs_size bs_get
def RunR (p:UInt8→Bool) (R:Nat) (t:List UInt8) (i most:Nat) (vs:List Value) (w:World) (e:Ending) (w':World):Prop:=
 ∃ s:List UInt8,e = .returned (.string (bs s))∧Hid (s = (t.drop i).take (runN p most (t.drop i)))∧Hid (s.length = runN p most (t.drop i))∧Hid (s.length ≤ most∧i + s.length ≤ t.length)∧Hid (Rdr R t (i + s.length) vs w')∧Hid (Keep (· = R) w w')
theorem RunR.of {p:UInt8→Bool} {R:Nat} {t:List UInt8} {i most:Nat} {vs:List Value} {w:World} {e:Ending} {w':World} (hi:i ≤ t.length)
 (h:e = .returned (.string (bs ((t.drop i).take (runN p most (t.drop i)))))∧Rdr R t (i + runN p most (t.drop i)) vs w'∧Keep (· = R) w w'):RunR p R t i most vs w e w':=by
 have hl:=runN_le (p:=p) (m:=most) (l:=t.drop i)
 have hs:((t.drop i).take (runN p most (t.drop i))).length = runN p most (t.drop i):=by rw [List.length_take];omega
 rw [List.length_drop] at hl
 exact ⟨_,h.1,rfl,hs,by rw [Hid,hs];omega,by rw [Hid,hs];exact h.2.1,h.2.2⟩
theorem blank_runs (R:Nat) (t:List UInt8) (i most:Nat) (vs:List Value) (w:World) (hr:Rdr R t i vs w) (ht:t.length ≤ 100000) (hi:i ≤ t.length) (hm:most ≤ 1000) :
 Calls Tryz.prog 184 #[.pointer (some ⟨R,0,none⟩), .func (.func 225) #[] #[], .int .i64 most] w (RunR blankB R t i most vs w):=
 (runA_any 225 enters225 blankB R t i most vs w hr ht hi hm fun c W=>isBlank_any c W).mono fun _ _ h=>RunR.of hi h
theorem small_runs (R:Nat) (t:List UInt8) (i most:Nat) (vs:List Value) (w:World) (hr:Rdr R t i vs w) (ht:t.length ≤ 100000) (hi:i ≤ t.length) (hm:most ≤ 1000) :
 Calls Tryz.prog 184 #[.pointer (some ⟨R,0,none⟩), .func (.func 187) #[.agg #[.int .u8 97, .int .u8 122]] #[], .int .i64 most] w (RunR smallB R t i most vs w):=
 (runB_any 97 122 smallB R t i most vs w hr ht hi hm fun c W=>has_any 97 122 c.toNat W).mono fun _ _ h=>RunR.of hi h
theorem digit_runs (R:Nat) (t:List UInt8) (i most:Nat) (vs:List Value) (w:World) (hr:Rdr R t i vs w) (ht:t.length ≤ 100000) (hi:i ≤ t.length) (hm:most ≤ 1000) :
 Calls Tryz.prog 184 #[.pointer (some ⟨R,0,none⟩), .func (.func 187) #[.agg #[.int .u8 48, .int .u8 57]] #[], .int .i64 most] w (RunR digitB R t i most vs w):=
 (runB_any 48 57 digitB R t i most vs w hr ht hi hm fun c W=>has_any 48 57 c.toNat W).mono fun _ _ h=>RunR.of hi h
end Go.Proofs.LF
namespace Go.Proofs.LF
open Go.RowKit Go.Sort
set_option maxHeartbeats 4000000
set_option maxRecDepth 100000
attribute [local go_sem] bs_toList bs_size bs_get
theorem fstK_sm {k:Ky} {n:List UInt8} {l:List Int} {s:Fo}:∀ {y:Fo},y.Sm→fstK k y = some (n,l,s)→n.length ≤ 1000∧l.length ≤ 1000∧s.len ≤ 1000∧s.Sm
 | .nil,_,h=>by cases h
 | .cons n' l' s' r,⟨h1,h2,h3,h4,h5⟩,h=>by
   simp only [fstK] at h
   split at h
   · cases h;exact ⟨h1,h2,h3,h4⟩
   · exact fstK_sm h5 h
theorem atF_sm {n:List UInt8} {l:List Int} {s:Fo}:∀ {p:List Ky} {y:Fo},y.Sm→atF y p = some (n,l,s)→n.length ≤ 1000∧l.length ≤ 1000∧s.len ≤ 1000∧s.Sm
 | [],y,_,h=>by cases y <;> cases h
 | k :: r,y,hy,h=>by
   have e:atF y (k :: r) = match fstK k y with | none=>none | some x=>if r = [] then some x else atF x.2.2 r:=by cases y <;> rfl
   rw [e] at h
   cases hk:fstK k y with
   | none=>rw [hk] at h;cases h
   | some x=>
     rw [hk] at h
     obtain ⟨n',l',s'⟩:=x
     simp only at h
     split at h
     · cases h;exact fstK_sm hy hk
     · exact atF_sm (fstK_sm hy hk).2.2.2 h
theorem one_node {S:Nat→Prop} {w:World} {b:Nat} {n:List UInt8} {l:List Int} {s:Fo} {vn vs:Value} {t:TypeId} {fr:Nat × Nat} (hb:w.heap[b]? = some (.cells #[.string (bs n),vn,vs] t fr)) (h1:Ints S w vn l) (h2:FSl S w vs s) :
 FSl (fun x=>S x ∨ x = b) w (.slice (some ⟨b,0,none⟩) 1 1) (.cons n l s .nil):=by
 obtain ⟨ds,h3,h4⟩:=h2
 refine ⟨[.string (bs n),vn,vs],⟨by rfl,some ⟨b,0,none⟩,1,rfl,nl_ _,by simp [maxLen],(fun h=>by cases h), .inr ⟨b,0,rfl, .inr rfl,fun j u hj=>?_⟩⟩,vn,vs,[],rfl,h1.wide (fun _ h => .inl h),⟨ds,h3.wide (fun _ h => .inl h),h4.wide (fun _ h => .inl h)⟩,rfl⟩
 rw [Nat.zero_add]
 simp only [World.cell?,hb]
 simpa using hj
def getE (y:Fo) (p:List Ky):Int:=if chkY y ≠ 0 then chkY y else if (atF y p).isSome then 0 else 1
def getN (y:Fo) (p:List Ky):List UInt8 × List Int × Fo:=if getE y p = 0 then (atF y p).getD ([],[], .nil) else ([],[], .nil)
theorem ret56 {tmps:Array Value} {W:World} {b:Nat} {x y z t5:Value} (h:W.heap[b]? = some (.cells #[x,y,z] 85 (0,0))) (h2:tmps.getD 4 undef = .pointer (some ⟨b,0,none⟩)) (h3:tmps.getD 5 undef = t5) :
 (results Tryz.f56 tmps).run Tryz.prog W = .ok (.tuple #[.agg #[x,y,z],t5]) W:=by
 have h0:=cg_ h (k:=0) rfl
 have h1:=cg_ h (k:=1) rfl
 have h4:=cg_ h (k:=2) rfl
 rw [results_cell_tmp rfl,h2,h3]
 simp [go_sem,h0,h1,h4]
theorem below_set3 {lo b:Nat} {w W:World} {x y z:Value} (h:Below lo w W) (hb:lo ≤ b):Below lo w (((W.setCell ⟨b,0,none⟩ x).setCell ⟨b,1,none⟩ y).setCell ⟨b,2,none⟩ z):=
 Below.setCell (Below.setCell (Below.setCell h (p:=⟨b,0,none⟩) hb _) (p:=⟨b,1,none⟩) hb _) (p:=⟨b,2,none⟩) hb _
def GetR (y:Fo) (p:List Ky) (w:World) (e:Ending) (w':World):Prop:=
 ∃ n l s an cn ab cb,getN y p = (n,l,s)∧e = .returned (.tuple #[.agg #[.string (bs n), .slice an l.length cn, .slice ab s.len cb], .int .i64 (getE y p)]) ∧
  Ints (Rg w.heap.size w'.heap.size) w' (.slice an l.length cn) l∧FSl (Rg w.heap.size w'.heap.size) w' (.slice ab s.len cb) s∧Below w.heap.size w w'
def GetU (y:Fo) (p:List Ky) (w:World) (e:Ending) (w':World):Prop:=
 ∃ n l s an cn ab cb,getN y p = (n,l,s)∧e = .returned (.tuple #[.agg #[.string (bs n), .slice an l.length cn, .slice ab s.len cb], .int .i64 (getE y p)]) ∧
  IntU (Rg w.heap.size w'.heap.size) w' (.slice an l.length cn) l∧FSlU (Rg w.heap.size w'.heap.size) w' (.slice ab s.len cb) s∧Below w.heap.size w w'
theorem GetU.getR {y:Fo} {p:List Ky} {w w':World} {e:Ending} (h:GetU y p w e w'):GetR y p w e w':=
 let ⟨n,l,s,an,cn,ab,cb,h1,h2,h3,h4,h5⟩:=h
 ⟨n,l,s,an,cn,ab,cb,h1,h2,Ints.wide h3 (fun _ hb=>hb.1),FSlU.fsl h4,h5⟩
theorem GetU.bad {y:Fo} {p:List Ky} {w w':World} {x:Int} (hx:getE y p = x) (h0:x ≠ 0) (hb:Below w.heap.size w w'):GetU y p w (.returned (.tuple #[.agg #[.string { data:=#[] }, .slice none 0 0, .slice none 0 0], .int .i64 x])) w':=by
 subst hx
 exact ⟨[],[], .nil,none,0,none,0,by simp [getN,h0],rfl,⟨rfl,_,0,rfl,nl_ _,by simp [maxLen],fun _=>rfl, .inl rfl⟩,⟨[],⟨rfl,_,0,rfl,nl_ _,by simp [maxLen],fun _=>rfl, .inl rfl⟩,rfl⟩,hb⟩
theorem own_one (n:List UInt8) (l:List Int) (s:Fo) (vn vs:Value) (b:Nat) (t:TypeId) (fr:Nat × Nat) (S:Nat→Prop) (W:World) (hb:W.heap[b]? = some (.cells #[.string (bs n),vn,vs] t fr)) (h1:Ints S W vn l) (h2:FSl S W vs s)
 (hS:∀ b,S b→b < W.heap.size) (s1:n.length ≤ 1000) (s2:l.length ≤ 1000) (s3:s.len ≤ 1000) (s4:s.Sm) :
 Calls Tryz.prog 133 #[.slice (some ⟨b,0,none⟩) 1 1] W fun e w'=>∃ g o c an cn ab cb,e = .returned (.slice (some ⟨g,o,none⟩) 1 c)∧1 ≤ c∧W.heap.size ≤ g∧w'.cell? ⟨g,o,none⟩ = some (.string (bs n))∧w'.cell? ⟨g,o + 1,none⟩ = some (.slice an l.length cn)∧w'.cell? ⟨g,o + 2,none⟩ = some (.slice ab s.len cb) ∧
  IntU (Rg W.heap.size w'.heap.size) w' (.slice an l.length cn) l∧FSlU (Rg W.heap.size w'.heap.size) w' (.slice ab s.len cb) s∧Below W.heap.size W w':=by
 have hlt:b < W.heap.size:=(Array.getElem?_eq_some_iff.1 hb).1
 refine (own_any _ (.cons n l s .nil) (some ⟨b,0,none⟩) 1 (fun x=>S x ∨ x = b) W (Nat.lt_succ_self _) (one_node hb h1 h2) (fun x hx=>hx.elim (hS x) (fun h=>by omega)) (by simp [Fo.len]) ⟨s1,s2,s3,s4,trivial⟩).mono ?_
 rintro e w' ⟨a,c,rfl,hF,hbel⟩
 obtain ⟨a',c',he,hc1,_,hat⟩:=FSl.at hF.fslu
 cases he
 obtain ⟨g,o,n',l',s',r',an,cn,ab,cb,rfl,hg,hd,m0,m1,m2,hI,hFs⟩:=hat 0 (by simp [Fo.len])
 simp only [Fo.drop,Fo.cons.injEq] at hd
 obtain ⟨rfl,rfl,rfl,rfl⟩:=hd
 simp only [Nat.zero_mul,Nat.add_zero] at m0 m1 m2
 exact ⟨g,o,c,an,cn,ab,cb,rfl,hc1,hg.1.1,m0,m1,m2,hI,hFs,hbel⟩
theorem Get_u (y:Fo) (p:List Ky) (ay ap:Option Addr) (cy cp:Nat) (S T:Nat→Prop) (w:World) (hv:FSl S w (.slice ay y.len cy) y) (hS:∀ b,S b→b < w.heap.size) (hp:Pth T w (.slice ap p.length cp) p) (hT:∀ b,T b→b < w.heap.size)
 (hlen:y.len ≤ 1000) (hsm:y.Sm) (hcnt:y.cnt ≤ 900) (lp:p.length ≤ 1000) :
 Calls Tryz.prog 56 #[.slice ay y.len cy, .slice ap p.length cp] w (GetU y p w):=by
 have hb0:Below w.heap.size w (w.alloc (.cells #[.string { data:=#[] }, .slice none 0 0, .slice none 0 0] 85)):=(Below.refl _ _).alloc (nl_ _) _
 have hR0:=hid (heap_alloc_new w (.cells #[.string { data:=#[] }, .slice none 0 0, .slice none 0 0] 85))
 have HC:=hid (Check_any y ay cy S _ (hv.agree (Ag_b hb0 hS)) (fun b hb=>by have:=hS b hb;simp;omega) hlen hsm hcnt)
 have HB0:=hid hb0
 have HV:=hid hv
 have HP:=hid hp
 have HS:=hid hS
 have HT:=hid hT
 have HSM:=hid hsm
 clear hb0 hv hp hS hT hsm
 by_cases hc:chkY y = 0
 · go_enter Tryz.func56,Tryz.ntmps56
   go_wp2_with fail
   refine HC.out.mono ?_
   rintro e w1 ⟨rfl,hb1⟩
   have hB1:=HB0.out.trans (hb1.mono (by simp))
   have hR1:=hid ((hb1.block w.heap.size (by simp)).trans hR0.out)
   have hsz1:=hb1.size
   simp only [World.size_alloc] at hsz1
   have HA:=hid (at_any y p ay ap cy cp S T w1 (HV.out.agree (Ag_b hB1 HS.out)) (fun b hb=>by have:=HS.out b hb;omega) (HP.out.agree (Ag_b hB1 HT.out)) (fun b hb=>by have:=HT.out b hb;omega) hlen HSM.out lp)
   rw [hc]
   have HB1:=hid hB1
   clear hb1 hB1
   go_wp2_with fail
   refine HA.out.mono ?_
   rintro e w2 ⟨n,l,s,an,cn,ab,cb,hat,rfl,hI,hF,hb2⟩
   have hB2:=HB1.out.trans (hb2.mono (by omega))
   have hR2:=hid ((hb2.block w.heap.size (by omega)).trans hR1.out)
   have hsz2:=hb2.size
   have q0:=cg_ hR2.out (k:=0) rfl
   have q1:=cg_ hR2.out (k:=1) rfl
   have q2:=cg_ hR2.out (k:=2) rfl
   have f0:=cells_frz hR2.out (k:=0)
   have f1:=cells_frz hR2.out (k:=1)
   have f2:=cells_frz hR2.out (k:=2)
   have hlt2:w.heap.size < w2.heap.size:=by omega
   have hne2:w.heap.size ≠ w2.heap.size:=by omega
   have HI:=hid hI
   have HF:=hid hF
   have HB2:=hid hB2
   clear hI hF hb2 hB2
   cases hat':atF y p with
   | none=>
     have hE:=hid (show getE y p = 1 by simp [getE,hc,hat'])
     clear hat
     go_wp2_with fail
     refine bodyPost_ret (v := .tuple #[.agg #[.string { data:=#[] }, .slice none 0 0, .slice none 0 0], .int .i64 1]) (ret56 ((heap_alloc_old _ _ (by simpa using hlt2)).trans (node_set hR2.out)) rfl rfl) rfl ?_
     exact GetU.bad hE.out (by decide) ((below_set3 HB2.out (nl_ _)).alloc (by simp;omega) _)
   | some x=>
     have hE:=hid (show getE y p = 0 by simp [getE,hc,hat'])
     obtain rfl:x = (n,l,s):=by rw [hat'] at hat;exact hat
     have hG:=hid (show getN y p = (n,l,s) by simp [getN,hE.out,hat'])
     obtain ⟨s1,s2,s3,s4⟩:=atF_sm HSM.out hat'
     clear hat hat'
     go_wp2_with fail
     have hBw:Below w.heap.size w ((w2.alloc (.cells #[.string (bs n), .slice an l.length cn, .slice ab s.len cb] 85)).alloc (.cells #[.string (bs n), .slice an l.length cn, .slice ab s.len cb] 85)):=(HB2.out.alloc (by omega) _).alloc (by simp;omega) _
     have hag:Agree S w2 ((w2.alloc (.cells #[.string (bs n), .slice an l.length cn, .slice ab s.len cb] 85)).alloc (.cells #[.string (bs n), .slice an l.length cn, .slice ab s.len cb] 85)):=Ag_b (((Below.refl w2.heap.size w2).alloc (nl_ _) _).alloc (by simp) _) (fun b hb=>by have:=HS.out b hb;omega)
     have hnb:=heap_alloc_new (w2.alloc (.cells #[.string (bs n), .slice an l.length cn, .slice ab s.len cb] 85)) (.cells #[.string (bs n), .slice an l.length cn, .slice ab s.len cb] 85)
     rw [World.size_alloc] at hnb
     refine (own_one n l s _ _ _ _ _ S _ hnb (HI.out.agree hag) (HF.out.agree hag) (fun b hb=>by have:=HS.out b hb;simp;omega) s1 s2 s3 s4).mono ?_
     rintro e w3 ⟨g3,o3,c3,an3,cn3,ab3,cb3,rfl,hc3,hg3,m0,m1,m2,hI3,hF3,hb3⟩
     have hB3:=hBw.trans (hb3.mono (by simp;omega))
     have hR3:w3.heap[w.heap.size]? = _:=(hb3.block w.heap.size (by simp;omega)).trans ((heap_alloc_old _ _ (by simp;omega)).trans ((heap_alloc_old _ _ (by omega)).trans hR2.out))
     have e0:=cg_ hR3 (k:=0) rfl
     have e1:=cg_ hR3 (k:=1) rfl
     have e2:=cg_ hR3 (k:=2) rfl
     have p0:=cells_frz hR3 (k:=0)
     have p1:=cells_frz hR3 (k:=1)
     have p2:=cells_frz hR3 (k:=2)
     have hst:Agree (Rg ((w2.alloc (.cells #[.string (bs n), .slice an l.length cn, .slice ab s.len cb] 85)).alloc (.cells #[.string (bs n), .slice an l.length cn, .slice ab s.len cb] 85)).heap.size w3.heap.size) w3 (((w3.setCell ⟨w.heap.size,0,none⟩ (.string (bs n))).setCell ⟨w.heap.size,1,none⟩ (.slice an3 l.length cn3)).setCell ⟨w.heap.size,2,none⟩ (.slice ab3 s.len cb3)):=fun b hb=>by
      have h1:=hb.1
      simp only [World.size_alloc] at h1
      have hn:b ≠ w.heap.size:=by omega
      rw [Below.heap_setCell _ _ _ _ hn,Below.heap_setCell _ _ _ _ hn,Below.heap_setCell _ _ _ _ hn]
     have HI3:=hid (IntU.agree hI3 hst)
     have HF3:=hid (FSlU.agree hF3 hst)
     have hR3':=hid hR3
     have HB3:=hid hB3
     clear hI3 hF3 hst hR3 hBw hag hnb hB3
     go_wp2_with fail
     refine bodyPost_ret (v := .tuple #[.agg #[.string (bs n), .slice an3 l.length cn3, .slice ab3 s.len cb3], .int .i64 0]) (ret56 (node_set hR3'.out) rfl rfl) rfl ?_
     refine ⟨n,l,s,an3,cn3,ab3,cb3,hG.out,by rw [hE.out],?_,?_,below_set3 HB3.out (nl_ _)⟩
     · exact IntU.wide HI3.out (fun b hb=>⟨by have:=hb.1;simp at this;omega,by simpa using hb.2⟩)
     · exact FSlU.wide HF3.out (fun b hb=>⟨by have:=hb.1;simp at this;omega,by simpa using hb.2⟩)
 · go_enter Tryz.func56,Tryz.ntmps56
   go_wp2_with fail
   refine HC.out.mono ?_
   rintro e w1 ⟨rfl,hb1⟩
   have hB1:=HB0.out.trans (hb1.mono (by simp))
   have hR1:=(hb1.block w.heap.size (by simp)).trans hR0.out
   have q0:=cg_ hR1 (k:=0) rfl
   have q1:=cg_ hR1 (k:=1) rfl
   have q2:=cg_ hR1 (k:=2) rfl
   have f0:=cells_frz hR1 (k:=0)
   have f1:=cells_frz hR1 (k:=1)
   have f2:=cells_frz hR1 (k:=2)
   have hsz1:=hb1.size
   simp only [World.size_alloc] at hsz1
   have hb:(chkY y == 0) = false:=by simpa using hc
   go_wp2_with fail
   refine bodyPost_ret (v := .tuple #[.agg #[.string { data:=#[] }, .slice none 0 0, .slice none 0 0], .int .i64 (chkY y)]) (ret56 (node_set hR1) rfl rfl) rfl ?_
   exact GetU.bad (by simp [getE,hc]) hc (below_set3 hB1 (nl_ _))
theorem Get_any (y:Fo) (p:List Ky) (ay ap:Option Addr) (cy cp:Nat) (S T:Nat→Prop) (w:World) (hv:FSl S w (.slice ay y.len cy) y) (hS:∀ b,S b→b < w.heap.size) (hp:Pth T w (.slice ap p.length cp) p) (hT:∀ b,T b→b < w.heap.size)
 (hlen:y.len ≤ 1000) (hsm:y.Sm) (hcnt:y.cnt ≤ 900) (lp:p.length ≤ 1000) :
 Calls Tryz.prog 56 #[.slice ay y.len cy, .slice ap p.length cp] w (GetR y p w):=
 (Get_u y p ay ap cy cp S T w hv hS hp hT hlen hsm hcnt lp).mono fun _ _ h=>h.getR
end Go.Proofs.LF
namespace Go.Proofs
def Tryz.laysSort_ren:Go.Shelf.Ren:=⟨fun | 6=>121 | 15=>199 | 14=>198 | 28=>237 | 29=>238 | 20=>229 | 21=>230 | 22=>231 | 23=>232 | 24=>233 | 25=>234 | 26=>235 | 27=>236 | 46=>275 | 47=>276 | 48=>277 | 49=>278 | 50=>279 | 57=>299 | n=>n,fun | 22=>49 | 24=>65 | 25=>175 | 3=>3 | 39=>240 | 0=>0 | 53=>201 | 55=>278 | 4=>4 | 46=>292 | 45=>291 | 50=>265 | 5=>5 | 9=>9 | 66=>325 | 70=>329 | 76=>344 | 77=>345 | n=>n,fun | n=>n⟩
theorem Tryz.laysSort:Go.Proofs.SlLaysF.n6 Tryz.prog Tryz.laysSort_ren:={
 mixed:=by kernel_rfl
 f6:=⟨Tryz.f121.name,by decide,Tryz.func121.trans (congrArg some (by kernel_rfl))⟩
 f14:=⟨Tryz.f198.name,by decide,Tryz.func198.trans (congrArg some (by kernel_rfl))⟩
 f15:=Tryz.func199.trans (congrArg some (by kernel_rfl))
 f20:=⟨Tryz.f229.name,by decide,Tryz.func229.trans (congrArg some (by kernel_rfl))⟩
 f21:=⟨Tryz.f230.name,by decide,Tryz.func230.trans (congrArg some (by kernel_rfl))⟩
 f22:=⟨Tryz.f231.name,by decide,Tryz.func231.trans (congrArg some (by kernel_rfl))⟩
 f23:=⟨Tryz.f232.name,by decide,Tryz.func232.trans (congrArg some (by kernel_rfl))⟩
 f24:=⟨Tryz.f233.name,by decide,Tryz.func233.trans (congrArg some (by kernel_rfl))⟩
 f25:=⟨Tryz.f234.name,by decide,Tryz.func234.trans (congrArg some (by kernel_rfl))⟩
 f26:=⟨Tryz.f235.name,by decide,Tryz.func235.trans (congrArg some (by kernel_rfl))⟩
 f27:=⟨Tryz.f236.name,by decide,Tryz.func236.trans (congrArg some (by kernel_rfl))⟩
 f28:=Tryz.func237.trans (congrArg some (by kernel_rfl))
 f29:=Tryz.func238.trans (congrArg some (by kernel_rfl))
 f46:=⟨Tryz.f275.name,by decide,Tryz.func275.trans (congrArg some (by kernel_rfl))⟩
 f47:=Tryz.func276.trans (congrArg some (by kernel_rfl))
 f48:=Tryz.func277.trans (congrArg some (by kernel_rfl))
 f49:=⟨Tryz.f278.name,by decide,Tryz.func278.trans (congrArg some (by kernel_rfl))⟩
 f50:=⟨Tryz.f279.name,by decide,Tryz.func279.trans (congrArg some (by kernel_rfl))⟩
 f57:=⟨Tryz.f299.name,by decide,Tryz.func299.trans (congrArg some (by kernel_rfl))⟩
 t0:=Tryz.underlying0
 a0:=Tryz.isAgg0
 z0:=Tryz.sizeOf0
 v0:=Tryz.zeroValue0
 t3:=Tryz.underlying3
 a3:=Tryz.isAgg3
 z3:=Tryz.sizeOf3
 v3:=Tryz.zeroValue3
 t4:=Tryz.underlying4
 a4:=Tryz.isAgg4
 z4:=Tryz.sizeOf4
 v4:=Tryz.zeroValue4
 t5:=Tryz.underlying5
 a5:=Tryz.isAgg5
 z5:=Tryz.sizeOf5
 v5:=Tryz.zeroValue5
 t9:=Tryz.underlying9
 a9:=Tryz.isAgg9
 z9:=Tryz.sizeOf9
 v9:=Tryz.zeroValue9
 t22:=Tryz.underlying49
 a22:=Tryz.isAgg49
 z22:=Tryz.sizeOf49
 v22:=Tryz.zeroValue49
 a24:=Tryz.isAgg65
 z24:=Tryz.sizeOf65
 t25:=Tryz.underlying175
 a25:=Tryz.isAgg175
 z25:=Tryz.sizeOf175
 v25:=Tryz.zeroValue175
 t39:=Tryz.underlying240
 a39:=Tryz.isAgg240
 z39:=Tryz.sizeOf240
 v39:=Tryz.zeroValue240
 t45:=Tryz.underlying291
 a45:=Tryz.isAgg291
 z45:=Tryz.sizeOf291
 v45:=Tryz.zeroValue291
 t46:=Tryz.underlying292
 a46:=Tryz.isAgg292
 z46:=Tryz.sizeOf292
 v46:=Tryz.zeroValue292
 t50:=Tryz.underlying265
 a50:=Tryz.isAgg265
 z50:=Tryz.sizeOf265
 v50:=Tryz.zeroValue265
 t53:=Tryz.underlying201
 a53:=Tryz.isAgg201
 z53:=Tryz.sizeOf201
 v53:=Tryz.zeroValue201
 t55:=Tryz.underlying278
 a55:=Tryz.isAgg278
 z55:=Tryz.sizeOf278
 v55:=Tryz.zeroValue278
 t66:=Tryz.underlying325
 a66:=Tryz.isAgg325
 z66:=Tryz.sizeOf325
 v66:=Tryz.zeroValue325
 t70:=Tryz.underlying329
 a70:=Tryz.isAgg329
 z70:=Tryz.sizeOf329
 v70:=Tryz.zeroValue329
 t76:=Tryz.underlying344
 a76:=Tryz.isAgg344
 z76:=Tryz.sizeOf344
 v76:=Tryz.zeroValue344
 t77:=Tryz.underlying345
 a77:=Tryz.isAgg345
 z77:=Tryz.sizeOf345
 v77:=Tryz.zeroValue345 }
namespace LF
open Go.RowKit Go.Sort
set_option maxHeartbeats 4000000
set_option maxRecDepth 100000
structure PV where
 v:Value
 p:List Ky
 deriving Inhabited
theorem swoP {α:Type} (f:α→List Ky):SWO (ltOf (fun x y:α=>cmpP (f x) (f y))) where
 irrefl x:=by simp [ltOf,cmpP_ord.refl]
 trans x y z h1 h2:=by simp only [ltOf,decide_eq_true_eq] at *;exact cmpP_ord.trans h1 h2
 ntrans x y z h1 h2:=by
  simp only [ltOf,decide_eq_false_iff_not] at *
  intro h
  rcases Int.lt_trichotomy (cmpP (f x) (f y)) 0 with h3 | h3 | h3
  · exact h1 h3
  · rw [cmpP_ord.eq h3] at h;exact h2 h
  · have h4:=cmpP_ord.flop h3
    exact h2 (cmpP_ord.trans h4 h)
theorem sortW_block {α:Type} [Inhabited α] {enc:α→Value} {w:World} {g n b:Nat} {os:Array Obj} {d:Array α} (hb:b < w.heap.size) (hne:b ≠ g):(sortWorld enc w g 0 n d os).heap[b]? = w.heap[b]?:=by
 unfold sortWorld
 rw [heap_grow_old _ _ (by simpa using hb)]
 have:g ≠ b:=fun e=>hne e.symm
 simp [putRow,mapBlock,Sort.ahead,Array.getElem?_modify,this]
theorem sortW_grown {α:Type} [Inhabited α] {enc:α→Value} {w:World} {g n:Nat} {os:Array Obj} (d:Array α):w.grownBy (sortWorld enc w g 0 n d os) (some g):=
 ⟨rfl,rfl,rfl,by unfold sortWorld;simp,fun k hk hne=>sortW_block hk (fun e=>hne (by rw [e]))⟩
theorem sortW_row {α:Type} [Inhabited α] {enc:α→Value} {w:World} {g n:Nat} {os:Array Obj} {d:Array α} {cur:Array Value} {e:TypeId} (hb:w.heap[g]? = some (.cells cur e (0,0))):(sortWorld enc w g 0 n d os).heap[g]? = some (.cells (putCells enc 0 d cur) e (0,0)):=by
 have hg:g < w.heap.size:=(Array.getElem?_eq_some_iff.1 hb).1
 unfold sortWorld
 rw [heap_grow_old _ _ (by simpa using hg)]
 simp [putRow,mapBlock,Sort.ahead,Array.getElem?_modify,hb,onCells]
theorem take_putC {α:Type} [Inhabited α] (enc:α→Value) (cur:Array Value) (d:Array α) (h:d.size ≤ cur.size):(putCells enc 0 d cur).toList.take d.size = d.toList.map enc:=by
 apply List.ext_getElem?
 intro j
 by_cases hj:j < d.size
 · rw [List.getElem?_take_of_lt hj,Array.getElem?_toList]
   simp [putCells,hj,show j < cur.size by omega]
 · rw [List.getElem?_take_eq_none (by omega),List.getElem?_eq_none (by simp;omega)]
abbrev PVs (M:Nat→Prop) (w:World):={ x:PV // (∃ a c,x.v = .slice a x.p.length c)∧Pth M w x.v x.p∧x.p.length ≤ 1000 }
theorem pvs_of {M:Nat→Prop} {w:World}:∀ {ps:List (List Ky)} {cs:List Value},LCs rdPa M w ps cs→(∀ p ∈ ps,p.length ≤ 1000)→∃ ds:List (PVs M w),ds.map (·.1.v) = cs∧ds.map (·.1.p) = ps
 | [],_,h,_=>⟨[],by rw [show _ = [] from h];rfl,rfl⟩
 | p :: ps,_,⟨c,es,h1,⟨ap,cp,h2,h3⟩,h4⟩,hl=>by
   obtain ⟨ds,hd1,hd2⟩:=pvs_of h4 (fun q hq=>hl q (by simp [hq]))
   exact ⟨⟨⟨.slice ap p.length cp,p⟩,⟨ap,cp,rfl⟩,h3,hl p (by simp)⟩ :: ds,by rw [h1,h2,← hd1];rfl,by simp [hd2]⟩
theorem pvs_to {M:Nat→Prop} {w:World}:∀ (ds:List (PVs M w)),LCs rdPa M w (ds.map (·.1.p)) (ds.map (·.1.v))
 | []=>rfl
 | x :: ds=>by
   obtain ⟨a,c,h⟩:=x.2.1
   refine ⟨[x.1.v],ds.map (·.1.v),rfl,⟨a,c,by rw [h],?_⟩,pvs_to ds⟩
   have:=x.2.2.1
   rwa [h] at this
theorem enters103 (args:Array Value) (w:World):(callFunc 103 args).run Tryz.prog w = .ok (.enter 103 args) w:=by simp [go_sem]
theorem sort_any (ps:List (List Ky)) (v:Value) (B:Nat) (cs:List Value) (M:Nat→Prop) (w:World) (hown:w.ownsRow B 65 1 v ps.length cs) (hlc:LCs rdPa M w ps cs) (hM:∀ b,M b→b < w.heap.size∧v.ownBlock ≠ some b) (hps:∀ p ∈ ps,p.length ≤ 1000) (hl:ps.length ≤ 100000) :
 Calls Tryz.prog 121 #[v, .func (.func 103) #[] #[]] w fun e w'=>e = .returned (.tuple #[])∧∃ cs',w'.ownsRow B 65 1 v ps.length cs'∧LCs rdPa M w' (srtP ps) cs'∧w.grownBy w' v.ownBlock:=by
 by_cases h0:ps.length = 0
 · obtain rfl:=List.eq_nil_of_length_eq_zero h0
   obtain ⟨a,c,rfl,_,_⟩:=owns_shape hown
   refine (AnyF.slices_SortFunc_none (L:={ Tryz.laysSort with }) a c (.func (.func 103) #[] #[]) w).mono ?_
   rintro e w' ⟨rfl,rfl⟩
   exact ⟨rfl,cs,hown,by simpa [srtP] using hlc,World.grownBy.refl _ _⟩
 · obtain ⟨h1,⟨rfl,h2⟩ | ⟨g,cap,cur,rfl,hbg,hgg,hn,hcap,hsz,htk⟩⟩:=hown
   · exact absurd h2 h0
   · obtain ⟨ds,hd1,hd2⟩:=pvs_of hlc hps
     have hdl:ds.length = ps.length:=by rw [← hd2];simp
     have hgl:g < w.heap.size:=(Array.getElem?_eq_some_iff.1 hgg).1
     haveI:Inhabited (PVs M w):=⟨ds[0]'(by omega)⟩
     have hMg:∀ b,M b→b ≠ g:=fun b hb e=>(hM b hb).2 (by simp [Value.ownBlock,e])
     have hH:Holds (fun x:PVs M w=>x.1.v) w g 0 ds.toArray:=by
      intro j hj
      have hj':j < ds.length:=by simpa using hj
      have e1:cs[j]? = some (ds[j]).1.v:=by rw [← hd1];simp [hj']
      rw [← htk,Nat.mul_one,List.getElem?_take] at e1
      rw [if_pos (by omega)] at e1
      refine ⟨?_,by simp [World.frozen?,hgg]⟩
      simp only [World.cell?,hgg,Nat.zero_add]
      rw [← Array.getElem?_toList,e1]
      simp [hj']
     have hag:∀ m os (dk:Array (PVs M w)),Agree M w (sortWorld (fun x:PVs M w=>x.1.v) w g 0 m dk os):=fun m os dk b hb=>sortW_block (hM b hb).1 (hMg b hb)
     have hcmp:CmpLays1 Tryz.prog 103 #[] (fun x:PVs M w=>x.1.v) (fun x y=>cmpP x.1.p y.1.p) g 0 ds.toArray.size w:=by
      intro m os dk hs x y
      obtain ⟨ax,cx,hx⟩:=x.2.1
      obtain ⟨ay,cy,hy⟩:=y.2.1
      have hpx:=x.2.2.1
      have hpy:=y.2.2.1
      have:=byPath_g x.1.p y.1.p ax ay cx cy M (sortWorld (fun x:PVs M w=>x.1.v) w g 0 m dk os) ((by rw [← hx];exact hpx.agree (hag m os dk))) ((by rw [← hy];exact hpy.agree (hag m os dk))) (fun b hb=>by have h9:=(sortW_grown (enc:=fun x:PVs M w=>x.1.v) (w:=w) (g:=g) (n:=m) (os:=os) dk).size;have:=(hM b hb).1;omega) x.2.2.2 y.2.2.2
      simp only [hx,hy]
      simpa [Grw] using this
     have hcon:=Any.slices_SortFunc Tryz.laysSort (fun x:PVs M w=>x.1.v) (fun x=>by obtain ⟨a,c,h⟩:=x.2.1;show x.1.v.oneCell' = true;rw [h];rfl) (fun x y=>cmpP x.1.p y.1.p) (swoP fun x:PVs M w=>x.1.p) 103 #[] g 0 cap ds.toArray w enters103 hcmp hH hgl (by simp;omega)
     have e1:ds.toArray.size = ps.length:=by simpa using hdl
     rw [e1] at hcon
     refine hcon.mono ?_
     rintro e w' ⟨rfl,d',n,os,⟨hp1,_,hp3⟩,hs,rfl⟩
     have hps':(d'.toList.map (·.1.p)).Perm ps:=by
      have h3:d'.toList.Perm ds:=by
       have:=hp3
       rw [← e1] at this
       rw [Array.extract_eq_self_of_le (by omega),Array.extract_eq_self_of_le (by omega)] at this
       simpa using this
      rw [← hd2]
      exact h3.map _
     have hd's:d'.size = ps.length:=by rw [hp1,e1]
     have hsorted:(d'.toList.map (·.1.p)).Pairwise (fun a b=>cmpP a b ≤ 0):=by
      rw [List.pairwise_map,List.pairwise_iff_getElem]
      intro i j hi hj hij
      have hi':i < d'.size:=by simpa using hi
      have hj':j < d'.size:=by simpa using hj
      have:=hs i j (Nat.zero_le _) hij (by omega)
      simp only [ltOf,decide_eq_false_iff_not] at this
      rw [getElem!_pos d' j hj',getElem!_pos d' i hi'] at this
      simp only [Array.getElem_toList]
      rcases Int.lt_trichotomy (cmpP d'[i].1.p d'[j].1.p) 0 with h | h | h
      · omega
      · omega
      · exact absurd (cmpP_ord.flop h) this
     have hsrt:=srtP_of hps' hsorted
     refine ⟨rfl,d'.toList.map (·.1.v),⟨by simp [hd's], .inr ⟨g,cap,_,rfl,hbg,sortW_row hgg,hn,hcap,by simp [putCells,hsz],?_⟩⟩,?_,sortW_grown d'⟩
     · rw [Nat.mul_one,← hd's]
       exact take_putC _ _ _ (by omega)
     · rw [← hsrt]
       exact (pvs_to d'.toList).agree (hag n os d')
end LF
end Go.Proofs
namespace Go.Proofs.LF
open Go.RowKit Go.Sort
set_option maxHeartbeats 4000000
set_option maxRecDepth 100000
attribute [local go_sem] bs_toList bs_size bs_get
theorem cmpFl_any (p q:List Ky) (ap aq al:Option Addr) (cp cq nl cl:Nat) (S:Nat→Prop) (w:World) (hp:Pth S w (.slice ap p.length cp) p) (hq:Pth S w (.slice aq q.length cq) q) (hS:∀ b,S b→b < w.heap.size) (lp:p.length ≤ 1000) (lq:q.length ≤ 1000) :
 Calls Tryz.prog 197 #[.agg #[.slice ap p.length cp, .slice al nl cl], .slice aq q.length cq] w fun e w'=>e = .returned (.int .i64 (cmpP p q))∧Below w.heap.size w w':=by
 have hb:Below w.heap.size w (w.alloc (.cells #[.slice ap p.length cp, .slice al nl cl] 171)):=(Below.refl _ _).alloc (nl_ _) _
 have ha:=Ag_b hb hS
 have H:=hid (byPath_any p q ap aq cp cq S _ (hp.agree ha) (hq.agree ha) (fun b h=>by have:=hS b h;simp;omega) lp lq)
 have HB:=hid hb
 clear hb ha hp hq
 go_enter Tryz.func197,Tryz.ntmps197
 go_wp2_with fail
 refine H.out.mono ?_
 rintro e w1 ⟨rfl,hb1⟩
 have HB1:=hid (HB.out.trans (hb1.mono HB.out.size))
 go_wp2_with fail
 go_ret
 exact ⟨rfl,HB1.out⟩
theorem bsearch_any (l:List Fl) (p:List Ky) (al ap:Option Addr) (cl cp:Nat) (S T:Nat→Prop) (w:World) (hv:FlSl S w (.slice al l.length cl) l) (hS:∀ b,S b→b < w.heap.size) (hp:Pth T w (.slice ap p.length cp) p) (hT:∀ b,T b→b < w.heap.size)
 (hl:l.length ≤ 1000) (hsm:SmF l) (lp:p.length ≤ 1000) :
 Calls Tryz.prog 196 #[.slice al l.length cl, .slice ap p.length cp, .func (.func 197) #[] #[]] w fun e w'=>e = .returned (.tuple #[.int .i64 (fndI l p), .bool (decide (fndI l p < l.length) && decide (cmpP (l.getD (fndI l p) fl0).p p = 0))])∧Below w.heap.size w w':=by
 obtain ⟨a',c',he,hc,hcm,hat⟩:=hv.at
 obtain ⟨rfl,rfl⟩:al = a'∧cl = c':=by cases he;exact ⟨rfl,rfl⟩
 have HAT:=hid hat
 have HS:=hid hS
 have HT:=hid hT
 have HP:=hid hp
 have HSM:=hid hsm
 clear hat hS hT hp hsm he hv
 unfold maxLen at hcm
 have hcall:∀ (i:Nat) (hi:i < l.length) (W:World),Below w.heap.size w W→∃ g o ap2 cp2 an cn,al = some ⟨g,o,none⟩∧W.cell? ⟨g,o + i * 2,none⟩ = some (.slice ap2 l[i].p.length cp2)∧W.cell? ⟨g,o + i * 2 + 1,none⟩ = some (.slice an l[i].l.length cn) ∧
  Hid (Calls Tryz.prog 197 #[.agg #[.slice ap2 l[i].p.length cp2, .slice an l[i].l.length cn], .slice ap p.length cp] W fun e w'=>e = .returned (.int .i64 (cmpP l[i].p p))∧Below W.heap.size W w'):=by
  intro i hi W hB
  obtain ⟨g,o,cs1,rfl,hg,⟨ap2,cp2,an,cn,rfl,hP,hI⟩,hcell⟩:=HAT.out i hi
  have ha:Agree S w W:=Ag_b hB HS.out
  have c0:=ha.cell hg (hcell 0 _ rfl)
  have c1:=ha.cell hg (hcell 1 _ rfl)
  rw [Nat.add_zero] at c0
  rw [← Nat.add_assoc] at c1
  exact ⟨g,o,ap2,cp2,an,cn,rfl,c0,c1,cmpFl_any l[i].p p ap2 ap an cp2 cp _ cn (fun b=>S b ∨ T b) W ((hP.agree ha).wide fun b hb => .inl hb) ((HP.out.agree (Ag_b hB HT.out)).wide fun b hb => .inr hb)
   (fun b hb=>by have:=hB.size;rcases hb with hb | hb;have:=HS.out b hb;omega;have:=HT.out b hb;omega) (HSM.out _ (List.getElem_mem hi)).1 lp⟩
 have HC:=hid hcall
 clear hcall
 go_enter Tryz.func196,Tryz.ntmps196
 go_wp2_with fail
 go_loopw [9,10] (fun vi vj wr=>∃ i j:Nat,vi = .int .i64 i∧vj = .int .i64 j∧i ≤ j∧j ≤ l.length∧Hid (fndI l p = bsF (fun h=>decide (cmpP (l.getD h fl0).p p < 0)) i j)∧Below w.heap.size w wr) (fun vi vj _=>(intOf vj).toNat - (intOf vi).toNat)
 case atStart=>exact ⟨0,l.length,rfl,rfl,Nat.zero_le _,nl_ _,rfl,Below.refl _ _⟩
 case round=>
  obtain ⟨i,j,rfl,rfl,hij,hjl,hF,hB⟩:=hrel
  have hsz:=hB.size
  by_cases hlt:i < j
  · have hlt':(i:Int) < (j:Int):=by omega
    obtain ⟨h,hh⟩:∃ h,(i + j) / 2 = h:=⟨_,rfl⟩
    have hhi:((i:Int) + (j:Int)) / 2 = (h:Int):=by omega
    have hhl:h < l.length:=by omega
    have hb1:i ≤ h:=by omega
    have hb2:h < j:=by omega
    have hhl':(h:Int) < (l.length:Int):=by omega
    have hh0:(0:Int) ≤ (h:Int):=by omega
    obtain ⟨g,o,ap2,cp2,an,cn,rfl,c0,c1,H⟩:=HC.out h hhl wr hB
    have hF2:=hF.out
    rw [bsF_go hlt,hh] at hF2
    have hg:l.getD h fl0 = l[h]:=by simp [List.getD_eq_getElem?_getD,hhl]
    simp only [hg,decide_eq_true_eq] at hF2
    have HF:=hid hF2
    clear hF2 hg hh
    go_wp2_with fail
    refine H.out.mono ?_
    rintro e w2 ⟨rfl,hb3⟩
    have HB:=hid (hB.trans (hb3.mono hsz))
    clear hb3
    by_cases hneg:cmpP l[h].p p < 0
    · have hF3:=HF.out
      rw [if_pos hneg] at hF3
      have HF3:=hid hF3
      clear hF3
      go_wp2_with fail
      go_roundw
      case rel=>exact ⟨h + 1,j,by go_num,rfl,by omega,hjl,HF3.out,HB.out⟩
      case measure=>simp [intOf];omega
    · have hF3:=HF.out
      rw [if_neg hneg] at hF3
      have HF3:=hid hF3
      clear hF3
      go_wp2_with fail
      go_roundw
      case rel=>exact ⟨i,h,rfl,rfl,hb1,by omega,HF3.out,HB.out⟩
      case measure=>simp [intOf];omega
  · obtain rfl:i = j:=by omega
    have hlt':¬ (i:Int) < (i:Int):=by omega
    by_cases hil:i < l.length
    · have hil':(i:Int) < (l.length:Int):=by omega
      obtain ⟨g,o,ap2,cp2,an,cn,rfl,c0,c1,H⟩:=HC.out i hil wr hB
      have hF2:=hF.out
      rw [bsF_stop (by omega)] at hF2
      have HF:=hid hF2
      clear hF2
      go_wp2_with fail
      refine H.out.mono ?_
      rintro e w2 ⟨rfl,hb3⟩
      have HB:=hid (hB.trans (hb3.mono hsz))
      clear hb3
      have hfin:(decide (fndI l p < l.length) && decide (cmpP (l.getD (fndI l p) fl0).p p = 0)) = decide (cmpP l[i].p p = 0):=by
       rw [HF.out];simp [hil,List.getD_eq_getElem?_getD]
      have HFI:=hid hfin
      clear hfin
      by_cases hz:cmpP l[i].p p = 0
      · have hz':(cmpP l[i].p p == 0) = true:=by simp [hz]
        have hzd:decide (cmpP l[i].p p = 0) = true:=by simp [hz]
        have HZ:=hid hzd
        clear hz hzd
        go_wp2_with fail
        go_ret2
        exact ⟨by rw [HFI.out,HZ.out,HF.out];simp,HB.out⟩
      · have hz':(cmpP l[i].p p == 0) = false:=by simp [hz]
        have hzd:decide (cmpP l[i].p p = 0) = false:=by simp [hz]
        have HZ:=hid hzd
        clear hz hzd
        go_wp2_with fail
        go_ret2
        exact ⟨by rw [HFI.out,HZ.out,HF.out];simp,HB.out⟩
    · have hil':¬ (i:Int) < (l.length:Int):=by omega
      have hF2:=hF.out
      rw [bsF_stop (by omega)] at hF2
      have HF:=hid hF2
      clear hF2
      have hfin:(decide (fndI l p < l.length) && decide (cmpP (l.getD (fndI l p) fl0).p p = 0)) = false:=by
       rw [HF.out];simp [hil]
      have HFI:=hid hfin
      clear hfin
      go_wp2_with fail
      go_ret2
      exact ⟨by have h1:=HF.out;have h2:=HFI.out;rw [h1] at h2 ⊢;simp [hil],hB⟩
end Go.Proofs.LF
namespace Go.Proofs.LF
def SmFl (x:Fl):Prop:=x.p.length ≤ 4∧(∀ k ∈ x.p,k.n.length ≤ 8)∧x.l.length ≤ 4
theorem prsG_bd (t:List UInt8):∀ (f i ln dp:Nat) (ks:List Ky) (fs:List Fl),ks.length = 4→(∀ k ∈ ks,k.n.length ≤ 8)→fs.length = ln→ln ≤ 60→(∀ x ∈ fs,SmFl x) →
 (prsG t f i ln dp ks fs).1.length ≤ 60∧∀ x ∈ (prsG t f i ln dp ks fs).1,SmFl x
 | 0,_,_,_,_,_,_,_,_,_,_=>by simp [prsG]
 | f + 1,i,ln,dp,ks,fs,h1,h2,h3,h4,h5=>by
   simp only [prsG]
   split
   · split
     · simp
     · split
       · simp
       · split
         · simp
         · rename_i h60 _ _
           obtain ⟨_,_,r3,r4,_⟩:=rdLine_le dp (t.drop i)
           have hk:∀ k ∈ ks.set (rdLine dp (t.drop i)).1 (kyOf (rdLine dp (t.drop i)).2.1 (rdLine dp (t.drop i)).2.2.1),k.n.length ≤ 8:=fun k hk=>by
            rcases List.mem_or_eq_of_mem_set hk with h | h
            · exact h2 k h
            · rw [h,kyOf_n];exact r4
           refine prsG_bd t f _ _ _ _ _ (by rw [List.length_set];exact h1) hk (by rw [List.length_append,h3];rfl) (by omega) fun x hx=>?_
           rcases List.mem_append.1 hx with h | h
           · exact h5 x h
           · rw [List.mem_singleton] at h
             rw [h]
             refine ⟨?_,fun k hk'=>hk k (List.mem_of_mem_take hk'),r3⟩
             show (List.take _ _).length ≤ 4
             rw [List.length_take,List.length_set,h1];exact Nat.min_le_right _ _
   · exact ⟨by rw [h3];exact h4,h5⟩
theorem prs_bd (t:List UInt8):(prs t).1.length ≤ 60∧∀ x ∈ (prs t).1,SmFl x:=prsG_bd t 62 0 0 0 _ [] rfl (by simp [ky0]) rfl (by omega) (by simp)
end Go.Proofs.LF
